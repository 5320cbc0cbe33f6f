/- Object identifiers and sets of them: whether they are valid, which one is ahead, whether one is in a list. Own work of this seat. -/
import Derived.Test.YtepnbdacekkapaaGreatDoorOid37
namespace Go.Proofs.YtepnbdacekkapaaGreatDoor.Ai
open Go
set_option linter.unusedSimpArgs false
set_option linter.unusedVariables false
set_option maxHeartbeats 4000000
set_option maxRecDepth 100000
def okO (o : Od) : Prop := 0 ≤ o.n ∧ o.n ≤ 255
def cmpO (x y : Od) : Int := lcmp (arcsO x) (arcsO y)
theorem arcsO_len (o : Od) : (arcsO o).length ≤ 16 := by
  unfold arcsO
  rw [List.length_take]
  exact Nat.le_trans (Nat.min_le_right _ _) (Nat.le_refl 16)
theorem cmpO_call (x y : Od) (hx : okO x) (hy : okO y) : CallF Cx 62 [.agg (oidRow x), .agg (oidRow y)] [] (.int .i64 (cmpO x y)) [] := by
  have h1 := hx; have h2 := hy
  unfold okO at h1 h2
  have l1 := arcsO_len x
  have l2 := arcsO_len y
  refine sy_call (X := Sx0) (fun _ => false) [] [] (fn := Tryz.f62) Tryz.func62 rfl (by decide) rfl rfl ?_
  repeat' (first | ((refine run ?_); conv => whnf) | with_reducible refine split_nt (by assumption) ?_ | with_reducible refine split_nf (by assumption) ?_ | with_reducible refine split_ht (by assumption) ?_ | with_reducible refine split_hf (by assumption) ?_ | ((first | with_reducible refine split_neg (fun hc => ?_) (fun hc => ?_) | refine split (fun hc => ?_) (fun hc => ?_)) <;> (try simp only [bsl, true_implies, false_implies, Int.reduceEq, Int.reduceLT, Int.reduceLE, Nat.reduceLT, Nat.reduceEqDiff] at hc) <;> (try (exfalso; omega)) <;> (try exact (bool_tf hc (by assumption)).elim) <;> (try exact (bool_ft hc (by assumption)).elim)) | refine fact_in (fun hby => ?_) | refine un_rfl ?_ | refine stp ?_ | exact obs | with_reducible refine And.intro ?_ ?_ | refine nrm ?_ | apply row_eq | (apply cut_end <;> first | ((refine run ?_); conv => whnf) | exact obs) | (apply cut_drop <;> first | ((refine run ?_); conv => whnf) | exact obs) | (apply cuts_end <;> first | ((refine run ?_); conv => whnf) | exact obs) | (apply cuts_drop <;> first | ((refine run ?_); conv => whnf) | exact obs) | (apply wrap_in <;> first | ((refine run ?_); conv => whnf) | exact obs | exact eqs) | refine stq ?_ | (apply callP_skip <;> first | ((refine run ?_); conv => whnf) | assumption | (simp only [bsl, *]; done) | (simp [*]; done)) | ((refine open_in ?_ ?_) <;> first | ((refine run ?_); conv => whnf) | kernel_rfl) | exact eqs | (intro _; rfl))
  refine ret_eq ?_ (by rfl); rfl
instance {x y : Od} : Con Sx0 62 [.agg [.int .u8 x.n, .int .u32 x.a0, .int .u32 x.a1, .int .u32 x.a2, .int .u32 x.a3, .int .u32 x.a4, .int .u32 x.a5, .int .u32 x.a6, .int .u32 x.a7, .int .u32 x.a8, .int .u32 x.a9, .int .u32 x.a10, .int .u32 x.a11, .int .u32 x.a12, .int .u32 x.a13, .int .u32 x.a14, .int .u32 x.a15], .agg [.int .u8 y.n, .int .u32 y.a0, .int .u32 y.a1, .int .u32 y.a2, .int .u32 y.a3, .int .u32 y.a4, .int .u32 y.a5, .int .u32 y.a6, .int .u32 y.a7, .int .u32 y.a8, .int .u32 y.a9, .int .u32 y.a10, .int .u32 y.a11, .int .u32 y.a12, .int .u32 y.a13, .int .u32 y.a14, .int .u32 y.a15]] (okO x ∧ okO y) (.int .i64 (cmpO x y)) := con fun h => cmpO_call x y h.1 h.2
def chkO (o : Od) : Int := if o.n < 2 ∨ 16 < o.n ∨ 2 < o.a0 then 1 else if (o.a0 < 2 ∧ 39 < o.a1) ∨ 4294967215 < o.a1 then 1 else if ∀ x, x ∈ (arcL o).drop o.n.toNat → x = 0 then 0 else 1
theorem chkO_call (o : Od) (h : okO o) : CallF Cx 61 [.agg (oidRow o)] [] (.int .i64 (chkO o)) [] := by
  unfold okO at h
  obtain ⟨g1, g2⟩ := h
  by_cases h1 : o.n < 2 ∨ 16 < o.n ∨ 2 < o.a0
  · have e : chkO o = 1 := if_pos h1
    rw [e]
    refine sy_call (X := Sx0) (fun _ => false) [] [] (fn := Tryz.f61) Tryz.func61 rfl (by decide) rfl rfl ?_
    repeat' (first | ((refine run ?_); conv => whnf) | with_reducible refine split_nt (by assumption) ?_ | with_reducible refine split_nf (by assumption) ?_ | with_reducible refine split_ht (by assumption) ?_ | with_reducible refine split_hf (by assumption) ?_ | ((first | with_reducible refine split_neg (fun hc => ?_) (fun hc => ?_) | refine split (fun hc => ?_) (fun hc => ?_)) <;> (try simp only [bsl, true_implies, false_implies, Int.reduceEq, Int.reduceLT, Int.reduceLE, Nat.reduceLT, Nat.reduceEqDiff] at hc) <;> (try (exfalso; omega)) <;> (try exact (bool_tf hc (by assumption)).elim) <;> (try exact (bool_ft hc (by assumption)).elim)) | refine fact_in (fun hby => ?_) | refine un_rfl ?_ | refine stp ?_ | exact obs | with_reducible refine And.intro ?_ ?_ | refine nrm ?_ | apply row_eq | (apply cut_end <;> first | ((refine run ?_); conv => whnf) | exact obs) | (apply cut_drop <;> first | ((refine run ?_); conv => whnf) | exact obs) | (apply cuts_end <;> first | ((refine run ?_); conv => whnf) | exact obs) | (apply cuts_drop <;> first | ((refine run ?_); conv => whnf) | exact obs) | (apply wrap_in <;> first | ((refine run ?_); conv => whnf) | exact obs | exact eqs) | refine stq ?_ | (apply callP_skip <;> first | ((refine run ?_); conv => whnf) | assumption | (simp only [bsl, *]; done) | (simp [*]; done)) | ((refine open_in ?_ ?_) <;> first | ((refine run ?_); conv => whnf) | kernel_rfl) | exact eqs | (intro _; rfl))
    all_goals first
      | (refine ret_eq ?_ (by rfl); rfl)
      | (exfalso; omega)
  · by_cases h2 : (o.a0 < 2 ∧ 39 < o.a1) ∨ 4294967215 < o.a1
    · have e : chkO o = 1 := by unfold chkO; rw [if_neg h1, if_pos h2]
      rw [e]
      refine sy_call (X := Sx0) (fun _ => false) [] [] (fn := Tryz.f61) Tryz.func61 rfl (by decide) rfl rfl ?_
      repeat' (first | ((refine run ?_); conv => whnf) | with_reducible refine split_nt (by assumption) ?_ | with_reducible refine split_nf (by assumption) ?_ | with_reducible refine split_ht (by assumption) ?_ | with_reducible refine split_hf (by assumption) ?_ | ((first | with_reducible refine split_neg (fun hc => ?_) (fun hc => ?_) | refine split (fun hc => ?_) (fun hc => ?_)) <;> (try simp only [bsl, true_implies, false_implies, Int.reduceEq, Int.reduceLT, Int.reduceLE, Nat.reduceLT, Nat.reduceEqDiff] at hc) <;> (try (exfalso; omega)) <;> (try exact (bool_tf hc (by assumption)).elim) <;> (try exact (bool_ft hc (by assumption)).elim)) | refine fact_in (fun hby => ?_) | refine un_rfl ?_ | refine stp ?_ | exact obs | with_reducible refine And.intro ?_ ?_ | refine nrm ?_ | apply row_eq | (apply cut_end <;> first | ((refine run ?_); conv => whnf) | exact obs) | (apply cut_drop <;> first | ((refine run ?_); conv => whnf) | exact obs) | (apply cuts_end <;> first | ((refine run ?_); conv => whnf) | exact obs) | (apply cuts_drop <;> first | ((refine run ?_); conv => whnf) | exact obs) | (apply wrap_in <;> first | ((refine run ?_); conv => whnf) | exact obs | exact eqs) | refine stq ?_ | (apply callP_skip <;> first | ((refine run ?_); conv => whnf) | assumption | (simp only [bsl, *]; done) | (simp [*]; done)) | ((refine open_in ?_ ?_) <;> first | ((refine run ?_); conv => whnf) | kernel_rfl) | exact eqs | (intro _; rfl))
      all_goals first
        | (refine ret_eq ?_ (by rfl); rfl)
        | (exfalso; omega)
    · have e : chkO o = if ∀ x, x ∈ (arcL o).drop o.n.toNat → x = 0 then 0 else 1 := by unfold chkO; rw [if_neg h1, if_neg h2]
      have hl : (arcL o).length = 16 := rfl
      refine sy_call (X := Sx0) (fun _ => false) [] [] (fn := Tryz.f61) Tryz.func61 rfl (by decide) rfl rfl ?_
      repeat' (first | ((refine run ?_); conv => whnf) | with_reducible refine split_nt (by assumption) ?_ | with_reducible refine split_nf (by assumption) ?_ | with_reducible refine split_ht (by assumption) ?_ | with_reducible refine split_hf (by assumption) ?_ | ((first | with_reducible refine split_neg (fun hc => ?_) (fun hc => ?_) | refine split (fun hc => ?_) (fun hc => ?_)) <;> (try simp only [bsl, true_implies, false_implies, Int.reduceEq, Int.reduceLT, Int.reduceLE, Nat.reduceLT, Nat.reduceEqDiff] at hc) <;> (try (exfalso; omega)) <;> (try exact (bool_tf hc (by assumption)).elim) <;> (try exact (bool_ft hc (by assumption)).elim)) | refine fact_in (fun hby => ?_) | refine un_rfl ?_ | refine stp ?_ | exact obs | with_reducible refine And.intro ?_ ?_ | refine nrm ?_ | apply row_eq | (apply cut_end <;> first | ((refine run ?_); conv => whnf) | exact obs) | (apply cut_drop <;> first | ((refine run ?_); conv => whnf) | exact obs) | (apply cuts_end <;> first | ((refine run ?_); conv => whnf) | exact obs) | (apply cuts_drop <;> first | ((refine run ?_); conv => whnf) | exact obs) | (apply wrap_in <;> first | ((refine run ?_); conv => whnf) | exact obs | exact eqs) | refine stq ?_ | (apply callP_skip <;> first | ((refine run ?_); conv => whnf) | assumption | (simp only [bsl, *]; done) | (simp [*]; done)) | ((refine open_in ?_ ?_) <;> first | ((refine run ?_); conv => whnf) | kernel_rfl) | exact eqs | (intro _; rfl))
      have hlen : (List.drop o.n.toNat (List.take 16 [o.a0, o.a1, o.a2, o.a3, o.a4, o.a5, o.a6, o.a7, o.a8, o.a9, o.a10, o.a11, o.a12, o.a13, o.a14, o.a15])).length = 16 - o.n.toNat := by simp
      refine loop_rule (α := Nat) [40] 1 (fun k => [.int .i64 k]) (fun k => [.gone]) (fun k => k ≤ 16 - o.n.toNat ∧ ∀ j, j < k → nth (List.drop o.n.toNat (List.take 16 [o.a0, o.a1, o.a2, o.a3, o.a4, o.a5, o.a6, o.a7, o.a8, o.a9, o.a10, o.a11, o.a12, o.a13, o.a14, o.a15])) j = 0) (fun k => 16 - o.n.toNat - k) (0) (fun _ => rfl) (by decide) ?_
      ((refine run ?_); conv => whnf)
      refine goal_in ⟨?_, fit_eq ?_, sto_take (n := 1) (Nat.le_of_ble_eq_true rfl) ?_⟩ (fun k hinv => ?_)
      · exact ⟨Nat.zero_le _, fun j hj => by omega⟩
      · rfl
      · rfl
      obtain ⟨hk, hj⟩ := hinv
      by_cases hlt : k < 16 - o.n.toNat
      · by_cases hz : nth (List.drop o.n.toNat (List.take 16 [o.a0, o.a1, o.a2, o.a3, o.a4, o.a5, o.a6, o.a7, o.a8, o.a9, o.a10, o.a11, o.a12, o.a13, o.a14, o.a15])) k = 0
        · repeat' (first | ((refine run ?_); conv => whnf) | with_reducible refine split_nt (by assumption) ?_ | with_reducible refine split_nf (by assumption) ?_ | with_reducible refine split_ht (by assumption) ?_ | with_reducible refine split_hf (by assumption) ?_ | ((first | with_reducible refine split_neg (fun hc => ?_) (fun hc => ?_) | refine split (fun hc => ?_) (fun hc => ?_)) <;> (try simp only [bsl, true_implies, false_implies, Int.reduceEq, Int.reduceLT, Int.reduceLE, Nat.reduceLT, Nat.reduceEqDiff] at hc) <;> (try (exfalso; omega)) <;> (try exact (bool_tf hc (by assumption)).elim) <;> (try exact (bool_ft hc (by assumption)).elim)) | refine fact_in (fun hby => ?_) | refine un_rfl ?_ | refine stp ?_ | exact obs | with_reducible refine And.intro ?_ ?_ | refine nrm ?_ | apply row_eq | (apply cut_end <;> first | ((refine run ?_); conv => whnf) | exact obs) | (apply cut_drop <;> first | ((refine run ?_); conv => whnf) | exact obs) | (apply cuts_end <;> first | ((refine run ?_); conv => whnf) | exact obs) | (apply cuts_drop <;> first | ((refine run ?_); conv => whnf) | exact obs) | (apply wrap_in <;> first | ((refine run ?_); conv => whnf) | exact obs | exact eqs) | refine stq ?_ | (apply callP_skip <;> first | ((refine run ?_); conv => whnf) | assumption | (simp only [bsl, *]; done) | (simp [*]; done)) | ((refine open_in ?_ ?_) <;> first | ((refine run ?_); conv => whnf) | kernel_rfl) | exact eqs | (intro _; rfl))
          refine meet_eq (k + 1) ?_ ?_ (Nat.le_of_ble_eq_true rfl) ?_
          · exact ⟨⟨by omega, fun j hj' => by
              by_cases e : j = k
              · subst e; exact hz
              · exact hj j (by omega)⟩, by dsimp only; omega⟩
          · rfl
          · rfl
        · have e1 : chkO o = 1 := by
            rw [e, if_neg]
            intro hall
            refine hz (hall _ ?_)
            have hlt' : k < (List.drop o.n.toNat (List.take 16 [o.a0, o.a1, o.a2, o.a3, o.a4, o.a5, o.a6, o.a7, o.a8, o.a9, o.a10, o.a11, o.a12, o.a13, o.a14, o.a15])).length := by omega
            unfold nth
            rw [List.getD_eq_getElem?_getD, List.getElem?_eq_getElem hlt']
            exact List.getElem_mem hlt'
          rw [e1]
          repeat' (first | ((refine run ?_); conv => whnf) | with_reducible refine split_nt (by assumption) ?_ | with_reducible refine split_nf (by assumption) ?_ | with_reducible refine split_ht (by assumption) ?_ | with_reducible refine split_hf (by assumption) ?_ | ((first | with_reducible refine split_neg (fun hc => ?_) (fun hc => ?_) | refine split (fun hc => ?_) (fun hc => ?_)) <;> (try simp only [bsl, true_implies, false_implies, Int.reduceEq, Int.reduceLT, Int.reduceLE, Nat.reduceLT, Nat.reduceEqDiff] at hc) <;> (try (exfalso; omega)) <;> (try exact (bool_tf hc (by assumption)).elim) <;> (try exact (bool_ft hc (by assumption)).elim)) | refine fact_in (fun hby => ?_) | refine un_rfl ?_ | refine stp ?_ | exact obs | with_reducible refine And.intro ?_ ?_ | refine nrm ?_ | apply row_eq | (apply cut_end <;> first | ((refine run ?_); conv => whnf) | exact obs) | (apply cut_drop <;> first | ((refine run ?_); conv => whnf) | exact obs) | (apply cuts_end <;> first | ((refine run ?_); conv => whnf) | exact obs) | (apply cuts_drop <;> first | ((refine run ?_); conv => whnf) | exact obs) | (apply wrap_in <;> first | ((refine run ?_); conv => whnf) | exact obs | exact eqs) | refine stq ?_ | (apply callP_skip <;> first | ((refine run ?_); conv => whnf) | assumption | (simp only [bsl, *]; done) | (simp [*]; done)) | ((refine open_in ?_ ?_) <;> first | ((refine run ?_); conv => whnf) | kernel_rfl) | exact eqs | (intro _; rfl))
          refine ret_eq ?_ (by rfl); rfl
      · have e1 : chkO o = 0 := by
          rw [e, if_pos]
          intro x hx
          obtain ⟨j, hj1, hj2⟩ := List.mem_iff_getElem.1 hx
          have hx2 : (List.drop o.n.toNat (List.take 16 [o.a0, o.a1, o.a2, o.a3, o.a4, o.a5, o.a6, o.a7, o.a8, o.a9, o.a10, o.a11, o.a12, o.a13, o.a14, o.a15]))[j]? = some x := by rw [← hj2]; exact List.getElem?_eq_getElem hj1
          have := hj j (by have h3 : j < ((arcL o).drop o.n.toNat).length := hj1; rw [List.length_drop, hl] at h3; omega)
          unfold nth at this
          rw [List.getD_eq_getElem?_getD, hx2] at this
          exact this
        rw [e1]
        repeat' (first | ((refine run ?_); conv => whnf) | with_reducible refine split_nt (by assumption) ?_ | with_reducible refine split_nf (by assumption) ?_ | with_reducible refine split_ht (by assumption) ?_ | with_reducible refine split_hf (by assumption) ?_ | ((first | with_reducible refine split_neg (fun hc => ?_) (fun hc => ?_) | refine split (fun hc => ?_) (fun hc => ?_)) <;> (try simp only [bsl, true_implies, false_implies, Int.reduceEq, Int.reduceLT, Int.reduceLE, Nat.reduceLT, Nat.reduceEqDiff] at hc) <;> (try (exfalso; omega)) <;> (try exact (bool_tf hc (by assumption)).elim) <;> (try exact (bool_ft hc (by assumption)).elim)) | refine fact_in (fun hby => ?_) | refine un_rfl ?_ | refine stp ?_ | exact obs | with_reducible refine And.intro ?_ ?_ | refine nrm ?_ | apply row_eq | (apply cut_end <;> first | ((refine run ?_); conv => whnf) | exact obs) | (apply cut_drop <;> first | ((refine run ?_); conv => whnf) | exact obs) | (apply cuts_end <;> first | ((refine run ?_); conv => whnf) | exact obs) | (apply cuts_drop <;> first | ((refine run ?_); conv => whnf) | exact obs) | (apply wrap_in <;> first | ((refine run ?_); conv => whnf) | exact obs | exact eqs) | refine stq ?_ | (apply callP_skip <;> first | ((refine run ?_); conv => whnf) | assumption | (simp only [bsl, *]; done) | (simp [*]; done)) | ((refine open_in ?_ ?_) <;> first | ((refine run ?_); conv => whnf) | kernel_rfl) | exact eqs | (intro _; rfl))
        refine ret_eq ?_ (by rfl); rfl
instance {o : Od} : Con Sx0 61 [.agg [.int .u8 o.n, .int .u32 o.a0, .int .u32 o.a1, .int .u32 o.a2, .int .u32 o.a3, .int .u32 o.a4, .int .u32 o.a5, .int .u32 o.a6, .int .u32 o.a7, .int .u32 o.a8, .int .u32 o.a9, .int .u32 o.a10, .int .u32 o.a11, .int .u32 o.a12, .int .u32 o.a13, .int .u32 o.a14, .int .u32 o.a15]] (okO o) (.int .i64 (chkO o)) := con (chkO_call o)
end Go.Proofs.YtepnbdacekkapaaGreatDoor.Ai
