/- Whether a set covers another one; grants below others. Own work of this seat. -/
import Derived.Test.YtepnbdacekkapaaGreatDoorWout37
namespace Go.Proofs.YtepnbdacekkapaaGreatDoor.Ai
open Go
set_option linter.unusedSimpArgs false
set_option linter.unusedVariables false
set_option maxHeartbeats 4000000
set_option maxRecDepth 100000
instance {a b : List Od} {c d : Option Nat} : Con Sx0 60 [oids a c, oids b d] (a.length ≤ 1000 ∧ b.length ≤ 1000) (oids (minusO a b) (some (minusO a b).length)) := con fun h => without_call a c b d h.1 h.2
def grRow (o : Od) : List AVal := [.int .u8 o.n, .int .u32 o.a0, .int .u32 o.a1, .int .u32 o.a2, .int .u32 o.a3, .int .u32 o.a4, .int .u32 o.a5, .int .u32 o.a6, .int .u32 o.a7, .int .u32 o.a8, .int .u32 o.a9, .int .u32 o.a10, .int .u32 o.a11, .int .u32 o.a12, .int .u32 o.a13, .int .u32 o.a14, .int .u32 o.a15, .slc 0 [] (some 0)]
abbrev grants (l : List Od) (c : Option Nat) : AVal := .slc 18 (l.map grRow) c
def capO (l : List Od) : Option Nat := if l.map oidRow = [] then some 0 else none
theorem granted_call (l : List Od) (c : Option Nat) (hl : l.length ≤ 1000) : CallF Cx 63 [grants l c] [] (oids l (capO l)) [] := by
  refine sy_call (X := Sx0) (fun _ => false) [] [(3, 73, 17)] (fn := Tryz.f63) Tryz.func63 rfl (by decide) rfl rfl ?_
  repeat' (first | ((refine run ?_); conv => whnf) | with_reducible refine split_nt (by assumption) ?_ | with_reducible refine split_nf (by assumption) ?_ | with_reducible refine split_ht (by assumption) ?_ | with_reducible refine split_hf (by assumption) ?_ | ((first | with_reducible refine split_neg (fun hc => ?_) (fun hc => ?_) | refine split (fun hc => ?_) (fun hc => ?_)) <;> (try simp only [bsl, true_implies, false_implies, Int.reduceEq, Int.reduceLT, Int.reduceLE, Nat.reduceLT, Nat.reduceEqDiff] at hc) <;> (try (exfalso; omega)) <;> (try exact (bool_tf hc (by assumption)).elim) <;> (try exact (bool_ft hc (by assumption)).elim)) | refine fact_in (fun hby => ?_) | refine un_rfl ?_ | refine stp ?_ | exact obs | with_reducible refine And.intro ?_ ?_ | refine nrm ?_ | apply row_eq | (apply cut_end <;> first | ((refine run ?_); conv => whnf) | exact obs) | (apply cut_drop <;> first | ((refine run ?_); conv => whnf) | exact obs) | (apply cuts_end <;> first | ((refine run ?_); conv => whnf) | exact obs) | (apply cuts_drop <;> first | ((refine run ?_); conv => whnf) | exact obs) | (apply wrap_in <;> first | ((refine run ?_); conv => whnf) | exact obs | exact eqs) | refine stq ?_ | (apply callP_skip <;> first | ((refine run ?_); conv => whnf) | assumption | (simp only [bsl, *]; done) | (simp [*]; done)) | ((refine open_in ?_ ?_) <;> first | ((refine run ?_); conv => whnf) | kernel_rfl) | exact eqs | (intro _; rfl))
  refine loop_rule (α := Nat) [3, 8] 1 (fun k => [.bsl 0 (l.take k).length, .int .i64 k]) (fun k => [.mk 73 17 ((l.take k).map oidRow)]) (fun k => k ≤ l.length) (fun k => l.length - k) (0) (fun _ => rfl) (by decide) ?_
  ((refine run ?_); conv => whnf)
  refine goal_in ⟨?_, fit_eq ?_, sto_take (n := 1) (Nat.le_of_ble_eq_true rfl) ?_⟩ (fun k hinv => ?_)
  · exact Nat.zero_le _
  · rfl
  · rfl
  have hlen : (l.take k).length ≤ 1000 := by rw [List.length_take]; omega
  by_cases hlt : k < l.length
  · have e := take_next hlt
    have e1 : (l.take (k + 1)).length = (l.take k).length + 1 := by rw [e]; simp
    repeat' (first | ((refine run ?_); conv => whnf) | with_reducible refine split_nt (by assumption) ?_ | with_reducible refine split_nf (by assumption) ?_ | with_reducible refine split_ht (by assumption) ?_ | with_reducible refine split_hf (by assumption) ?_ | ((first | with_reducible refine split_neg (fun hc => ?_) (fun hc => ?_) | refine split (fun hc => ?_) (fun hc => ?_)) <;> (try simp only [bsl, true_implies, false_implies, Int.reduceEq, Int.reduceLT, Int.reduceLE, Nat.reduceLT, Nat.reduceEqDiff] at hc) <;> (try (exfalso; omega)) <;> (try exact (bool_tf hc (by assumption)).elim) <;> (try exact (bool_ft hc (by assumption)).elim)) | refine fact_in (fun hby => ?_) | refine un_rfl ?_ | refine stp ?_ | exact obs | with_reducible refine And.intro ?_ ?_ | refine nrm ?_ | apply row_eq | (apply cut_end <;> first | ((refine run ?_); conv => whnf) | exact obs) | (apply cut_drop <;> first | ((refine run ?_); conv => whnf) | exact obs) | (apply cuts_end <;> first | ((refine run ?_); conv => whnf) | exact obs) | (apply cuts_drop <;> first | ((refine run ?_); conv => whnf) | exact obs) | (apply wrap_in <;> first | ((refine run ?_); conv => whnf) | exact obs | exact eqs) | refine stq ?_ | (apply callP_skip <;> first | ((refine run ?_); conv => whnf) | assumption | (simp only [bsl, *]; done) | (simp [*]; done)) | ((refine open_in ?_ ?_) <;> first | ((refine run ?_); conv => whnf) | kernel_rfl) | exact eqs | (intro _; rfl))
    refine meet_eq (k + 1) ?_ ?_ (Nat.le_of_ble_eq_true rfl) ?_
    · exact ⟨by dsimp only; omega, by dsimp only; omega⟩
    · rw [e1]; rfl
    · rw [e, List.map_append]; rfl
  · have e : l.take k = l := List.take_of_length_le (by omega)
    repeat' (first | ((refine run ?_); conv => whnf) | with_reducible refine split_nt (by assumption) ?_ | with_reducible refine split_nf (by assumption) ?_ | with_reducible refine split_ht (by assumption) ?_ | with_reducible refine split_hf (by assumption) ?_ | ((first | with_reducible refine split_neg (fun hc => ?_) (fun hc => ?_) | refine split (fun hc => ?_) (fun hc => ?_)) <;> (try simp only [bsl, true_implies, false_implies, Int.reduceEq, Int.reduceLT, Int.reduceLE, Nat.reduceLT, Nat.reduceEqDiff] at hc) <;> (try (exfalso; omega)) <;> (try exact (bool_tf hc (by assumption)).elim) <;> (try exact (bool_ft hc (by assumption)).elim)) | refine fact_in (fun hby => ?_) | refine un_rfl ?_ | refine stp ?_ | exact obs | with_reducible refine And.intro ?_ ?_ | refine nrm ?_ | apply row_eq | (apply cut_end <;> first | ((refine run ?_); conv => whnf) | exact obs) | (apply cut_drop <;> first | ((refine run ?_); conv => whnf) | exact obs) | (apply cuts_end <;> first | ((refine run ?_); conv => whnf) | exact obs) | (apply cuts_drop <;> first | ((refine run ?_); conv => whnf) | exact obs) | (apply wrap_in <;> first | ((refine run ?_); conv => whnf) | exact obs | exact eqs) | refine stq ?_ | (apply callP_skip <;> first | ((refine run ?_); conv => whnf) | assumption | (simp only [bsl, *]; done) | (simp [*]; done)) | ((refine open_in ?_ ?_) <;> first | ((refine run ?_); conv => whnf) | kernel_rfl) | exact eqs | (intro _; rfl))
    refine ret_eq ?_ (by rfl); rw [e]; rfl
instance {l : List Od} {c : Option Nat} : Con Sx0 63 [grants l c] (l.length ≤ 1000) (oids l (capO l)) := con (granted_call l c)
noncomputable def belowO (a b : List Od) : Bool := b.any (isO anyO) || decide (((minusO a b).length : Int) = 0)
theorem Below_call (a b : List Od) (c d : Option Nat) (ha : a.length ≤ 1000) (hb : b.length ≤ 1000) : CallF Cx 35 [grants a c, grants b d] [] (.bool (belowO a b)) [] := by
  have hab : a.length ≤ 1000 ∧ b.length ≤ 1000 := ⟨ha, hb⟩
  refine sy_call (X := Sx0) (fun _ => false) [] [] (fn := Tryz.f35) Tryz.func35 rfl (by decide) rfl rfl ?_
  repeat' (first | ((refine run ?_); conv => whnf) | with_reducible refine split_nt (by assumption) ?_ | with_reducible refine split_nf (by assumption) ?_ | with_reducible refine split_ht (by assumption) ?_ | with_reducible refine split_hf (by assumption) ?_ | ((first | with_reducible refine split_neg (fun hc => ?_) (fun hc => ?_) | refine split (fun hc => ?_) (fun hc => ?_)) <;> (try simp only [bsl, true_implies, false_implies, Int.reduceEq, Int.reduceLT, Int.reduceLE, Nat.reduceLT, Nat.reduceEqDiff] at hc) <;> (try (exfalso; omega)) <;> (try exact (bool_tf hc (by assumption)).elim) <;> (try exact (bool_ft hc (by assumption)).elim)) | refine fact_in (fun hby => ?_) | refine un_rfl ?_ | refine stp ?_ | exact obs | with_reducible refine And.intro ?_ ?_ | refine nrm ?_ | apply row_eq | (apply cut_end <;> first | ((refine run ?_); conv => whnf) | exact obs) | (apply cut_drop <;> first | ((refine run ?_); conv => whnf) | exact obs) | (apply cuts_end <;> first | ((refine run ?_); conv => whnf) | exact obs) | (apply cuts_drop <;> first | ((refine run ?_); conv => whnf) | exact obs) | (apply wrap_in <;> first | ((refine run ?_); conv => whnf) | exact obs | exact eqs) | refine stq ?_ | (apply callP_skip <;> first | ((refine run ?_); conv => whnf) | assumption | (simp only [bsl, *]; done) | (simp [*]; done)) | ((refine open_in ?_ ?_) <;> first | ((refine run ?_); conv => whnf) | kernel_rfl) | exact eqs | (intro _; rfl))
  refine ret_eq ?_ (by rfl); rfl
instance {a b : List Od} {c d : Option Nat} : Con Sx0 35 [grants a c, grants b d] (a.length ≤ 1000 ∧ b.length ≤ 1000) (.bool (belowO a b)) := con fun h => Below_call a b c d h.1 h.2
noncomputable def covE (u v : List Od) : Int := if chkS u = 0 then chkS v else chkS u
noncomputable def covV (u v : List Od) : Bool := if covE u v = 0 then belowO u v else false
theorem Covers_call (u v : List Od) (c d : Option Nat) (hu : okL u) (hv : okL v) : CallF Cx 32 [oids u c, oids v d] [] (.tup [.bool (covV u v), .int .i64 (covE u v)]) [] := by
  have h1 := hu.1
  have h2 := hv.1
  have huv : u.length ≤ 1000 ∧ v.length ≤ 1000 := ⟨h1, h2⟩
  refine sy_call (X := Sx0) (fun _ => false) [] [] (fn := Tryz.f32) Tryz.func32 rfl (by decide) rfl rfl ?_
  repeat' (first | ((refine run ?_); conv => whnf) | with_reducible refine split_nt (by assumption) ?_ | with_reducible refine split_nf (by assumption) ?_ | with_reducible refine split_ht (by assumption) ?_ | with_reducible refine split_hf (by assumption) ?_ | ((first | with_reducible refine split_neg (fun hc => ?_) (fun hc => ?_) | refine split (fun hc => ?_) (fun hc => ?_)) <;> (try simp only [bsl, true_implies, false_implies, Int.reduceEq, Int.reduceLT, Int.reduceLE, Nat.reduceLT, Nat.reduceEqDiff] at hc) <;> (try (exfalso; omega)) <;> (try exact (bool_tf hc (by assumption)).elim) <;> (try exact (bool_ft hc (by assumption)).elim)) | refine fact_in (fun hby => ?_) | refine un_rfl ?_ | refine stp ?_ | exact obs | with_reducible refine And.intro ?_ ?_ | refine nrm ?_ | apply row_eq | (apply cut_end <;> first | ((refine run ?_); conv => whnf) | exact obs) | (apply cut_drop <;> first | ((refine run ?_); conv => whnf) | exact obs) | (apply cuts_end <;> first | ((refine run ?_); conv => whnf) | exact obs) | (apply cuts_drop <;> first | ((refine run ?_); conv => whnf) | exact obs) | (apply wrap_in <;> first | ((refine run ?_); conv => whnf) | exact obs | exact eqs) | refine stq ?_ | (apply callP_skip <;> first | ((refine run ?_); conv => whnf) | assumption | (simp only [bsl, *]; done) | (simp [*]; done)) | ((refine open_in ?_ ?_) <;> first | ((refine run ?_); conv => whnf) | kernel_rfl) | exact eqs | (intro _; rfl))
  all_goals (refine ret_eq ?_ (by rfl); simp [covV, covE, belowO, *])
instance {u v : List Od} {c d : Option Nat} : Con Sx0 32 [oids u c, oids v d] (okL u ∧ okL v) (.tup [.bool (covV u v), .int .i64 (covE u v)]) := con fun h => Covers_call u v c d h.1 h.2
noncomputable def rcov (u v : List Od) : Bool := v.any (isO anyO) || u.all fun x => v.any (isO x)
theorem rcov_eq (u v : List Od) : belowO u v = rcov u v := by
  unfold belowO rcov minusO
  cases v.any (isO anyO)
  · simp only [Bool.false_or]
    cases h : (u.all fun x => v.any (isO x)) with
    | true =>
      refine decide_eq_true ?_
      have : u.filter (fun x => !v.any (isO x)) = [] := List.filter_eq_nil_iff.2 fun x hx => by
        have := List.all_eq_true.1 h x hx
        simp [this]
      rw [this]; rfl
    | false =>
      refine decide_eq_false fun h0 => ?_
      have h1 : u.filter (fun x => !v.any (isO x)) = [] := List.length_eq_zero_iff.1 (by omega)
      have h2 := List.filter_eq_nil_iff.1 h1
      have : (u.all fun x => v.any (isO x)) = true := List.all_eq_true.2 fun x hx => by
        have := h2 x hx
        simpa using this
      rw [this] at h; cases h
  · rfl
theorem all_drop {f : Od → Bool} {l : List Od} {k : Nat} (h : k < l.length) : (l.drop k).all f = (f (nth l k) && (l.drop (k + 1)).all f) := by
  rw [List.drop_eq_getElem_cons h, List.all_cons, nth_get h]
theorem rCovers_call (u v : List Od) (c d : Option Nat) (hu : u.length ≤ 1000) (hv : v.length ≤ 1000) : CallF Cx 34 [oids u c, oids v d] [] (.bool (rcov u v)) [] := by
  refine sy_call (X := Sx0) (fun _ => false) [] [] (fn := Tryz.f34) Tryz.func34 rfl (by decide) rfl rfl ?_
  repeat' (first | ((refine run ?_); conv => whnf) | with_reducible refine split_nt (by assumption) ?_ | with_reducible refine split_nf (by assumption) ?_ | with_reducible refine split_ht (by assumption) ?_ | with_reducible refine split_hf (by assumption) ?_ | ((first | with_reducible refine split_neg (fun hc => ?_) (fun hc => ?_) | refine split (fun hc => ?_) (fun hc => ?_)) <;> (try simp only [bsl, true_implies, false_implies, Int.reduceEq, Int.reduceLT, Int.reduceLE, Nat.reduceLT, Nat.reduceEqDiff] at hc) <;> (try (exfalso; omega)) <;> (try exact (bool_tf hc (by assumption)).elim) <;> (try exact (bool_ft hc (by assumption)).elim)) | refine fact_in (fun hby => ?_) | refine un_rfl ?_ | refine stp ?_ | exact obs | with_reducible refine And.intro ?_ ?_ | refine nrm ?_ | apply row_eq | (apply cut_end <;> first | ((refine run ?_); conv => whnf) | exact obs) | (apply cut_drop <;> first | ((refine run ?_); conv => whnf) | exact obs) | (apply cuts_end <;> first | ((refine run ?_); conv => whnf) | exact obs) | (apply cuts_drop <;> first | ((refine run ?_); conv => whnf) | exact obs) | (apply wrap_in <;> first | ((refine run ?_); conv => whnf) | exact obs | exact eqs) | refine stq ?_ | (apply callP_skip <;> first | ((refine run ?_); conv => whnf) | assumption | (simp only [bsl, *]; done) | (simp [*]; done)) | ((refine open_in ?_ ?_) <;> first | ((refine run ?_); conv => whnf) | kernel_rfl) | exact eqs | (intro _; rfl))
  · refine ret_eq ?_ (by rfl); simp [rcov, *]
  · have hn : v.any (isO anyO) = false := by assumption
    have e0 : rcov u v = (u.drop 0).all fun x => v.any (isO x) := by unfold rcov; rw [hn]; rfl
    refine loop_rule (α := Nat) [5] 0 (fun k => [.int .i64 k]) (fun k => []) (fun k => k ≤ u.length ∧ rcov u v = (u.drop k).all fun x => v.any (isO x)) (fun k => u.length - k) (0) (fun _ => rfl) (by decide) ?_
    ((refine run ?_); conv => whnf)
    refine goal_in ⟨?_, fit_eq ?_, sto_take (n := 0) (Nat.le_of_ble_eq_true rfl) ?_⟩ (fun k hinv => ?_)
    · exact ⟨Nat.zero_le _, e0⟩
    · rfl
    · rfl
    obtain ⟨hk, he⟩ := hinv
    by_cases hlt : k < u.length
    · have ha := all_drop (f := fun x => v.any (isO x)) hlt
      repeat' (first | ((refine run ?_); conv => whnf) | with_reducible refine split_nt (by assumption) ?_ | with_reducible refine split_nf (by assumption) ?_ | with_reducible refine split_ht (by assumption) ?_ | with_reducible refine split_hf (by assumption) ?_ | ((first | with_reducible refine split_neg (fun hc => ?_) (fun hc => ?_) | refine split (fun hc => ?_) (fun hc => ?_)) <;> (try simp only [bsl, true_implies, false_implies, Int.reduceEq, Int.reduceLT, Int.reduceLE, Nat.reduceLT, Nat.reduceEqDiff] at hc) <;> (try (exfalso; omega)) <;> (try exact (bool_tf hc (by assumption)).elim) <;> (try exact (bool_ft hc (by assumption)).elim)) | refine fact_in (fun hby => ?_) | refine un_rfl ?_ | refine stp ?_ | exact obs | with_reducible refine And.intro ?_ ?_ | refine nrm ?_ | apply row_eq | (apply cut_end <;> first | ((refine run ?_); conv => whnf) | exact obs) | (apply cut_drop <;> first | ((refine run ?_); conv => whnf) | exact obs) | (apply cuts_end <;> first | ((refine run ?_); conv => whnf) | exact obs) | (apply cuts_drop <;> first | ((refine run ?_); conv => whnf) | exact obs) | (apply wrap_in <;> first | ((refine run ?_); conv => whnf) | exact obs | exact eqs) | refine stq ?_ | (apply callP_skip <;> first | ((refine run ?_); conv => whnf) | assumption | (simp only [bsl, *]; done) | (simp [*]; done)) | ((refine open_in ?_ ?_) <;> first | ((refine run ?_); conv => whnf) | kernel_rfl) | exact eqs | (intro _; rfl))
      · have hx : v.any (isO (nth u k)) = false := by assumption
        rw [hx, Bool.false_and] at ha
        refine ret_eq ?_ (by rfl); rw [he, ha]
      · have hx : v.any (isO (nth u k)) = true := by assumption
        rw [hx, Bool.true_and] at ha
        refine meet_eq (k + 1) ?_ ?_ (Nat.le_of_ble_eq_true rfl) ?_
        · exact ⟨⟨by omega, he.trans ha⟩, by dsimp only; omega⟩
        · rfl
        · rfl
    · have e : u.drop k = [] := List.drop_eq_nil_of_le (by omega)
      rw [e] at he
      repeat' (first | ((refine run ?_); conv => whnf) | with_reducible refine split_nt (by assumption) ?_ | with_reducible refine split_nf (by assumption) ?_ | with_reducible refine split_ht (by assumption) ?_ | with_reducible refine split_hf (by assumption) ?_ | ((first | with_reducible refine split_neg (fun hc => ?_) (fun hc => ?_) | refine split (fun hc => ?_) (fun hc => ?_)) <;> (try simp only [bsl, true_implies, false_implies, Int.reduceEq, Int.reduceLT, Int.reduceLE, Nat.reduceLT, Nat.reduceEqDiff] at hc) <;> (try (exfalso; omega)) <;> (try exact (bool_tf hc (by assumption)).elim) <;> (try exact (bool_ft hc (by assumption)).elim)) | refine fact_in (fun hby => ?_) | refine un_rfl ?_ | refine stp ?_ | exact obs | with_reducible refine And.intro ?_ ?_ | refine nrm ?_ | apply row_eq | (apply cut_end <;> first | ((refine run ?_); conv => whnf) | exact obs) | (apply cut_drop <;> first | ((refine run ?_); conv => whnf) | exact obs) | (apply cuts_end <;> first | ((refine run ?_); conv => whnf) | exact obs) | (apply cuts_drop <;> first | ((refine run ?_); conv => whnf) | exact obs) | (apply wrap_in <;> first | ((refine run ?_); conv => whnf) | exact obs | exact eqs) | refine stq ?_ | (apply callP_skip <;> first | ((refine run ?_); conv => whnf) | assumption | (simp only [bsl, *]; done) | (simp [*]; done)) | ((refine open_in ?_ ?_) <;> first | ((refine run ?_); conv => whnf) | kernel_rfl) | exact eqs | (intro _; rfl))
      refine ret_eq ?_ (by rfl); rw [he]; rfl
instance {u v : List Od} {c d : Option Nat} : Con Sx0 34 [oids u c, oids v d] (u.length ≤ 1000 ∧ v.length ≤ 1000) (.bool (rcov u v)) := con fun h => rCovers_call u v c d h.1 h.2
end Go.Proofs.YtepnbdacekkapaaGreatDoor.Ai
