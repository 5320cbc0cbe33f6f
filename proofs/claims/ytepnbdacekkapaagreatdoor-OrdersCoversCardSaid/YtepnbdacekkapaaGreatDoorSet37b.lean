/- Sets of object identifiers: their check, and whether one is in a list. Own work of this seat. -/
import Derived.Test.YtepnbdacekkapaaGreatDoorSet37
namespace Go.Proofs.YtepnbdacekkapaaGreatDoor.Ai
open Go
set_option linter.unusedSimpArgs false
set_option linter.unusedVariables false
set_option maxHeartbeats 4000000
set_option maxRecDepth 100000
abbrev oids (l : List Od) (c : Option Nat) : AVal := .slc 17 (l.map oidRow) c
def okL (l : List Od) : Prop := l.length ≤ 1000 ∧ ∀ k, k < l.length → okO (nth l k)
def chk1 (p : Option Od) (o : Od) : Int := if chkO o ≠ 0 then chkO o else
  match p with
  | none => 0
  | some q => if cmpO q o = 0 then 14 else if 0 < cmpO q o then 13 else 0
def chkR : Option Od → List Od → Int
  | _, [] => 0
  | p, o :: r => if chk1 p o ≠ 0 then chk1 p o else chkR (some o) r
def chkS (l : List Od) : Int := if 256 < l.length then 3 else chkR none l
def prevO (l : List Od) (k : Nat) : Option Od := if k = 0 then none else some (nth l (k - 1))
theorem nth_get {l : List Od} {k : Nat} (h : k < l.length) : l[k] = nth l k := by
  unfold nth
  rw [List.getD_eq_getElem?_getD, List.getElem?_eq_getElem h]; rfl
theorem chkR_stop {l : List Od} {k : Nat} (h : k < l.length) (hc : chk1 (prevO l k) (nth l k) ≠ 0) : chkR (prevO l k) (l.drop k) = chk1 (prevO l k) (nth l k) := by
  rw [List.drop_eq_getElem_cons h, chkR, nth_get h, if_pos hc]
theorem chkR_go {l : List Od} {k : Nat} (h : k < l.length) (hc : chk1 (prevO l k) (nth l k) = 0) : chkR (prevO l k) (l.drop k) = chkR (prevO l (k + 1)) (l.drop (k + 1)) := by
  have e2 : prevO l (k + 1) = some (nth l k) := if_neg (by omega)
  rw [List.drop_eq_getElem_cons h, chkR, nth_get h, if_neg (by simp [hc]), e2]
theorem chkR_bad {l : List Od} {k : Nat} (h : k < l.length) (hc : chkO (nth l k) ≠ 0) : chkR (prevO l k) (l.drop k) = chkO (nth l k) := by
  have e : chk1 (prevO l k) (nth l k) = chkO (nth l k) := if_pos hc
  rw [chkR_stop h (by rw [e]; exact hc), e]
theorem chkR_first {l : List Od} (h : 0 < l.length) (hc : chkO (nth l 0) = 0) : chkR (prevO l 0) (l.drop 0) = chkR (prevO l 1) (l.drop 1) := by
  refine chkR_go h ?_
  unfold chk1
  rw [if_neg (by simp [hc])]; rfl
theorem chkR_next {l : List Od} {k : Nat} (h : k < l.length) (hk : k ≠ 0) (hc : chkO (nth l k) = 0) : chkR (prevO l k) (l.drop k) =
    if cmpO (nth l (k - 1)) (nth l k) = 0 then 14 else if 0 < cmpO (nth l (k - 1)) (nth l k) then 13 else chkR (prevO l (k + 1)) (l.drop (k + 1)) := by
  have e1 : prevO l k = some (nth l (k - 1)) := if_neg hk
  have e : chk1 (prevO l k) (nth l k) = if cmpO (nth l (k - 1)) (nth l k) = 0 then 14 else if 0 < cmpO (nth l (k - 1)) (nth l k) then 13 else 0 := by
    unfold chk1
    rw [if_neg (by simp [hc]), e1]
  by_cases h1 : cmpO (nth l (k - 1)) (nth l k) = 0
  · rw [if_pos h1] at e ⊢
    rw [chkR_stop h (by rw [e]; decide), e]
  · rw [if_neg h1] at e ⊢
    by_cases h2 : 0 < cmpO (nth l (k - 1)) (nth l k)
    · rw [if_pos h2] at e ⊢
      rw [chkR_stop h (by rw [e]; decide), e]
    · rw [if_neg h2] at e ⊢
      exact chkR_go h e
theorem chkS_call (l : List Od) (c : Option Nat) (h : okL l) : CallF Cx 33 [oids l c] [] (.int .i64 (chkS l)) [] := by
  obtain ⟨hlen, hok⟩ := h
  by_cases h0 : 256 < l.length
  · have e : chkS l = 3 := if_pos h0
    rw [e]
    refine sy_call (X := Sx0) (fun _ => false) [] [] (fn := Tryz.f33) Tryz.func33 rfl (by decide) rfl rfl ?_
    repeat' (first | ((refine run ?_); conv => whnf) | with_reducible refine split_nt (by assumption) ?_ | with_reducible refine split_nf (by assumption) ?_ | with_reducible refine split_ht (by assumption) ?_ | with_reducible refine split_hf (by assumption) ?_ | ((first | with_reducible refine split_neg (fun hc => ?_) (fun hc => ?_) | refine split (fun hc => ?_) (fun hc => ?_)) <;> (try simp only [bsl, true_implies, false_implies, Int.reduceEq, Int.reduceLT, Int.reduceLE, Nat.reduceLT, Nat.reduceEqDiff] at hc) <;> (try (exfalso; omega)) <;> (try exact (bool_tf hc (by assumption)).elim) <;> (try exact (bool_ft hc (by assumption)).elim)) | refine fact_in (fun hby => ?_) | refine un_rfl ?_ | refine stp ?_ | exact obs | with_reducible refine And.intro ?_ ?_ | refine nrm ?_ | apply row_eq | (apply cut_end <;> first | ((refine run ?_); conv => whnf) | exact obs) | (apply cut_drop <;> first | ((refine run ?_); conv => whnf) | exact obs) | (apply cuts_end <;> first | ((refine run ?_); conv => whnf) | exact obs) | (apply cuts_drop <;> first | ((refine run ?_); conv => whnf) | exact obs) | (apply wrap_in <;> first | ((refine run ?_); conv => whnf) | exact obs | exact eqs) | refine stq ?_ | (apply callP_skip <;> first | ((refine run ?_); conv => whnf) | assumption | (simp only [bsl, *]; done) | (simp [*]; done)) | ((refine open_in ?_ ?_) <;> first | ((refine run ?_); conv => whnf) | kernel_rfl) | exact eqs | (intro _; rfl))
    refine ret_eq ?_ (by rfl); rfl
  · have e : chkS l = chkR (prevO l 0) (l.drop 0) := if_neg h0
    rw [e]
    refine sy_call (X := Sx0) (fun _ => false) [] [] (fn := Tryz.f33) Tryz.func33 rfl (by decide) rfl rfl ?_
    repeat' (first | ((refine run ?_); conv => whnf) | with_reducible refine split_nt (by assumption) ?_ | with_reducible refine split_nf (by assumption) ?_ | with_reducible refine split_ht (by assumption) ?_ | with_reducible refine split_hf (by assumption) ?_ | ((first | with_reducible refine split_neg (fun hc => ?_) (fun hc => ?_) | refine split (fun hc => ?_) (fun hc => ?_)) <;> (try simp only [bsl, true_implies, false_implies, Int.reduceEq, Int.reduceLT, Int.reduceLE, Nat.reduceLT, Nat.reduceEqDiff] at hc) <;> (try (exfalso; omega)) <;> (try exact (bool_tf hc (by assumption)).elim) <;> (try exact (bool_ft hc (by assumption)).elim)) | refine fact_in (fun hby => ?_) | refine un_rfl ?_ | refine stp ?_ | exact obs | with_reducible refine And.intro ?_ ?_ | refine nrm ?_ | apply row_eq | (apply cut_end <;> first | ((refine run ?_); conv => whnf) | exact obs) | (apply cut_drop <;> first | ((refine run ?_); conv => whnf) | exact obs) | (apply cuts_end <;> first | ((refine run ?_); conv => whnf) | exact obs) | (apply cuts_drop <;> first | ((refine run ?_); conv => whnf) | exact obs) | (apply wrap_in <;> first | ((refine run ?_); conv => whnf) | exact obs | exact eqs) | refine stq ?_ | (apply callP_skip <;> first | ((refine run ?_); conv => whnf) | assumption | (simp only [bsl, *]; done) | (simp [*]; done)) | ((refine open_in ?_ ?_) <;> first | ((refine run ?_); conv => whnf) | kernel_rfl) | exact eqs | (intro _; rfl))
    refine loop_rule (α := Nat) [12] 0 (fun k => [.int .i64 k]) (fun k => []) (fun k => k ≤ l.length ∧ chkR (prevO l 0) (l.drop 0) = chkR (prevO l k) (l.drop k)) (fun k => l.length - k) (0) (fun _ => rfl) (by decide) ?_
    ((refine run ?_); conv => whnf)
    refine goal_in ⟨?_, fit_eq ?_, sto_take (n := 0) (Nat.le_of_ble_eq_true rfl) ?_⟩ (fun k hinv => ?_)
    · exact ⟨Nat.zero_le _, rfl⟩
    · rfl
    · rfl
    obtain ⟨hk, he⟩ := hinv
    by_cases hlt : k < l.length
    · have ho := hok k hlt
      by_cases hc0 : chkO (nth l k) = 0
      · by_cases hz : k = 0
        · subst hz
          repeat' (first | ((refine run ?_); conv => whnf) | with_reducible refine split_nt (by assumption) ?_ | with_reducible refine split_nf (by assumption) ?_ | with_reducible refine split_ht (by assumption) ?_ | with_reducible refine split_hf (by assumption) ?_ | ((first | with_reducible refine split_neg (fun hc => ?_) (fun hc => ?_) | refine split (fun hc => ?_) (fun hc => ?_)) <;> (try simp only [bsl, true_implies, false_implies, Int.reduceEq, Int.reduceLT, Int.reduceLE, Nat.reduceLT, Nat.reduceEqDiff] at hc) <;> (try (exfalso; omega)) <;> (try exact (bool_tf hc (by assumption)).elim) <;> (try exact (bool_ft hc (by assumption)).elim)) | refine fact_in (fun hby => ?_) | refine un_rfl ?_ | refine stp ?_ | exact obs | with_reducible refine And.intro ?_ ?_ | refine nrm ?_ | apply row_eq | (apply cut_end <;> first | ((refine run ?_); conv => whnf) | exact obs) | (apply cut_drop <;> first | ((refine run ?_); conv => whnf) | exact obs) | (apply cuts_end <;> first | ((refine run ?_); conv => whnf) | exact obs) | (apply cuts_drop <;> first | ((refine run ?_); conv => whnf) | exact obs) | (apply wrap_in <;> first | ((refine run ?_); conv => whnf) | exact obs | exact eqs) | refine stq ?_ | (apply callP_skip <;> first | ((refine run ?_); conv => whnf) | assumption | (simp only [bsl, *]; done) | (simp [*]; done)) | ((refine open_in ?_ ?_) <;> first | ((refine run ?_); conv => whnf) | kernel_rfl) | exact eqs | (intro _; rfl))
          refine meet_eq (1) ?_ ?_ (Nat.le_of_ble_eq_true rfl) ?_
          · exact ⟨⟨by omega, he.trans (chkR_first hlt hc0)⟩, by dsimp only; omega⟩
          · rfl
          · rfl
        · have hp := hok (k - 1) (by omega)
          have hn := chkR_next hlt hz hc0
          have hk1 : k - 1 = ((k : Int) - 1).toNat := by omega
          rw [hk1] at hp hn
          clear hk1
          have hpo : okO (nth l ((k : Int) - 1).toNat) ∧ okO (nth l k) := ⟨hp, ho⟩
          by_cases h1 : cmpO (nth l ((k : Int) - 1).toNat) (nth l k) = 0
          · rw [if_pos h1] at hn
            repeat' (first | ((refine run ?_); conv => whnf) | with_reducible refine split_nt (by assumption) ?_ | with_reducible refine split_nf (by assumption) ?_ | with_reducible refine split_ht (by assumption) ?_ | with_reducible refine split_hf (by assumption) ?_ | ((first | with_reducible refine split_neg (fun hc => ?_) (fun hc => ?_) | refine split (fun hc => ?_) (fun hc => ?_)) <;> (try simp only [bsl, true_implies, false_implies, Int.reduceEq, Int.reduceLT, Int.reduceLE, Nat.reduceLT, Nat.reduceEqDiff] at hc) <;> (try (exfalso; omega)) <;> (try exact (bool_tf hc (by assumption)).elim) <;> (try exact (bool_ft hc (by assumption)).elim)) | refine fact_in (fun hby => ?_) | refine un_rfl ?_ | refine stp ?_ | exact obs | with_reducible refine And.intro ?_ ?_ | refine nrm ?_ | apply row_eq | (apply cut_end <;> first | ((refine run ?_); conv => whnf) | exact obs) | (apply cut_drop <;> first | ((refine run ?_); conv => whnf) | exact obs) | (apply cuts_end <;> first | ((refine run ?_); conv => whnf) | exact obs) | (apply cuts_drop <;> first | ((refine run ?_); conv => whnf) | exact obs) | (apply wrap_in <;> first | ((refine run ?_); conv => whnf) | exact obs | exact eqs) | refine stq ?_ | (apply callP_skip <;> first | ((refine run ?_); conv => whnf) | assumption | (simp only [bsl, *]; done) | (simp [*]; done)) | ((refine open_in ?_ ?_) <;> first | ((refine run ?_); conv => whnf) | kernel_rfl) | exact eqs | (intro _; rfl))
            refine ret_eq ?_ (by rfl); rw [he, hn]
          · by_cases h2 : 0 < cmpO (nth l ((k : Int) - 1).toNat) (nth l k)
            · rw [if_neg h1, if_pos h2] at hn
              repeat' (first | ((refine run ?_); conv => whnf) | with_reducible refine split_nt (by assumption) ?_ | with_reducible refine split_nf (by assumption) ?_ | with_reducible refine split_ht (by assumption) ?_ | with_reducible refine split_hf (by assumption) ?_ | ((first | with_reducible refine split_neg (fun hc => ?_) (fun hc => ?_) | refine split (fun hc => ?_) (fun hc => ?_)) <;> (try simp only [bsl, true_implies, false_implies, Int.reduceEq, Int.reduceLT, Int.reduceLE, Nat.reduceLT, Nat.reduceEqDiff] at hc) <;> (try (exfalso; omega)) <;> (try exact (bool_tf hc (by assumption)).elim) <;> (try exact (bool_ft hc (by assumption)).elim)) | refine fact_in (fun hby => ?_) | refine un_rfl ?_ | refine stp ?_ | exact obs | with_reducible refine And.intro ?_ ?_ | refine nrm ?_ | apply row_eq | (apply cut_end <;> first | ((refine run ?_); conv => whnf) | exact obs) | (apply cut_drop <;> first | ((refine run ?_); conv => whnf) | exact obs) | (apply cuts_end <;> first | ((refine run ?_); conv => whnf) | exact obs) | (apply cuts_drop <;> first | ((refine run ?_); conv => whnf) | exact obs) | (apply wrap_in <;> first | ((refine run ?_); conv => whnf) | exact obs | exact eqs) | refine stq ?_ | (apply callP_skip <;> first | ((refine run ?_); conv => whnf) | assumption | (simp only [bsl, *]; done) | (simp [*]; done)) | ((refine open_in ?_ ?_) <;> first | ((refine run ?_); conv => whnf) | kernel_rfl) | exact eqs | (intro _; rfl))
              refine ret_eq ?_ (by rfl); rw [he, hn]
            · rw [if_neg h1, if_neg h2] at hn
              repeat' (first | ((refine run ?_); conv => whnf) | with_reducible refine split_nt (by assumption) ?_ | with_reducible refine split_nf (by assumption) ?_ | with_reducible refine split_ht (by assumption) ?_ | with_reducible refine split_hf (by assumption) ?_ | ((first | with_reducible refine split_neg (fun hc => ?_) (fun hc => ?_) | refine split (fun hc => ?_) (fun hc => ?_)) <;> (try simp only [bsl, true_implies, false_implies, Int.reduceEq, Int.reduceLT, Int.reduceLE, Nat.reduceLT, Nat.reduceEqDiff] at hc) <;> (try (exfalso; omega)) <;> (try exact (bool_tf hc (by assumption)).elim) <;> (try exact (bool_ft hc (by assumption)).elim)) | refine fact_in (fun hby => ?_) | refine un_rfl ?_ | refine stp ?_ | exact obs | with_reducible refine And.intro ?_ ?_ | refine nrm ?_ | apply row_eq | (apply cut_end <;> first | ((refine run ?_); conv => whnf) | exact obs) | (apply cut_drop <;> first | ((refine run ?_); conv => whnf) | exact obs) | (apply cuts_end <;> first | ((refine run ?_); conv => whnf) | exact obs) | (apply cuts_drop <;> first | ((refine run ?_); conv => whnf) | exact obs) | (apply wrap_in <;> first | ((refine run ?_); conv => whnf) | exact obs | exact eqs) | refine stq ?_ | (apply callP_skip <;> first | ((refine run ?_); conv => whnf) | assumption | (simp only [bsl, *]; done) | (simp [*]; done)) | ((refine open_in ?_ ?_) <;> first | ((refine run ?_); conv => whnf) | kernel_rfl) | exact eqs | (intro _; rfl))
              refine meet_eq (k + 1) ?_ ?_ (Nat.le_of_ble_eq_true rfl) ?_
              · exact ⟨⟨by omega, he.trans hn⟩, by dsimp only; omega⟩
              · rfl
              · rfl
      · have hn := chkR_bad hlt hc0
        repeat' (first | ((refine run ?_); conv => whnf) | with_reducible refine split_nt (by assumption) ?_ | with_reducible refine split_nf (by assumption) ?_ | with_reducible refine split_ht (by assumption) ?_ | with_reducible refine split_hf (by assumption) ?_ | ((first | with_reducible refine split_neg (fun hc => ?_) (fun hc => ?_) | refine split (fun hc => ?_) (fun hc => ?_)) <;> (try simp only [bsl, true_implies, false_implies, Int.reduceEq, Int.reduceLT, Int.reduceLE, Nat.reduceLT, Nat.reduceEqDiff] at hc) <;> (try (exfalso; omega)) <;> (try exact (bool_tf hc (by assumption)).elim) <;> (try exact (bool_ft hc (by assumption)).elim)) | refine fact_in (fun hby => ?_) | refine un_rfl ?_ | refine stp ?_ | exact obs | with_reducible refine And.intro ?_ ?_ | refine nrm ?_ | apply row_eq | (apply cut_end <;> first | ((refine run ?_); conv => whnf) | exact obs) | (apply cut_drop <;> first | ((refine run ?_); conv => whnf) | exact obs) | (apply cuts_end <;> first | ((refine run ?_); conv => whnf) | exact obs) | (apply cuts_drop <;> first | ((refine run ?_); conv => whnf) | exact obs) | (apply wrap_in <;> first | ((refine run ?_); conv => whnf) | exact obs | exact eqs) | refine stq ?_ | (apply callP_skip <;> first | ((refine run ?_); conv => whnf) | assumption | (simp only [bsl, *]; done) | (simp [*]; done)) | ((refine open_in ?_ ?_) <;> first | ((refine run ?_); conv => whnf) | kernel_rfl) | exact eqs | (intro _; rfl))
        refine ret_eq ?_ (by rfl); rw [he, hn]
    · have hn : chkR (prevO l k) (l.drop k) = 0 := by rw [List.drop_eq_nil_of_le (by omega)]; rfl
      repeat' (first | ((refine run ?_); conv => whnf) | with_reducible refine split_nt (by assumption) ?_ | with_reducible refine split_nf (by assumption) ?_ | with_reducible refine split_ht (by assumption) ?_ | with_reducible refine split_hf (by assumption) ?_ | ((first | with_reducible refine split_neg (fun hc => ?_) (fun hc => ?_) | refine split (fun hc => ?_) (fun hc => ?_)) <;> (try simp only [bsl, true_implies, false_implies, Int.reduceEq, Int.reduceLT, Int.reduceLE, Nat.reduceLT, Nat.reduceEqDiff] at hc) <;> (try (exfalso; omega)) <;> (try exact (bool_tf hc (by assumption)).elim) <;> (try exact (bool_ft hc (by assumption)).elim)) | refine fact_in (fun hby => ?_) | refine un_rfl ?_ | refine stp ?_ | exact obs | with_reducible refine And.intro ?_ ?_ | refine nrm ?_ | apply row_eq | (apply cut_end <;> first | ((refine run ?_); conv => whnf) | exact obs) | (apply cut_drop <;> first | ((refine run ?_); conv => whnf) | exact obs) | (apply cuts_end <;> first | ((refine run ?_); conv => whnf) | exact obs) | (apply cuts_drop <;> first | ((refine run ?_); conv => whnf) | exact obs) | (apply wrap_in <;> first | ((refine run ?_); conv => whnf) | exact obs | exact eqs) | refine stq ?_ | (apply callP_skip <;> first | ((refine run ?_); conv => whnf) | assumption | (simp only [bsl, *]; done) | (simp [*]; done)) | ((refine open_in ?_ ?_) <;> first | ((refine run ?_); conv => whnf) | kernel_rfl) | exact eqs | (intro _; rfl))
      refine ret_eq ?_ (by rfl); rw [he, hn]
instance {l : List Od} {c : Option Nat} : Con Sx0 33 [oids l c] (okL l) (.int .i64 (chkS l)) := con (chkS_call l c)
end Go.Proofs.YtepnbdacekkapaaGreatDoor.Ai
