/- Counts of chapter 38: valid ones, one behind the other, what they make of a counter; the statement SummariesCounts. Own work of this seat. -/
import Derived.Test.YtepnbdacekkapaaGreatDoorLives38
import Derived.Test.YtepnbdacekkapaaGreatDoorAiRead
namespace Go.Proofs.YtepnbdacekkapaaGreatDoor.Ai
open Go
set_option linter.unusedSimpArgs false
set_option linter.unusedVariables false
set_option maxHeartbeats 4000000
set_option maxRecDepth 100000
instance : Con Sx0 29 [] True (.bool true) := con0 lives38
def okC (l m : Int) : Prop := 0 ≤ l ∧ l ≤ 64 ∧ -1 ≤ m ∧ m ≤ 2147483647
instance (l m : Int) : Decidable (okC l m) := by unfold okC; infer_instance
def okN (v : Int) : Prop := 0 ≤ v ∧ v ≤ 2147483647
instance (v : Int) : Decidable (okN v) := by unfold okN; infer_instance
theorem valid_call (l m : Int) : CallF Cx 48 [.agg [.int .i64 l, .int .i64 m]] [] (.bool (decide (okC l m))) [] := by
  by_cases h0 : 0 ≤ l
  · refine sy_call (X := Sx0) (fun _ => false) [] [] (fn := Tryz.f48) Tryz.func48 rfl (by decide) rfl rfl ?_
    repeat' (first | ((refine run ?_); conv => whnf) | with_reducible refine split_nt (by assumption) ?_ | with_reducible refine split_nf (by assumption) ?_ | with_reducible refine split_ht (by assumption) ?_ | with_reducible refine split_hf (by assumption) ?_ | ((first | with_reducible refine split_neg (fun hc => ?_) (fun hc => ?_) | refine split (fun hc => ?_) (fun hc => ?_)) <;> (try simp only [bsl, true_implies, false_implies, Int.reduceEq, Int.reduceLT, Int.reduceLE, Nat.reduceLT, Nat.reduceEqDiff] at hc) <;> (try (exfalso; omega)) <;> (try exact (bool_tf hc (by assumption)).elim) <;> (try exact (bool_ft hc (by assumption)).elim)) | refine fact_in (fun hby => ?_) | refine un_rfl ?_ | refine stp ?_ | exact obs | with_reducible refine And.intro ?_ ?_ | refine nrm ?_ | apply row_eq | (apply cut_end <;> first | ((refine run ?_); conv => whnf) | exact obs) | (apply cut_drop <;> first | ((refine run ?_); conv => whnf) | exact obs) | (apply cuts_end <;> first | ((refine run ?_); conv => whnf) | exact obs) | (apply cuts_drop <;> first | ((refine run ?_); conv => whnf) | exact obs) | (apply wrap_in <;> first | ((refine run ?_); conv => whnf) | exact obs | exact eqs) | refine stq ?_ | (apply callP_skip <;> first | ((refine run ?_); conv => whnf) | assumption | (simp only [bsl, *]; done) | (simp [*]; done)) | ((refine open_in ?_ ?_) <;> first | ((refine run ?_); conv => whnf) | kernel_rfl) | exact eqs | (intro _; rfl))
    refine ret_eq ?_ (by rfl); simp [okC, h0, Bool.and_assoc]
  · refine sy_call (X := Sx0) (fun _ => false) [] [] (fn := Tryz.f48) Tryz.func48 rfl (by decide) rfl rfl ?_
    repeat' (first | ((refine run ?_); conv => whnf) | with_reducible refine split_nt (by assumption) ?_ | with_reducible refine split_nf (by assumption) ?_ | with_reducible refine split_ht (by assumption) ?_ | with_reducible refine split_hf (by assumption) ?_ | ((first | with_reducible refine split_neg (fun hc => ?_) (fun hc => ?_) | refine split (fun hc => ?_) (fun hc => ?_)) <;> (try simp only [bsl, true_implies, false_implies, Int.reduceEq, Int.reduceLT, Int.reduceLE, Nat.reduceLT, Nat.reduceEqDiff] at hc) <;> (try (exfalso; omega)) <;> (try exact (bool_tf hc (by assumption)).elim) <;> (try exact (bool_ft hc (by assumption)).elim)) | refine fact_in (fun hby => ?_) | refine un_rfl ?_ | refine stp ?_ | exact obs | with_reducible refine And.intro ?_ ?_ | refine nrm ?_ | apply row_eq | (apply cut_end <;> first | ((refine run ?_); conv => whnf) | exact obs) | (apply cut_drop <;> first | ((refine run ?_); conv => whnf) | exact obs) | (apply cuts_end <;> first | ((refine run ?_); conv => whnf) | exact obs) | (apply cuts_drop <;> first | ((refine run ?_); conv => whnf) | exact obs) | (apply wrap_in <;> first | ((refine run ?_); conv => whnf) | exact obs | exact eqs) | refine stq ?_ | (apply callP_skip <;> first | ((refine run ?_); conv => whnf) | assumption | (simp only [bsl, *]; done) | (simp [*]; done)) | ((refine open_in ?_ ?_) <;> first | ((refine run ?_); conv => whnf) | kernel_rfl) | exact eqs | (intro _; rfl))
    refine ret_eq ?_ (by rfl); simp [okC, h0]
instance {l m : Int} : Con Sx0 48 [.agg [.int .i64 l, .int .i64 m]] True (.bool (decide (okC l m))) := con0 (valid_call l m)
theorem rvalid_call (l m : Int) : CallF Cx 27 [.agg [.int .i64 l, .int .i64 m]] [] (.bool (decide (okC l m))) [] := by
  by_cases h0 : 0 ≤ l
  · refine sy_call (X := Sx0) (fun _ => false) [] [] (fn := Tryz.f27) Tryz.func27 rfl (by decide) rfl rfl ?_
    repeat' (first | ((refine run ?_); conv => whnf) | with_reducible refine split_nt (by assumption) ?_ | with_reducible refine split_nf (by assumption) ?_ | with_reducible refine split_ht (by assumption) ?_ | with_reducible refine split_hf (by assumption) ?_ | ((first | with_reducible refine split_neg (fun hc => ?_) (fun hc => ?_) | refine split (fun hc => ?_) (fun hc => ?_)) <;> (try simp only [bsl, true_implies, false_implies, Int.reduceEq, Int.reduceLT, Int.reduceLE, Nat.reduceLT, Nat.reduceEqDiff] at hc) <;> (try (exfalso; omega)) <;> (try exact (bool_tf hc (by assumption)).elim) <;> (try exact (bool_ft hc (by assumption)).elim)) | refine fact_in (fun hby => ?_) | refine un_rfl ?_ | refine stp ?_ | exact obs | with_reducible refine And.intro ?_ ?_ | refine nrm ?_ | apply row_eq | (apply cut_end <;> first | ((refine run ?_); conv => whnf) | exact obs) | (apply cut_drop <;> first | ((refine run ?_); conv => whnf) | exact obs) | (apply cuts_end <;> first | ((refine run ?_); conv => whnf) | exact obs) | (apply cuts_drop <;> first | ((refine run ?_); conv => whnf) | exact obs) | (apply wrap_in <;> first | ((refine run ?_); conv => whnf) | exact obs | exact eqs) | refine stq ?_ | (apply callP_skip <;> first | ((refine run ?_); conv => whnf) | assumption | (simp only [bsl, *]; done) | (simp [*]; done)) | ((refine open_in ?_ ?_) <;> first | ((refine run ?_); conv => whnf) | kernel_rfl) | exact eqs | (intro _; rfl))
    refine ret_eq ?_ (by rfl); simp [okC, h0, Bool.and_assoc]
  · refine sy_call (X := Sx0) (fun _ => false) [] [] (fn := Tryz.f27) Tryz.func27 rfl (by decide) rfl rfl ?_
    repeat' (first | ((refine run ?_); conv => whnf) | with_reducible refine split_nt (by assumption) ?_ | with_reducible refine split_nf (by assumption) ?_ | with_reducible refine split_ht (by assumption) ?_ | with_reducible refine split_hf (by assumption) ?_ | ((first | with_reducible refine split_neg (fun hc => ?_) (fun hc => ?_) | refine split (fun hc => ?_) (fun hc => ?_)) <;> (try simp only [bsl, true_implies, false_implies, Int.reduceEq, Int.reduceLT, Int.reduceLE, Nat.reduceLT, Nat.reduceEqDiff] at hc) <;> (try (exfalso; omega)) <;> (try exact (bool_tf hc (by assumption)).elim) <;> (try exact (bool_ft hc (by assumption)).elim)) | refine fact_in (fun hby => ?_) | refine un_rfl ?_ | refine stp ?_ | exact obs | with_reducible refine And.intro ?_ ?_ | refine nrm ?_ | apply row_eq | (apply cut_end <;> first | ((refine run ?_); conv => whnf) | exact obs) | (apply cut_drop <;> first | ((refine run ?_); conv => whnf) | exact obs) | (apply cuts_end <;> first | ((refine run ?_); conv => whnf) | exact obs) | (apply cuts_drop <;> first | ((refine run ?_); conv => whnf) | exact obs) | (apply wrap_in <;> first | ((refine run ?_); conv => whnf) | exact obs | exact eqs) | refine stq ?_ | (apply callP_skip <;> first | ((refine run ?_); conv => whnf) | assumption | (simp only [bsl, *]; done) | (simp [*]; done)) | ((refine open_in ?_ ?_) <;> first | ((refine run ?_); conv => whnf) | kernel_rfl) | exact eqs | (intro _; rfl))
    refine ret_eq ?_ (by rfl); simp [okC, h0]
instance {l m : Int} : Con Sx0 27 [.agg [.int .i64 l, .int .i64 m]] True (.bool (decide (okC l m))) := con0 (rvalid_call l m)
/-- What a count makes of a counter. -/
def runM (l m v : Int) : Int := if m = -1 then (if v - l < 0 then 0 else v - l) else if m < (if v - l < 0 then 0 else v - l) then m else (if v - l < 0 then 0 else v - l)
def thenM (m l2 m2 : Int) : Int := if m2 ≠ -1 ∧ (m = -1 ∨ m2 < runM l2 (-1) m) then m2 else if m = -1 then -1 else runM l2 (-1) m
theorem runM_cases (l m v : Int) : (m = -1 ∧ v - l < 0 ∧ runM l m v = 0) ∨ (m = -1 ∧ 0 ≤ v - l ∧ runM l m v = v - l) ∨ (m ≠ -1 ∧ v - l < 0 ∧ 0 ≤ m ∧ runM l m v = 0) ∨ (m ≠ -1 ∧ v - l < 0 ∧ m < 0 ∧ runM l m v = m) ∨
    (m ≠ -1 ∧ 0 ≤ v - l ∧ m < v - l ∧ runM l m v = m) ∨ (m ≠ -1 ∧ 0 ≤ v - l ∧ v - l ≤ m ∧ runM l m v = v - l) := by
  unfold runM
  by_cases h1 : m = -1 <;> by_cases h2 : v - l < 0
  · exact .inl ⟨h1, h2, by rw [if_pos h1, if_pos h2]⟩
  · exact .inr (.inl ⟨h1, by omega, by rw [if_pos h1, if_neg h2]⟩)
  · by_cases h3 : m < 0
    · exact .inr (.inr (.inr (.inl ⟨h1, h2, h3, by rw [if_neg h1, if_pos h2, if_pos h3]⟩)))
    · exact .inr (.inr (.inl ⟨h1, h2, by omega, by rw [if_neg h1, if_pos h2, if_neg h3]⟩))
  · by_cases h3 : m < v - l
    · exact .inr (.inr (.inr (.inr (.inl ⟨h1, by omega, h3, by rw [if_neg h1, if_neg h2, if_pos h3]⟩))))
    · exact .inr (.inr (.inr (.inr (.inr ⟨h1, by omega, by omega, by rw [if_neg h1, if_neg h2, if_neg h3]⟩))))
theorem thenM_cases (m l2 m2 : Int) : ((m2 ≠ -1 ∧ (m = -1 ∨ m2 < runM l2 (-1) m)) ∧ thenM m l2 m2 = m2) ∨ (¬ (m2 ≠ -1 ∧ (m = -1 ∨ m2 < runM l2 (-1) m)) ∧ m = -1 ∧ thenM m l2 m2 = -1) ∨ (¬ (m2 ≠ -1 ∧ (m = -1 ∨ m2 < runM l2 (-1) m)) ∧ m ≠ -1 ∧ thenM m l2 m2 = runM l2 (-1) m) := by
  unfold thenM
  by_cases h1 : m2 ≠ -1 ∧ (m = -1 ∨ m2 < runM l2 (-1) m)
  · exact .inl ⟨h1, by rw [if_pos h1]⟩
  · by_cases h2 : m = -1
    · exact .inr (.inl ⟨h1, h2, by rw [if_neg h1, if_pos h2]⟩)
    · exact .inr (.inr ⟨h1, h2, by rw [if_neg h1, if_neg h2]⟩)
theorem runM_bd {l m v : Int} (h : okC l m) (hv : okN v) : okN (runM l m v) := by
  obtain ⟨h1, h2, h3, h4⟩ := h
  obtain ⟨h5, h6⟩ := hv
  have a := runM_cases l m v
  unfold okN
  generalize runM l m v = x at *
  omega
theorem thenM_bd {l m l2 m2 : Int} (h : okC l m) (h2 : okC l2 m2) : -1 ≤ thenM m l2 m2 ∧ thenM m l2 m2 ≤ 2147483647 := by
  obtain ⟨h1, h2', h3, h4⟩ := h
  obtain ⟨h5, h6, h7, h8⟩ := h2
  have a1 := runM_cases l2 (-1) m
  have a2 := thenM_cases m l2 m2
  generalize runM l2 (-1) m = x1 at *
  generalize thenM m l2 m2 = x2 at *
  omega
theorem then_law {l m l2 m2 v : Int} (h : okC l m) (h2 : okC l2 m2) (hv : okN v) : runM (l + l2) (thenM m l2 m2) v = runM l2 m2 (runM l m v) := by
  obtain ⟨h1, h2', h3, h4⟩ := h
  obtain ⟨h5, h6, h7, h8⟩ := h2
  obtain ⟨h9, h10⟩ := hv
  have a1 := runM_cases l2 (-1) m
  have a2 := thenM_cases m l2 m2
  have a3 := runM_cases l m v
  have a4 := runM_cases l2 m2 (runM l m v)
  have a5 := runM_cases (l + l2) (thenM m l2 m2) v
  generalize runM l2 (-1) m = x1 at *
  generalize thenM m l2 m2 = x2 at *
  generalize runM l2 m2 (runM l m v) = x4 at *
  generalize runM l m v = x3 at *
  generalize runM (l + l2) x2 v = x5 at *
  omega
theorem rrun_call (l m v : Int) (h : okC l m) (hv : okN v) : CallF Cx 28 [.agg [.int .i64 l, .int .i64 m], .int .i64 v] [] (.int .i64 (runM l m v)) [] := by
  obtain ⟨h1, h2, h3, h4⟩ := h
  obtain ⟨h5, h6⟩ := hv
  by_cases hm : m = -1 <;> by_cases hl : v - l < 0
  · have e : runM l m v = 0 := by unfold runM; rw [if_pos hm, if_pos hl]
    rw [e]
    refine sy_call (X := Sx0) (fun _ => false) [] [] (fn := Tryz.f28) Tryz.func28 rfl (by decide) rfl rfl ?_
    repeat' (first | ((refine run ?_); conv => whnf) | with_reducible refine split_nt (by assumption) ?_ | with_reducible refine split_nf (by assumption) ?_ | with_reducible refine split_ht (by assumption) ?_ | with_reducible refine split_hf (by assumption) ?_ | ((first | with_reducible refine split_neg (fun hc => ?_) (fun hc => ?_) | refine split (fun hc => ?_) (fun hc => ?_)) <;> (try simp only [bsl, true_implies, false_implies, Int.reduceEq, Int.reduceLT, Int.reduceLE, Nat.reduceLT, Nat.reduceEqDiff] at hc) <;> (try (exfalso; omega)) <;> (try exact (bool_tf hc (by assumption)).elim) <;> (try exact (bool_ft hc (by assumption)).elim)) | refine fact_in (fun hby => ?_) | refine un_rfl ?_ | refine stp ?_ | exact obs | with_reducible refine And.intro ?_ ?_ | refine nrm ?_ | apply row_eq | (apply cut_end <;> first | ((refine run ?_); conv => whnf) | exact obs) | (apply cut_drop <;> first | ((refine run ?_); conv => whnf) | exact obs) | (apply cuts_end <;> first | ((refine run ?_); conv => whnf) | exact obs) | (apply cuts_drop <;> first | ((refine run ?_); conv => whnf) | exact obs) | (apply wrap_in <;> first | ((refine run ?_); conv => whnf) | exact obs | exact eqs) | refine stq ?_ | (apply callP_skip <;> first | ((refine run ?_); conv => whnf) | assumption | (simp only [bsl, *]; done) | (simp [*]; done)) | ((refine open_in ?_ ?_) <;> first | ((refine run ?_); conv => whnf) | kernel_rfl) | exact eqs | (intro _; rfl))
    refine ret_eq ?_ (by rfl); rfl
  · have e : runM l m v = v - l := by unfold runM; rw [if_pos hm, if_neg hl]
    rw [e]
    refine sy_call (X := Sx0) (fun _ => false) [] [] (fn := Tryz.f28) Tryz.func28 rfl (by decide) rfl rfl ?_
    repeat' (first | ((refine run ?_); conv => whnf) | with_reducible refine split_nt (by assumption) ?_ | with_reducible refine split_nf (by assumption) ?_ | with_reducible refine split_ht (by assumption) ?_ | with_reducible refine split_hf (by assumption) ?_ | ((first | with_reducible refine split_neg (fun hc => ?_) (fun hc => ?_) | refine split (fun hc => ?_) (fun hc => ?_)) <;> (try simp only [bsl, true_implies, false_implies, Int.reduceEq, Int.reduceLT, Int.reduceLE, Nat.reduceLT, Nat.reduceEqDiff] at hc) <;> (try (exfalso; omega)) <;> (try exact (bool_tf hc (by assumption)).elim) <;> (try exact (bool_ft hc (by assumption)).elim)) | refine fact_in (fun hby => ?_) | refine un_rfl ?_ | refine stp ?_ | exact obs | with_reducible refine And.intro ?_ ?_ | refine nrm ?_ | apply row_eq | (apply cut_end <;> first | ((refine run ?_); conv => whnf) | exact obs) | (apply cut_drop <;> first | ((refine run ?_); conv => whnf) | exact obs) | (apply cuts_end <;> first | ((refine run ?_); conv => whnf) | exact obs) | (apply cuts_drop <;> first | ((refine run ?_); conv => whnf) | exact obs) | (apply wrap_in <;> first | ((refine run ?_); conv => whnf) | exact obs | exact eqs) | refine stq ?_ | (apply callP_skip <;> first | ((refine run ?_); conv => whnf) | assumption | (simp only [bsl, *]; done) | (simp [*]; done)) | ((refine open_in ?_ ?_) <;> first | ((refine run ?_); conv => whnf) | kernel_rfl) | exact eqs | (intro _; rfl))
    refine ret_eq ?_ (by rfl); rfl
  · have e : runM l m v = 0 := by unfold runM; rw [if_neg hm, if_pos hl, if_neg (by omega)]
    rw [e]
    refine sy_call (X := Sx0) (fun _ => false) [] [] (fn := Tryz.f28) Tryz.func28 rfl (by decide) rfl rfl ?_
    repeat' (first | ((refine run ?_); conv => whnf) | with_reducible refine split_nt (by assumption) ?_ | with_reducible refine split_nf (by assumption) ?_ | with_reducible refine split_ht (by assumption) ?_ | with_reducible refine split_hf (by assumption) ?_ | ((first | with_reducible refine split_neg (fun hc => ?_) (fun hc => ?_) | refine split (fun hc => ?_) (fun hc => ?_)) <;> (try simp only [bsl, true_implies, false_implies, Int.reduceEq, Int.reduceLT, Int.reduceLE, Nat.reduceLT, Nat.reduceEqDiff] at hc) <;> (try (exfalso; omega)) <;> (try exact (bool_tf hc (by assumption)).elim) <;> (try exact (bool_ft hc (by assumption)).elim)) | refine fact_in (fun hby => ?_) | refine un_rfl ?_ | refine stp ?_ | exact obs | with_reducible refine And.intro ?_ ?_ | refine nrm ?_ | apply row_eq | (apply cut_end <;> first | ((refine run ?_); conv => whnf) | exact obs) | (apply cut_drop <;> first | ((refine run ?_); conv => whnf) | exact obs) | (apply cuts_end <;> first | ((refine run ?_); conv => whnf) | exact obs) | (apply cuts_drop <;> first | ((refine run ?_); conv => whnf) | exact obs) | (apply wrap_in <;> first | ((refine run ?_); conv => whnf) | exact obs | exact eqs) | refine stq ?_ | (apply callP_skip <;> first | ((refine run ?_); conv => whnf) | assumption | (simp only [bsl, *]; done) | (simp [*]; done)) | ((refine open_in ?_ ?_) <;> first | ((refine run ?_); conv => whnf) | kernel_rfl) | exact eqs | (intro _; rfl))
    refine ret_eq ?_ (by rfl); rfl
  · by_cases hk : m < v - l
    · have e : runM l m v = m := by unfold runM; rw [if_neg hm, if_neg hl, if_pos hk]
      rw [e]
      refine sy_call (X := Sx0) (fun _ => false) [] [] (fn := Tryz.f28) Tryz.func28 rfl (by decide) rfl rfl ?_
      repeat' (first | ((refine run ?_); conv => whnf) | with_reducible refine split_nt (by assumption) ?_ | with_reducible refine split_nf (by assumption) ?_ | with_reducible refine split_ht (by assumption) ?_ | with_reducible refine split_hf (by assumption) ?_ | ((first | with_reducible refine split_neg (fun hc => ?_) (fun hc => ?_) | refine split (fun hc => ?_) (fun hc => ?_)) <;> (try simp only [bsl, true_implies, false_implies, Int.reduceEq, Int.reduceLT, Int.reduceLE, Nat.reduceLT, Nat.reduceEqDiff] at hc) <;> (try (exfalso; omega)) <;> (try exact (bool_tf hc (by assumption)).elim) <;> (try exact (bool_ft hc (by assumption)).elim)) | refine fact_in (fun hby => ?_) | refine un_rfl ?_ | refine stp ?_ | exact obs | with_reducible refine And.intro ?_ ?_ | refine nrm ?_ | apply row_eq | (apply cut_end <;> first | ((refine run ?_); conv => whnf) | exact obs) | (apply cut_drop <;> first | ((refine run ?_); conv => whnf) | exact obs) | (apply cuts_end <;> first | ((refine run ?_); conv => whnf) | exact obs) | (apply cuts_drop <;> first | ((refine run ?_); conv => whnf) | exact obs) | (apply wrap_in <;> first | ((refine run ?_); conv => whnf) | exact obs | exact eqs) | refine stq ?_ | (apply callP_skip <;> first | ((refine run ?_); conv => whnf) | assumption | (simp only [bsl, *]; done) | (simp [*]; done)) | ((refine open_in ?_ ?_) <;> first | ((refine run ?_); conv => whnf) | kernel_rfl) | exact eqs | (intro _; rfl))
      refine ret_eq ?_ (by rfl); rfl
    · have e : runM l m v = v - l := by unfold runM; rw [if_neg hm, if_neg hl, if_neg hk]
      rw [e]
      refine sy_call (X := Sx0) (fun _ => false) [] [] (fn := Tryz.f28) Tryz.func28 rfl (by decide) rfl rfl ?_
      repeat' (first | ((refine run ?_); conv => whnf) | with_reducible refine split_nt (by assumption) ?_ | with_reducible refine split_nf (by assumption) ?_ | with_reducible refine split_ht (by assumption) ?_ | with_reducible refine split_hf (by assumption) ?_ | ((first | with_reducible refine split_neg (fun hc => ?_) (fun hc => ?_) | refine split (fun hc => ?_) (fun hc => ?_)) <;> (try simp only [bsl, true_implies, false_implies, Int.reduceEq, Int.reduceLT, Int.reduceLE, Nat.reduceLT, Nat.reduceEqDiff] at hc) <;> (try (exfalso; omega)) <;> (try exact (bool_tf hc (by assumption)).elim) <;> (try exact (bool_ft hc (by assumption)).elim)) | refine fact_in (fun hby => ?_) | refine un_rfl ?_ | refine stp ?_ | exact obs | with_reducible refine And.intro ?_ ?_ | refine nrm ?_ | apply row_eq | (apply cut_end <;> first | ((refine run ?_); conv => whnf) | exact obs) | (apply cut_drop <;> first | ((refine run ?_); conv => whnf) | exact obs) | (apply cuts_end <;> first | ((refine run ?_); conv => whnf) | exact obs) | (apply cuts_drop <;> first | ((refine run ?_); conv => whnf) | exact obs) | (apply wrap_in <;> first | ((refine run ?_); conv => whnf) | exact obs | exact eqs) | refine stq ?_ | (apply callP_skip <;> first | ((refine run ?_); conv => whnf) | assumption | (simp only [bsl, *]; done) | (simp [*]; done)) | ((refine open_in ?_ ?_) <;> first | ((refine run ?_); conv => whnf) | kernel_rfl) | exact eqs | (intro _; rfl))
      refine ret_eq ?_ (by rfl); rfl
instance {l m v : Int} : Con Sx0 28 [.agg [.int .i64 l, .int .i64 m], .int .i64 v] (okC l m ∧ okN v) (.int .i64 (runM l m v)) := con fun h => rrun_call l m v h.1 h.2
end Go.Proofs.YtepnbdacekkapaaGreatDoor.Ai
