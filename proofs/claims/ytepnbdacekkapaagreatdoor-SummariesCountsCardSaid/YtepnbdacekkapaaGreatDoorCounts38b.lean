/- Counts of chapter 38, one behind the other; the statement SummariesCounts. Own work of this seat. -/
import Derived.Test.YtepnbdacekkapaaGreatDoorCounts38
namespace Go.Proofs.YtepnbdacekkapaaGreatDoor.Ai
open Go
set_option linter.unusedSimpArgs false
set_option linter.unusedVariables false
set_option maxHeartbeats 4000000
set_option maxRecDepth 100000
theorem then_call (l m l2 m2 : Int) (h : okC l m) (h2 : okC l2 m2) : CallF Cx 49 [.agg [.int .i64 l, .int .i64 m], .agg [.int .i64 l2, .int .i64 m2]] [] (.agg [.int .i64 (l + l2), .int .i64 (thenM m l2 m2)]) [] := by
  obtain ⟨h1, h2', h3, h4⟩ := h
  obtain ⟨h5, h6, h7, h8⟩ := h2
  have a1 := runM_cases l2 (-1) m
  have a2 := thenM_cases m l2 m2
  generalize runM l2 (-1) m = x1 at *
  generalize hx : thenM m l2 m2 = x2 at *
  clear hx
  by_cases hm : m = -1 <;> by_cases hl : m - l2 < 0 <;> by_cases hm2 : m2 = -1
  all_goals
    refine sy_call (X := Sx0) (fun _ => false) [] [] (fn := Tryz.f49) Tryz.func49 rfl (by decide) rfl rfl ?_
    repeat' (first | ((refine run ?_); conv => whnf) | with_reducible refine split_nt (by assumption) ?_ | with_reducible refine split_nf (by assumption) ?_ | with_reducible refine split_ht (by assumption) ?_ | with_reducible refine split_hf (by assumption) ?_ | ((first | with_reducible refine split_neg (fun hc => ?_) (fun hc => ?_) | refine split (fun hc => ?_) (fun hc => ?_)) <;> (try simp only [bsl, true_implies, false_implies, Int.reduceEq, Int.reduceLT, Int.reduceLE, Nat.reduceLT, Nat.reduceEqDiff] at hc) <;> (try (exfalso; omega)) <;> (try exact (bool_tf hc (by assumption)).elim) <;> (try exact (bool_ft hc (by assumption)).elim)) | refine fact_in (fun hby => ?_) | refine un_rfl ?_ | refine stp ?_ | exact obs | with_reducible refine And.intro ?_ ?_ | refine nrm ?_ | apply row_eq | (apply cut_end <;> first | ((refine run ?_); conv => whnf) | exact obs) | (apply cut_drop <;> first | ((refine run ?_); conv => whnf) | exact obs) | (apply cuts_end <;> first | ((refine run ?_); conv => whnf) | exact obs) | (apply cuts_drop <;> first | ((refine run ?_); conv => whnf) | exact obs) | (apply wrap_in <;> first | ((refine run ?_); conv => whnf) | exact obs | exact eqs) | refine stq ?_ | (apply callP_skip <;> first | ((refine run ?_); conv => whnf) | assumption | (simp only [bsl, *]; done) | (simp [*]; done)) | ((refine open_in ?_ ?_) <;> first | ((refine run ?_); conv => whnf) | kernel_rfl) | exact eqs | (intro _; rfl))
    all_goals first
      | (refine ret_eq ?_ (by rfl); congr 4; omega)
      | (exfalso; omega)
instance {l m l2 m2 : Int} : Con Sx0 49 [.agg [.int .i64 l, .int .i64 m], .agg [.int .i64 l2, .int .i64 m2]] (okC l m ∧ okC l2 m2) (.agg [.int .i64 (l + l2), .int .i64 (thenM m l2 m2)]) := con fun h => then_call l m l2 m2 h.1 h.2
theorem rthen_call (l m l2 m2 : Int) (h : okC l m) (h2 : okC l2 m2) : CallF Cx 30 [.agg [.int .i64 l, .int .i64 m], .agg [.int .i64 l2, .int .i64 m2]] [] (.agg [.int .i64 (l + l2), .int .i64 (thenM m l2 m2)]) [] := by
  have hc : okC l2 (-1) := ⟨h2.1, h2.2.1, by omega, by omega⟩
  obtain ⟨h1, h2', h3, h4⟩ := h
  obtain ⟨h5, h6, h7, h8⟩ := h2
  have hn : m ≠ -1 → okN m := fun h => ⟨by omega, by omega⟩
  have a1 := runM_cases l2 (-1) m
  have a2 := thenM_cases m l2 m2
  by_cases hm : m = -1 <;> by_cases hm2 : m2 = -1
  all_goals
    refine sy_call (X := Sx0) (fun _ => false) [] [] (fn := Tryz.f30) Tryz.func30 rfl (by decide) rfl rfl ?_
    repeat' (first | ((refine run ?_); conv => whnf) | with_reducible refine split_nt (by assumption) ?_ | with_reducible refine split_nf (by assumption) ?_ | with_reducible refine split_ht (by assumption) ?_ | with_reducible refine split_hf (by assumption) ?_ | ((first | with_reducible refine split_neg (fun hc => ?_) (fun hc => ?_) | refine split (fun hc => ?_) (fun hc => ?_)) <;> (try simp only [bsl, true_implies, false_implies, Int.reduceEq, Int.reduceLT, Int.reduceLE, Nat.reduceLT, Nat.reduceEqDiff] at hc) <;> (try (exfalso; omega)) <;> (try exact (bool_tf hc (by assumption)).elim) <;> (try exact (bool_ft hc (by assumption)).elim)) | refine fact_in (fun hby => ?_) | refine un_rfl ?_ | refine stp ?_ | exact obs | with_reducible refine And.intro ?_ ?_ | refine nrm ?_ | apply row_eq | (apply cut_end <;> first | ((refine run ?_); conv => whnf) | exact obs) | (apply cut_drop <;> first | ((refine run ?_); conv => whnf) | exact obs) | (apply cuts_end <;> first | ((refine run ?_); conv => whnf) | exact obs) | (apply cuts_drop <;> first | ((refine run ?_); conv => whnf) | exact obs) | (apply wrap_in <;> first | ((refine run ?_); conv => whnf) | exact obs | exact eqs) | refine stq ?_ | (apply callP_skip <;> first | ((refine run ?_); conv => whnf) | assumption | (simp only [bsl, *]; done) | (simp [*]; done)) | ((refine open_in ?_ ?_) <;> first | ((refine run ?_); conv => whnf) | kernel_rfl) | exact eqs | (intro _; rfl))
    all_goals first
      | (exfalso; exact hc hm2)
      | (refine ret_eq ?_ (by rfl); congr 4; omega)
      | (exfalso; omega)
instance {l m l2 m2 : Int} : Con Sx0 30 [.agg [.int .i64 l, .int .i64 m], .agg [.int .i64 l2, .int .i64 m2]] (okC l m ∧ okC l2 m2) (.agg [.int .i64 (l + l2), .int .i64 (thenM m l2 m2)]) := con fun h => rthen_call l m l2 m2 h.1 h.2
/-! What the exported functions give. -/
def rE (l m v : Int) : Int := if okC l m ∧ okN v then 0 else 1
def rV (l m v : Int) : Int := if okC l m ∧ okN v then runM l m v else 0
theorem Run_call (l m v : Int) : CallF Cx 26 [.agg [.int .i64 l, .int .i64 m], .int .i64 v] [] (.tup [.int .i64 (rV l m v), .int .i64 (rE l m v)]) [] := by
  by_cases h : okC l m
  · have hd : decide (okC l m) = true := decide_eq_true h
    by_cases hv : okN v
    · have e1 : rV l m v = runM l m v := if_pos ⟨h, hv⟩
      have e2 : rE l m v = 0 := if_pos ⟨h, hv⟩
      rw [e1, e2]
      have a3 := runM_cases l m v
      generalize runM l m v = x3 at *
      obtain ⟨h1, h2, h3, h4⟩ := id h
      obtain ⟨h5, h6⟩ := hv
      by_cases hm : m = -1 <;> by_cases hl : v - l < 0
      all_goals
        refine sy_call (X := Sx0) (fun _ => false) [] [] (fn := Tryz.f26) Tryz.func26 rfl (by decide) rfl rfl ?_
        repeat' (first | ((refine run ?_); conv => whnf) | with_reducible refine split_nt (by assumption) ?_ | with_reducible refine split_nf (by assumption) ?_ | with_reducible refine split_ht (by assumption) ?_ | with_reducible refine split_hf (by assumption) ?_ | ((first | with_reducible refine split_neg (fun hc => ?_) (fun hc => ?_) | refine split (fun hc => ?_) (fun hc => ?_)) <;> (try simp only [bsl, true_implies, false_implies, Int.reduceEq, Int.reduceLT, Int.reduceLE, Nat.reduceLT, Nat.reduceEqDiff] at hc) <;> (try (exfalso; omega)) <;> (try exact (bool_tf hc (by assumption)).elim) <;> (try exact (bool_ft hc (by assumption)).elim)) | refine fact_in (fun hby => ?_) | refine un_rfl ?_ | refine stp ?_ | exact obs | with_reducible refine And.intro ?_ ?_ | refine nrm ?_ | apply row_eq | (apply cut_end <;> first | ((refine run ?_); conv => whnf) | exact obs) | (apply cut_drop <;> first | ((refine run ?_); conv => whnf) | exact obs) | (apply cuts_end <;> first | ((refine run ?_); conv => whnf) | exact obs) | (apply cuts_drop <;> first | ((refine run ?_); conv => whnf) | exact obs) | (apply wrap_in <;> first | ((refine run ?_); conv => whnf) | exact obs | exact eqs) | refine stq ?_ | (apply callP_skip <;> first | ((refine run ?_); conv => whnf) | assumption | (simp only [bsl, *]; done) | (simp [*]; done)) | ((refine open_in ?_ ?_) <;> first | ((refine run ?_); conv => whnf) | kernel_rfl) | exact eqs | (intro _; rfl))
        all_goals first
          | (exfalso; rcases hc with (hc | hc) | hc <;> first | exact hc h | omega)
          | (refine ret_eq ?_ (by rfl); congr 4; omega)
          | (exfalso; simp_all; done)
          | (exfalso; omega)
    · have e1 : rV l m v = 0 := if_neg fun h => hv h.2
      have e2 : rE l m v = 1 := if_neg fun h => hv h.2
      rw [e1, e2]
      have hv' : v < 0 ∨ 2147483647 < v := by unfold okN at hv; omega
      refine sy_call (X := Sx0) (fun _ => false) [] [] (fn := Tryz.f26) Tryz.func26 rfl (by decide) rfl rfl ?_
      repeat' (first | ((refine run ?_); conv => whnf) | with_reducible refine split_nt (by assumption) ?_ | with_reducible refine split_nf (by assumption) ?_ | with_reducible refine split_ht (by assumption) ?_ | with_reducible refine split_hf (by assumption) ?_ | ((first | with_reducible refine split_neg (fun hc => ?_) (fun hc => ?_) | refine split (fun hc => ?_) (fun hc => ?_)) <;> (try simp only [bsl, true_implies, false_implies, Int.reduceEq, Int.reduceLT, Int.reduceLE, Nat.reduceLT, Nat.reduceEqDiff] at hc) <;> (try (exfalso; omega)) <;> (try exact (bool_tf hc (by assumption)).elim) <;> (try exact (bool_ft hc (by assumption)).elim)) | refine fact_in (fun hby => ?_) | refine un_rfl ?_ | refine stp ?_ | exact obs | with_reducible refine And.intro ?_ ?_ | refine nrm ?_ | apply row_eq | (apply cut_end <;> first | ((refine run ?_); conv => whnf) | exact obs) | (apply cut_drop <;> first | ((refine run ?_); conv => whnf) | exact obs) | (apply cuts_end <;> first | ((refine run ?_); conv => whnf) | exact obs) | (apply cuts_drop <;> first | ((refine run ?_); conv => whnf) | exact obs) | (apply wrap_in <;> first | ((refine run ?_); conv => whnf) | exact obs | exact eqs) | refine stq ?_ | (apply callP_skip <;> first | ((refine run ?_); conv => whnf) | assumption | (simp only [bsl, *]; done) | (simp [*]; done)) | ((refine open_in ?_ ?_) <;> first | ((refine run ?_); conv => whnf) | kernel_rfl) | exact eqs | (intro _; rfl))
      all_goals first
        | (refine ret_eq ?_ (by rfl); rfl)
        | (exfalso; simp_all; done)
        | (exfalso; simp_all; omega)
  · have hd : decide (okC l m) = false := decide_eq_false h
    have e1 : rV l m v = 0 := if_neg fun h' => h h'.1
    have e2 : rE l m v = 1 := if_neg fun h' => h h'.1
    rw [e1, e2]
    refine sy_call (X := Sx0) (fun _ => false) [] [] (fn := Tryz.f26) Tryz.func26 rfl (by decide) rfl rfl ?_
    repeat' (first | ((refine run ?_); conv => whnf) | with_reducible refine split_nt (by assumption) ?_ | with_reducible refine split_nf (by assumption) ?_ | with_reducible refine split_ht (by assumption) ?_ | with_reducible refine split_hf (by assumption) ?_ | ((first | with_reducible refine split_neg (fun hc => ?_) (fun hc => ?_) | refine split (fun hc => ?_) (fun hc => ?_)) <;> (try simp only [bsl, true_implies, false_implies, Int.reduceEq, Int.reduceLT, Int.reduceLE, Nat.reduceLT, Nat.reduceEqDiff] at hc) <;> (try (exfalso; omega)) <;> (try exact (bool_tf hc (by assumption)).elim) <;> (try exact (bool_ft hc (by assumption)).elim)) | refine fact_in (fun hby => ?_) | refine un_rfl ?_ | refine stp ?_ | exact obs | with_reducible refine And.intro ?_ ?_ | refine nrm ?_ | apply row_eq | (apply cut_end <;> first | ((refine run ?_); conv => whnf) | exact obs) | (apply cut_drop <;> first | ((refine run ?_); conv => whnf) | exact obs) | (apply cuts_end <;> first | ((refine run ?_); conv => whnf) | exact obs) | (apply cuts_drop <;> first | ((refine run ?_); conv => whnf) | exact obs) | (apply wrap_in <;> first | ((refine run ?_); conv => whnf) | exact obs | exact eqs) | refine stq ?_ | (apply callP_skip <;> first | ((refine run ?_); conv => whnf) | assumption | (simp only [bsl, *]; done) | (simp [*]; done)) | ((refine open_in ?_ ?_) <;> first | ((refine run ?_); conv => whnf) | kernel_rfl) | exact eqs | (intro _; rfl))
    all_goals first
      | (refine ret_eq ?_ (by rfl); rfl)
      | (exfalso; simp_all; done)
instance {l m v : Int} : Con Sx0 26 [.agg [.int .i64 l, .int .i64 m], .int .i64 v] True (.tup [.int .i64 (rV l m v), .int .i64 (rE l m v)]) := con0 (Run_call l m v)
def tE (l m l2 m2 : Int) : Int := if okC l m ∧ okC l2 m2 then (if l + l2 ≤ 64 then 0 else 3) else 1
def tL (l m l2 m2 : Int) : Int := if okC l m ∧ okC l2 m2 ∧ l + l2 ≤ 64 then l + l2 else 0
def tM (l m l2 m2 : Int) : Int := if okC l m ∧ okC l2 m2 ∧ l + l2 ≤ 64 then thenM m l2 m2 else 0
theorem Then_call (l m l2 m2 : Int) : CallF Cx 25 [.agg [.int .i64 l, .int .i64 m], .agg [.int .i64 l2, .int .i64 m2]] [] (.tup [.agg [.int .i64 (tL l m l2 m2), .int .i64 (tM l m l2 m2)], .int .i64 (tE l m l2 m2)]) [] := by
  by_cases h : okC l m
  · have hd : decide (okC l m) = true := decide_eq_true h
    by_cases h2 : okC l2 m2
    · have hd2 : decide (okC l2 m2) = true := decide_eq_true h2
      have hp : okC l m ∧ okC l2 m2 := ⟨h, h2⟩
      by_cases hs : l + l2 ≤ 64
      · have e1 : tL l m l2 m2 = l + l2 := if_pos ⟨h, h2, hs⟩
        have e2 : tM l m l2 m2 = thenM m l2 m2 := if_pos ⟨h, h2, hs⟩
        have e3 : tE l m l2 m2 = 0 := by unfold tE; rw [if_pos hp, if_pos hs]
        rw [e1, e2, e3]
        obtain ⟨h1, h2', h3, h4⟩ := id h
        obtain ⟨h5, h6, h7, h8⟩ := id h2
        refine sy_call (X := Sx0) (fun _ => false) [] [] (fn := Tryz.f25) Tryz.func25 rfl (by decide) rfl rfl ?_
        repeat' (first | ((refine run ?_); conv => whnf) | with_reducible refine split_nt (by assumption) ?_ | with_reducible refine split_nf (by assumption) ?_ | with_reducible refine split_ht (by assumption) ?_ | with_reducible refine split_hf (by assumption) ?_ | ((first | with_reducible refine split_neg (fun hc => ?_) (fun hc => ?_) | refine split (fun hc => ?_) (fun hc => ?_)) <;> (try simp only [bsl, true_implies, false_implies, Int.reduceEq, Int.reduceLT, Int.reduceLE, Nat.reduceLT, Nat.reduceEqDiff] at hc) <;> (try (exfalso; omega)) <;> (try exact (bool_tf hc (by assumption)).elim) <;> (try exact (bool_ft hc (by assumption)).elim)) | refine fact_in (fun hby => ?_) | refine un_rfl ?_ | refine stp ?_ | exact obs | with_reducible refine And.intro ?_ ?_ | refine nrm ?_ | apply row_eq | (apply cut_end <;> first | ((refine run ?_); conv => whnf) | exact obs) | (apply cut_drop <;> first | ((refine run ?_); conv => whnf) | exact obs) | (apply cuts_end <;> first | ((refine run ?_); conv => whnf) | exact obs) | (apply cuts_drop <;> first | ((refine run ?_); conv => whnf) | exact obs) | (apply wrap_in <;> first | ((refine run ?_); conv => whnf) | exact obs | exact eqs) | refine stq ?_ | (apply callP_skip <;> first | ((refine run ?_); conv => whnf) | assumption | (simp only [bsl, *]; done) | (simp [*]; done)) | ((refine open_in ?_ ?_) <;> first | ((refine run ?_); conv => whnf) | kernel_rfl) | exact eqs | (intro _; rfl))
        all_goals first
          | (refine ret_eq ?_ (by rfl); rfl)
          | (exfalso; simp_all; done)
          | (exfalso; omega)
      · have e1 : tL l m l2 m2 = 0 := if_neg fun h => hs h.2.2
        have e2 : tM l m l2 m2 = 0 := if_neg fun h => hs h.2.2
        have e3 : tE l m l2 m2 = 3 := by unfold tE; rw [if_pos hp, if_neg hs]
        rw [e1, e2, e3]
        obtain ⟨h1, h2', h3, h4⟩ := id h
        obtain ⟨h5, h6, h7, h8⟩ := id h2
        refine sy_call (X := Sx0) (fun _ => false) [] [] (fn := Tryz.f25) Tryz.func25 rfl (by decide) rfl rfl ?_
        repeat' (first | ((refine run ?_); conv => whnf) | with_reducible refine split_nt (by assumption) ?_ | with_reducible refine split_nf (by assumption) ?_ | with_reducible refine split_ht (by assumption) ?_ | with_reducible refine split_hf (by assumption) ?_ | ((first | with_reducible refine split_neg (fun hc => ?_) (fun hc => ?_) | refine split (fun hc => ?_) (fun hc => ?_)) <;> (try simp only [bsl, true_implies, false_implies, Int.reduceEq, Int.reduceLT, Int.reduceLE, Nat.reduceLT, Nat.reduceEqDiff] at hc) <;> (try (exfalso; omega)) <;> (try exact (bool_tf hc (by assumption)).elim) <;> (try exact (bool_ft hc (by assumption)).elim)) | refine fact_in (fun hby => ?_) | refine un_rfl ?_ | refine stp ?_ | exact obs | with_reducible refine And.intro ?_ ?_ | refine nrm ?_ | apply row_eq | (apply cut_end <;> first | ((refine run ?_); conv => whnf) | exact obs) | (apply cut_drop <;> first | ((refine run ?_); conv => whnf) | exact obs) | (apply cuts_end <;> first | ((refine run ?_); conv => whnf) | exact obs) | (apply cuts_drop <;> first | ((refine run ?_); conv => whnf) | exact obs) | (apply wrap_in <;> first | ((refine run ?_); conv => whnf) | exact obs | exact eqs) | refine stq ?_ | (apply callP_skip <;> first | ((refine run ?_); conv => whnf) | assumption | (simp only [bsl, *]; done) | (simp [*]; done)) | ((refine open_in ?_ ?_) <;> first | ((refine run ?_); conv => whnf) | kernel_rfl) | exact eqs | (intro _; rfl))
        all_goals first
          | (refine ret_eq ?_ (by rfl); rfl)
          | (exfalso; simp_all; done)
          | (exfalso; omega)
    · have hd2 : decide (okC l2 m2) = false := decide_eq_false h2
      have e1 : tL l m l2 m2 = 0 := if_neg fun h => h2 h.2.1
      have e2 : tM l m l2 m2 = 0 := if_neg fun h => h2 h.2.1
      have e3 : tE l m l2 m2 = 1 := if_neg fun h => h2 h.2
      rw [e1, e2, e3]
      refine sy_call (X := Sx0) (fun _ => false) [] [] (fn := Tryz.f25) Tryz.func25 rfl (by decide) rfl rfl ?_
      repeat' (first | ((refine run ?_); conv => whnf) | with_reducible refine split_nt (by assumption) ?_ | with_reducible refine split_nf (by assumption) ?_ | with_reducible refine split_ht (by assumption) ?_ | with_reducible refine split_hf (by assumption) ?_ | ((first | with_reducible refine split_neg (fun hc => ?_) (fun hc => ?_) | refine split (fun hc => ?_) (fun hc => ?_)) <;> (try simp only [bsl, true_implies, false_implies, Int.reduceEq, Int.reduceLT, Int.reduceLE, Nat.reduceLT, Nat.reduceEqDiff] at hc) <;> (try (exfalso; omega)) <;> (try exact (bool_tf hc (by assumption)).elim) <;> (try exact (bool_ft hc (by assumption)).elim)) | refine fact_in (fun hby => ?_) | refine un_rfl ?_ | refine stp ?_ | exact obs | with_reducible refine And.intro ?_ ?_ | refine nrm ?_ | apply row_eq | (apply cut_end <;> first | ((refine run ?_); conv => whnf) | exact obs) | (apply cut_drop <;> first | ((refine run ?_); conv => whnf) | exact obs) | (apply cuts_end <;> first | ((refine run ?_); conv => whnf) | exact obs) | (apply cuts_drop <;> first | ((refine run ?_); conv => whnf) | exact obs) | (apply wrap_in <;> first | ((refine run ?_); conv => whnf) | exact obs | exact eqs) | refine stq ?_ | (apply callP_skip <;> first | ((refine run ?_); conv => whnf) | assumption | (simp only [bsl, *]; done) | (simp [*]; done)) | ((refine open_in ?_ ?_) <;> first | ((refine run ?_); conv => whnf) | kernel_rfl) | exact eqs | (intro _; rfl))
      all_goals first
        | (refine ret_eq ?_ (by rfl); rfl)
        | (exfalso; simp_all; done)
  · have hd : decide (okC l m) = false := decide_eq_false h
    have e1 : tL l m l2 m2 = 0 := if_neg fun h' => h h'.1
    have e2 : tM l m l2 m2 = 0 := if_neg fun h' => h h'.1
    have e3 : tE l m l2 m2 = 1 := if_neg fun h' => h h'.1
    rw [e1, e2, e3]
    refine sy_call (X := Sx0) (fun _ => false) [] [] (fn := Tryz.f25) Tryz.func25 rfl (by decide) rfl rfl ?_
    repeat' (first | ((refine run ?_); conv => whnf) | with_reducible refine split_nt (by assumption) ?_ | with_reducible refine split_nf (by assumption) ?_ | with_reducible refine split_ht (by assumption) ?_ | with_reducible refine split_hf (by assumption) ?_ | ((first | with_reducible refine split_neg (fun hc => ?_) (fun hc => ?_) | refine split (fun hc => ?_) (fun hc => ?_)) <;> (try simp only [bsl, true_implies, false_implies, Int.reduceEq, Int.reduceLT, Int.reduceLE, Nat.reduceLT, Nat.reduceEqDiff] at hc) <;> (try (exfalso; omega)) <;> (try exact (bool_tf hc (by assumption)).elim) <;> (try exact (bool_ft hc (by assumption)).elim)) | refine fact_in (fun hby => ?_) | refine un_rfl ?_ | refine stp ?_ | exact obs | with_reducible refine And.intro ?_ ?_ | refine nrm ?_ | apply row_eq | (apply cut_end <;> first | ((refine run ?_); conv => whnf) | exact obs) | (apply cut_drop <;> first | ((refine run ?_); conv => whnf) | exact obs) | (apply cuts_end <;> first | ((refine run ?_); conv => whnf) | exact obs) | (apply cuts_drop <;> first | ((refine run ?_); conv => whnf) | exact obs) | (apply wrap_in <;> first | ((refine run ?_); conv => whnf) | exact obs | exact eqs) | refine stq ?_ | (apply callP_skip <;> first | ((refine run ?_); conv => whnf) | assumption | (simp only [bsl, *]; done) | (simp [*]; done)) | ((refine open_in ?_ ?_) <;> first | ((refine run ?_); conv => whnf) | kernel_rfl) | exact eqs | (intro _; rfl))
    all_goals first
      | (refine ret_eq ?_ (by rfl); rfl)
      | (exfalso; simp_all; done)
instance {l m l2 m2 : Int} : Con Sx0 25 [.agg [.int .i64 l, .int .i64 m], .agg [.int .i64 l2, .int .i64 m2]] True (.tup [.agg [.int .i64 (tL l m l2 m2), .int .i64 (tM l m l2 m2)], .int .i64 (tE l m l2 m2)]) := con0 (Then_call l m l2 m2)
end Go.Proofs.YtepnbdacekkapaaGreatDoor.Ai
