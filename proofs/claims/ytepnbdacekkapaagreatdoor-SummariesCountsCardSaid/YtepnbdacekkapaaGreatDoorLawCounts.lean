/- The statement SummariesCounts: counts one behind the other do what they do one after the other; others are refused. Own work of this seat. -/
import Derived.Test.YtepnbdacekkapaaGreatDoorCounts38b
namespace Go.Proofs.YtepnbdacekkapaaGreatDoor.Ai
open Go
set_option linter.unusedSimpArgs false
set_option linter.unusedVariables false
set_option maxHeartbeats 4000000
set_option maxRecDepth 100000
theorem lawCounts (l m l2 m2 v : Int) : CallF Cx 6 [.agg [.int .i64 l, .int .i64 m], .agg [.int .i64 l2, .int .i64 m2], .int .i64 v] [] (.bool true) [] := by
  by_cases h : okC l m
  · have hd : decide (okC l m) = true := decide_eq_true h
    obtain ⟨h1, h2', h3, h4⟩ := id h
    by_cases h2 : okC l2 m2
    · have hd2 : decide (okC l2 m2) = true := decide_eq_true h2
      have hp : okC l m ∧ okC l2 m2 := ⟨h, h2⟩
      obtain ⟨h5, h6, h7, h8⟩ := id h2
      by_cases hs : l + l2 ≤ 64
      · have e1 : tL l m l2 m2 = l + l2 := if_pos ⟨h, h2, hs⟩
        have e2 : tM l m l2 m2 = thenM m l2 m2 := if_pos ⟨h, h2, hs⟩
        have e3 : tE l m l2 m2 = 0 := by unfold tE; rw [if_pos hp, if_pos hs]
        by_cases hv : okN v
        · have e4 : rV l m v = runM l m v := if_pos ⟨h, hv⟩
          have e5 : rE l m v = 0 := if_pos ⟨h, hv⟩
          have hb := thenM_bd h h2
          have hc3 : okC (l + l2) (thenM m l2 m2) := ⟨by omega, hs, hb.1, hb.2⟩
          have e6 : rV (l + l2) (thenM m l2 m2) v = runM l2 m2 (runM l m v) := by unfold rV; rw [if_pos ⟨hc3, hv⟩, then_law h h2 hv]
          have e7 : rE (l + l2) (thenM m l2 m2) v = 0 := if_pos ⟨hc3, hv⟩
          have e8 : rV l2 m2 (runM l m v) = runM l2 m2 (runM l m v) := if_pos ⟨h2, runM_bd h hv⟩
          have e9 : rE l2 m2 (runM l m v) = 0 := if_pos ⟨h2, runM_bd h hv⟩
          obtain ⟨h9, h10⟩ := id hv
          refine sy_call (X := Sx0) (fun _ => false) [] [] (fn := Tryz.f6) Tryz.func6 rfl (by decide) rfl rfl ?_
          repeat' (first | ((refine run ?_); conv => whnf) | with_reducible refine split_nt (by assumption) ?_ | with_reducible refine split_nf (by assumption) ?_ | with_reducible refine split_ht (by assumption) ?_ | with_reducible refine split_hf (by assumption) ?_ | ((first | with_reducible refine split_neg (fun hc => ?_) (fun hc => ?_) | refine split (fun hc => ?_) (fun hc => ?_)) <;> (try simp only [bsl, true_implies, false_implies, Int.reduceEq, Int.reduceLT, Int.reduceLE, Nat.reduceLT, Nat.reduceEqDiff] at hc) <;> (try (exfalso; omega)) <;> (try exact (bool_tf hc (by assumption)).elim) <;> (try exact (bool_ft hc (by assumption)).elim)) | refine fact_in (fun hby => ?_) | refine un_rfl ?_ | refine stp ?_ | exact obs | with_reducible refine And.intro ?_ ?_ | refine nrm ?_ | apply row_eq | (apply cut_end <;> first | ((refine run ?_); conv => whnf) | exact obs) | (apply cut_drop <;> first | ((refine run ?_); conv => whnf) | exact obs) | (apply cuts_end <;> first | ((refine run ?_); conv => whnf) | exact obs) | (apply cuts_drop <;> first | ((refine run ?_); conv => whnf) | exact obs) | (apply wrap_in <;> first | ((refine run ?_); conv => whnf) | exact obs | exact eqs) | refine stq ?_ | (apply callP_skip <;> first | ((refine run ?_); conv => whnf) | assumption | (simp only [bsl, *]; done) | (simp [*]; done)) | ((refine open_in ?_ ?_) <;> first | ((refine run ?_); conv => whnf) | kernel_rfl) | exact eqs | (intro _; rfl))
          all_goals first
            | (exfalso; simp_all; done)
            | (refine ret_eq ?_ (by rfl); simp_all; done)
            | (exfalso; simp_all; omega)
            | skip
        · have e4 : rV l m v = 0 := if_neg fun h => hv h.2
          have e5 : rE l m v = 1 := if_neg fun h => hv h.2
          have hv' : v < 0 ∨ 2147483647 < v := by unfold okN at hv; omega
          refine sy_call (X := Sx0) (fun _ => false) [] [] (fn := Tryz.f6) Tryz.func6 rfl (by decide) rfl rfl ?_
          repeat' (first | ((refine run ?_); conv => whnf) | with_reducible refine split_nt (by assumption) ?_ | with_reducible refine split_nf (by assumption) ?_ | with_reducible refine split_ht (by assumption) ?_ | with_reducible refine split_hf (by assumption) ?_ | ((first | with_reducible refine split_neg (fun hc => ?_) (fun hc => ?_) | refine split (fun hc => ?_) (fun hc => ?_)) <;> (try simp only [bsl, true_implies, false_implies, Int.reduceEq, Int.reduceLT, Int.reduceLE, Nat.reduceLT, Nat.reduceEqDiff] at hc) <;> (try (exfalso; omega)) <;> (try exact (bool_tf hc (by assumption)).elim) <;> (try exact (bool_ft hc (by assumption)).elim)) | refine fact_in (fun hby => ?_) | refine un_rfl ?_ | refine stp ?_ | exact obs | with_reducible refine And.intro ?_ ?_ | refine nrm ?_ | apply row_eq | (apply cut_end <;> first | ((refine run ?_); conv => whnf) | exact obs) | (apply cut_drop <;> first | ((refine run ?_); conv => whnf) | exact obs) | (apply cuts_end <;> first | ((refine run ?_); conv => whnf) | exact obs) | (apply cuts_drop <;> first | ((refine run ?_); conv => whnf) | exact obs) | (apply wrap_in <;> first | ((refine run ?_); conv => whnf) | exact obs | exact eqs) | refine stq ?_ | (apply callP_skip <;> first | ((refine run ?_); conv => whnf) | assumption | (simp only [bsl, *]; done) | (simp [*]; done)) | ((refine open_in ?_ ?_) <;> first | ((refine run ?_); conv => whnf) | kernel_rfl) | exact eqs | (intro _; rfl))
          all_goals first
            | (exfalso; simp_all; done)
            | (refine ret_eq ?_ (by rfl); simp_all; done)
            | (exfalso; simp_all; omega)
            | skip
      · have e1 : tL l m l2 m2 = 0 := if_neg fun h => hs h.2.2
        have e2 : tM l m l2 m2 = 0 := if_neg fun h => hs h.2.2
        have e3 : tE l m l2 m2 = 3 := by unfold tE; rw [if_pos hp, if_neg hs]
        by_cases hv : okN v
        · have e4 : rV l m v = runM l m v := if_pos ⟨h, hv⟩
          have e5 : rE l m v = 0 := if_pos ⟨h, hv⟩
          obtain ⟨h9, h10⟩ := id hv
          refine sy_call (X := Sx0) (fun _ => false) [] [] (fn := Tryz.f6) Tryz.func6 rfl (by decide) rfl rfl ?_
          repeat' (first | ((refine run ?_); conv => whnf) | with_reducible refine split_nt (by assumption) ?_ | with_reducible refine split_nf (by assumption) ?_ | with_reducible refine split_ht (by assumption) ?_ | with_reducible refine split_hf (by assumption) ?_ | ((first | with_reducible refine split_neg (fun hc => ?_) (fun hc => ?_) | refine split (fun hc => ?_) (fun hc => ?_)) <;> (try simp only [bsl, true_implies, false_implies, Int.reduceEq, Int.reduceLT, Int.reduceLE, Nat.reduceLT, Nat.reduceEqDiff] at hc) <;> (try (exfalso; omega)) <;> (try exact (bool_tf hc (by assumption)).elim) <;> (try exact (bool_ft hc (by assumption)).elim)) | refine fact_in (fun hby => ?_) | refine un_rfl ?_ | refine stp ?_ | exact obs | with_reducible refine And.intro ?_ ?_ | refine nrm ?_ | apply row_eq | (apply cut_end <;> first | ((refine run ?_); conv => whnf) | exact obs) | (apply cut_drop <;> first | ((refine run ?_); conv => whnf) | exact obs) | (apply cuts_end <;> first | ((refine run ?_); conv => whnf) | exact obs) | (apply cuts_drop <;> first | ((refine run ?_); conv => whnf) | exact obs) | (apply wrap_in <;> first | ((refine run ?_); conv => whnf) | exact obs | exact eqs) | refine stq ?_ | (apply callP_skip <;> first | ((refine run ?_); conv => whnf) | assumption | (simp only [bsl, *]; done) | (simp [*]; done)) | ((refine open_in ?_ ?_) <;> first | ((refine run ?_); conv => whnf) | kernel_rfl) | exact eqs | (intro _; rfl))
          all_goals first
            | (exfalso; simp_all; done)
            | (refine ret_eq ?_ (by rfl); simp_all; done)
            | (exfalso; simp_all; omega)
            | skip
        · have e4 : rV l m v = 0 := if_neg fun h => hv h.2
          have e5 : rE l m v = 1 := if_neg fun h => hv h.2
          have hv' : v < 0 ∨ 2147483647 < v := by unfold okN at hv; omega
          refine sy_call (X := Sx0) (fun _ => false) [] [] (fn := Tryz.f6) Tryz.func6 rfl (by decide) rfl rfl ?_
          repeat' (first | ((refine run ?_); conv => whnf) | with_reducible refine split_nt (by assumption) ?_ | with_reducible refine split_nf (by assumption) ?_ | with_reducible refine split_ht (by assumption) ?_ | with_reducible refine split_hf (by assumption) ?_ | ((first | with_reducible refine split_neg (fun hc => ?_) (fun hc => ?_) | refine split (fun hc => ?_) (fun hc => ?_)) <;> (try simp only [bsl, true_implies, false_implies, Int.reduceEq, Int.reduceLT, Int.reduceLE, Nat.reduceLT, Nat.reduceEqDiff] at hc) <;> (try (exfalso; omega)) <;> (try exact (bool_tf hc (by assumption)).elim) <;> (try exact (bool_ft hc (by assumption)).elim)) | refine fact_in (fun hby => ?_) | refine un_rfl ?_ | refine stp ?_ | exact obs | with_reducible refine And.intro ?_ ?_ | refine nrm ?_ | apply row_eq | (apply cut_end <;> first | ((refine run ?_); conv => whnf) | exact obs) | (apply cut_drop <;> first | ((refine run ?_); conv => whnf) | exact obs) | (apply cuts_end <;> first | ((refine run ?_); conv => whnf) | exact obs) | (apply cuts_drop <;> first | ((refine run ?_); conv => whnf) | exact obs) | (apply wrap_in <;> first | ((refine run ?_); conv => whnf) | exact obs | exact eqs) | refine stq ?_ | (apply callP_skip <;> first | ((refine run ?_); conv => whnf) | assumption | (simp only [bsl, *]; done) | (simp [*]; done)) | ((refine open_in ?_ ?_) <;> first | ((refine run ?_); conv => whnf) | kernel_rfl) | exact eqs | (intro _; rfl))
          all_goals first
            | (exfalso; simp_all; done)
            | (refine ret_eq ?_ (by rfl); simp_all; done)
            | (exfalso; simp_all; omega)
            | skip
    · have hd2 : decide (okC l2 m2) = false := decide_eq_false h2
      have e1 : tL l m l2 m2 = 0 := if_neg fun h => h2 h.2.1
      have e2 : tM l m l2 m2 = 0 := if_neg fun h => h2 h.2.1
      have e3 : tE l m l2 m2 = 1 := if_neg fun h => h2 h.2
      by_cases hv : okN v
      · have e4 : rV l m v = runM l m v := if_pos ⟨h, hv⟩
        have e5 : rE l m v = 0 := if_pos ⟨h, hv⟩
        obtain ⟨h9, h10⟩ := id hv
        refine sy_call (X := Sx0) (fun _ => false) [] [] (fn := Tryz.f6) Tryz.func6 rfl (by decide) rfl rfl ?_
        repeat' (first | ((refine run ?_); conv => whnf) | with_reducible refine split_nt (by assumption) ?_ | with_reducible refine split_nf (by assumption) ?_ | with_reducible refine split_ht (by assumption) ?_ | with_reducible refine split_hf (by assumption) ?_ | ((first | with_reducible refine split_neg (fun hc => ?_) (fun hc => ?_) | refine split (fun hc => ?_) (fun hc => ?_)) <;> (try simp only [bsl, true_implies, false_implies, Int.reduceEq, Int.reduceLT, Int.reduceLE, Nat.reduceLT, Nat.reduceEqDiff] at hc) <;> (try (exfalso; omega)) <;> (try exact (bool_tf hc (by assumption)).elim) <;> (try exact (bool_ft hc (by assumption)).elim)) | refine fact_in (fun hby => ?_) | refine un_rfl ?_ | refine stp ?_ | exact obs | with_reducible refine And.intro ?_ ?_ | refine nrm ?_ | apply row_eq | (apply cut_end <;> first | ((refine run ?_); conv => whnf) | exact obs) | (apply cut_drop <;> first | ((refine run ?_); conv => whnf) | exact obs) | (apply cuts_end <;> first | ((refine run ?_); conv => whnf) | exact obs) | (apply cuts_drop <;> first | ((refine run ?_); conv => whnf) | exact obs) | (apply wrap_in <;> first | ((refine run ?_); conv => whnf) | exact obs | exact eqs) | refine stq ?_ | (apply callP_skip <;> first | ((refine run ?_); conv => whnf) | assumption | (simp only [bsl, *]; done) | (simp [*]; done)) | ((refine open_in ?_ ?_) <;> first | ((refine run ?_); conv => whnf) | kernel_rfl) | exact eqs | (intro _; rfl))
        all_goals first
          | (exfalso; simp_all; done)
          | (refine ret_eq ?_ (by rfl); simp_all; done)
          | (exfalso; simp_all; omega)
          | skip
      · have e4 : rV l m v = 0 := if_neg fun h => hv h.2
        have e5 : rE l m v = 1 := if_neg fun h => hv h.2
        have hv' : v < 0 ∨ 2147483647 < v := by unfold okN at hv; omega
        refine sy_call (X := Sx0) (fun _ => false) [] [] (fn := Tryz.f6) Tryz.func6 rfl (by decide) rfl rfl ?_
        repeat' (first | ((refine run ?_); conv => whnf) | with_reducible refine split_nt (by assumption) ?_ | with_reducible refine split_nf (by assumption) ?_ | with_reducible refine split_ht (by assumption) ?_ | with_reducible refine split_hf (by assumption) ?_ | ((first | with_reducible refine split_neg (fun hc => ?_) (fun hc => ?_) | refine split (fun hc => ?_) (fun hc => ?_)) <;> (try simp only [bsl, true_implies, false_implies, Int.reduceEq, Int.reduceLT, Int.reduceLE, Nat.reduceLT, Nat.reduceEqDiff] at hc) <;> (try (exfalso; omega)) <;> (try exact (bool_tf hc (by assumption)).elim) <;> (try exact (bool_ft hc (by assumption)).elim)) | refine fact_in (fun hby => ?_) | refine un_rfl ?_ | refine stp ?_ | exact obs | with_reducible refine And.intro ?_ ?_ | refine nrm ?_ | apply row_eq | (apply cut_end <;> first | ((refine run ?_); conv => whnf) | exact obs) | (apply cut_drop <;> first | ((refine run ?_); conv => whnf) | exact obs) | (apply cuts_end <;> first | ((refine run ?_); conv => whnf) | exact obs) | (apply cuts_drop <;> first | ((refine run ?_); conv => whnf) | exact obs) | (apply wrap_in <;> first | ((refine run ?_); conv => whnf) | exact obs | exact eqs) | refine stq ?_ | (apply callP_skip <;> first | ((refine run ?_); conv => whnf) | assumption | (simp only [bsl, *]; done) | (simp [*]; done)) | ((refine open_in ?_ ?_) <;> first | ((refine run ?_); conv => whnf) | kernel_rfl) | exact eqs | (intro _; rfl))
        all_goals first
          | (exfalso; simp_all; done)
          | (refine ret_eq ?_ (by rfl); simp_all; done)
          | (exfalso; simp_all; omega)
          | skip
  · have hd : decide (okC l m) = false := decide_eq_false h
    have e1 : tL l m l2 m2 = 0 := if_neg fun h' => h h'.1
    have e2 : tM l m l2 m2 = 0 := if_neg fun h' => h h'.1
    have e3 : tE l m l2 m2 = 1 := if_neg fun h' => h h'.1
    have e4 : rV l m v = 0 := if_neg fun h' => h h'.1
    have e5 : rE l m v = 1 := if_neg fun h' => h h'.1
    refine sy_call (X := Sx0) (fun _ => false) [] [] (fn := Tryz.f6) Tryz.func6 rfl (by decide) rfl rfl ?_
    repeat' (first | ((refine run ?_); conv => whnf) | with_reducible refine split_nt (by assumption) ?_ | with_reducible refine split_nf (by assumption) ?_ | with_reducible refine split_ht (by assumption) ?_ | with_reducible refine split_hf (by assumption) ?_ | ((first | with_reducible refine split_neg (fun hc => ?_) (fun hc => ?_) | refine split (fun hc => ?_) (fun hc => ?_)) <;> (try simp only [bsl, true_implies, false_implies, Int.reduceEq, Int.reduceLT, Int.reduceLE, Nat.reduceLT, Nat.reduceEqDiff] at hc) <;> (try (exfalso; omega)) <;> (try exact (bool_tf hc (by assumption)).elim) <;> (try exact (bool_ft hc (by assumption)).elim)) | refine fact_in (fun hby => ?_) | refine un_rfl ?_ | refine stp ?_ | exact obs | with_reducible refine And.intro ?_ ?_ | refine nrm ?_ | apply row_eq | (apply cut_end <;> first | ((refine run ?_); conv => whnf) | exact obs) | (apply cut_drop <;> first | ((refine run ?_); conv => whnf) | exact obs) | (apply cuts_end <;> first | ((refine run ?_); conv => whnf) | exact obs) | (apply cuts_drop <;> first | ((refine run ?_); conv => whnf) | exact obs) | (apply wrap_in <;> first | ((refine run ?_); conv => whnf) | exact obs | exact eqs) | refine stq ?_ | (apply callP_skip <;> first | ((refine run ?_); conv => whnf) | assumption | (simp only [bsl, *]; done) | (simp [*]; done)) | ((refine open_in ?_ ?_) <;> first | ((refine run ?_); conv => whnf) | kernel_rfl) | exact eqs | (intro _; rfl))
    all_goals first
      | (exfalso; simp_all; done)
      | (refine ret_eq ?_ (by rfl); simp_all; done)
      | (exfalso; simp_all; omega)
      | skip
end Go.Proofs.YtepnbdacekkapaaGreatDoor.Ai
