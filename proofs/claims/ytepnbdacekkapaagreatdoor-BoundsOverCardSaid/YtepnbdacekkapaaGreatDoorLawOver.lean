/- The statement BoundsOver. Own work of this seat. -/
import Derived.Test.YtepnbdacekkapaaGreatDoorOver36b
namespace Go.Proofs.YtepnbdacekkapaaGreatDoor.Ai
open Go
set_option linter.unusedSimpArgs false
set_option linter.unusedVariables false
set_option maxHeartbeats 4000000
set_option maxRecDepth 100000
theorem lawOver (N P M : Int) (a b : List Int) (c d : Option Nat) : CallF Cx 4 [meas N P M a b c d] [] (.bool true) [] := by
  by_cases hl : a.length ≤ 70 ∧ b.length ≤ 70
  · obtain ⟨ha, hb⟩ := hl
    by_cases hok : okM N P M a b
    · have hc36 : c36 N P M a b = 0 := if_pos hok
      have hd : decide (okM N P M a b) = true := decide_eq_true hok
      have e1 : ovL N P M a b = ((fst36 P M a b).getD 0 : Nat) := if_pos hok
      have e2 : ovE N P M a b = (if (fst36 P M a b).isSome then 0 else 19) := if_pos hok
      have e3 : (rov P M a b < 0 ∧ ovE N P M a b = 19 ∧ ovL N P M a b = 0) ∨ (0 ≤ rov P M a b ∧ ovE N P M a b = 0 ∧ ovL N P M a b = rov P M a b) := by
        rw [e1, e2]; unfold rov
        cases h : fst36 P M a b with
        | none => exact .inl ⟨by decide, rfl, rfl⟩
        | some k => exact .inr ⟨by show (0 : Int) ≤ k; omega, rfl, rfl⟩
      obtain ⟨hh, hrows⟩ := id hok
      obtain ⟨h1, h2, h3, h4, h5⟩ := id hh
      have hfa : ∀ i : Int, 0 ≤ i → i ≤ 64 → fitsP i P M := fun i x y => ⟨x, y, h2.2.2⟩
      have hN := h2.2.1
      refine sy_call (X := Sx0) (fun _ => false) [] [] (fn := Tryz.f4) Tryz.func4 rfl (by decide) rfl rfl ?_
      repeat' (first | ((refine run ?_); conv => whnf) | with_reducible refine split_nt (by assumption) ?_ | with_reducible refine split_nf (by assumption) ?_ | with_reducible refine split_ht (by assumption) ?_ | with_reducible refine split_hf (by assumption) ?_ | ((first | with_reducible refine split_neg (fun hc => ?_) (fun hc => ?_) | refine split (fun hc => ?_) (fun hc => ?_)) <;> (try simp only [bsl, true_implies, false_implies, Int.reduceEq, Int.reduceLT, Int.reduceLE, Nat.reduceLT, Nat.reduceEqDiff] at hc) <;> (try (exfalso; omega)) <;> (try exact (bool_tf hc (by assumption)).elim) <;> (try exact (bool_ft hc (by assumption)).elim)) | refine fact_in (fun hby => ?_) | refine un_rfl ?_ | refine stp ?_ | exact obs | with_reducible refine And.intro ?_ ?_ | refine nrm ?_ | apply row_eq | (apply cut_end <;> first | ((refine run ?_); conv => whnf) | exact obs) | (apply cut_drop <;> first | ((refine run ?_); conv => whnf) | exact obs) | (apply cuts_end <;> first | ((refine run ?_); conv => whnf) | exact obs) | (apply cuts_drop <;> first | ((refine run ?_); conv => whnf) | exact obs) | (apply wrap_in <;> first | ((refine run ?_); conv => whnf) | exact obs | exact eqs) | refine stq ?_ | (apply callP_skip <;> first | ((refine run ?_); conv => whnf) | assumption | (simp only [bsl, *]; done) | (simp [*]; done)) | ((refine open_in ?_ ?_) <;> first | ((refine run ?_); conv => whnf) | kernel_rfl) | exact eqs | (intro _; rfl))
      refine loop_rule (α := Nat) [9, 10, 11, 12] 1 (fun k => [.int .i64 (levS P M k - sumU (nth a) k), .int .i64 (intoS P M k - sumU (nth b) k), .bool false, .int .i64 k]) (fun k => [.cells 32 (measB N P M a b c d)]) (fun k => k ≤ a.length ∧ ∀ j, j < k → nth a j ≤ 1073741824 ∧ nth b j ≤ 1073741824) (fun k => a.length - k) (0) (fun _ => rfl) (by decide) ?_
      ((refine run ?_); conv => whnf)
      refine goal_in ⟨?_, fit_eq ?_, sto_take (n := 1) (Nat.le_of_ble_eq_true rfl) ?_⟩ (fun k hinv => ?_)
      · exact ⟨Nat.zero_le _, fun j hj => by omega⟩
      · rfl
      · rfl
      obtain ⟨hk, hj⟩ := hinv
      have hs1 := sum_bd (f := nth a) (k := k) (by omega) fun j hj' => ⟨(hrows j (by omega)).1, (hj j hj').1⟩
      have hs2 := sum_bd (f := nth b) (k := k) (by omega) fun j hj' => ⟨(hrows j (by omega)).2, (hj j hj').2⟩
      have hb1 := levS_bd (p := P) (m := M) (n := 64) (k := k) (by omega) hfa (by omega)
      have hb2 := intoS_bd (p := P) (m := M) (n := 64) (k := k) (by omega) hfa (by omega)
      by_cases hlt : k < a.length
      · have hrk := hrows k hlt
        have hfk := fit_at hh hlt
        have hv1 := levI_bd hfk
        have hv2 := intoI_bd hfk
        repeat' (first | ((refine run ?_); conv => whnf) | with_reducible refine split_nt (by assumption) ?_ | with_reducible refine split_nf (by assumption) ?_ | with_reducible refine split_ht (by assumption) ?_ | with_reducible refine split_hf (by assumption) ?_ | ((first | with_reducible refine split_neg (fun hc => ?_) (fun hc => ?_) | refine split (fun hc => ?_) (fun hc => ?_)) <;> (try simp only [bsl, true_implies, false_implies, Int.reduceEq, Int.reduceLT, Int.reduceLE, Nat.reduceLT, Nat.reduceEqDiff] at hc) <;> (try (exfalso; omega)) <;> (try exact (bool_tf hc (by assumption)).elim) <;> (try exact (bool_ft hc (by assumption)).elim)) | refine fact_in (fun hby => ?_) | refine un_rfl ?_ | refine stp ?_ | exact obs | with_reducible refine And.intro ?_ ?_ | refine nrm ?_ | apply row_eq | (apply cut_end <;> first | ((refine run ?_); conv => whnf) | exact obs) | (apply cut_drop <;> first | ((refine run ?_); conv => whnf) | exact obs) | (apply cuts_end <;> first | ((refine run ?_); conv => whnf) | exact obs) | (apply cuts_drop <;> first | ((refine run ?_); conv => whnf) | exact obs) | (apply wrap_in <;> first | ((refine run ?_); conv => whnf) | exact obs | exact eqs) | refine stq ?_ | (apply callP_skip <;> first | ((refine run ?_); conv => whnf) | assumption | (simp only [bsl, *]; done) | (simp [*]; done)) | ((refine open_in ?_ ?_) <;> first | ((refine run ?_); conv => whnf) | kernel_rfl) | exact eqs | (intro _; rfl))
        · have hno : ¬ (okM N P M a b ∧ smallM a b) := fun h => small_not hlt (by assumption) h.2
          refine ret_eq ?_ (by rfl)
          simp [slN, slE, slF, if_neg hno, hc36]
        · refine meet_eq (k + 1) ?_ ?_ (Nat.le_of_ble_eq_true rfl) ?_
          · exact ⟨⟨by omega, fun j hj' => by
              by_cases e : j = k
              · subst e; omega
              · exact hj j (by omega)⟩, by dsimp only; omega⟩
          · have q1 : levS P M k + levI k P M = levS P M (k + 1) := rfl
            have q2 : intoS P M k + intoI k P M = intoS P M (k + 1) := rfl
            have q3 : sumU (nth a) k + nth a k = sumU (nth a) (k + 1) := rfl
            have q4 : sumU (nth b) k + nth b k = sumU (nth b) (k + 1) := rfl
            have r1 : levS P M k - sumU (nth a) k + levI k P M - nth a k = levS P M (k + 1) - sumU (nth a) (k + 1) := by omega
            have r2 : intoS P M k - sumU (nth b) k + intoI k P M - nth b k = intoS P M (k + 1) - sumU (nth b) (k + 1) := by omega
            rw [r1, r2]
            rfl
          · rfl
      · have hke : k = a.length := by omega
        have hyes : okM N P M a b ∧ smallM a b := ⟨hok, fun j h => hj j (by omega)⟩
        repeat' (first | ((refine run ?_); conv => whnf) | with_reducible refine split_nt (by assumption) ?_ | with_reducible refine split_nf (by assumption) ?_ | with_reducible refine split_ht (by assumption) ?_ | with_reducible refine split_hf (by assumption) ?_ | ((first | with_reducible refine split_neg (fun hc => ?_) (fun hc => ?_) | refine split (fun hc => ?_) (fun hc => ?_)) <;> (try simp only [bsl, true_implies, false_implies, Int.reduceEq, Int.reduceLT, Int.reduceLE, Nat.reduceLT, Nat.reduceEqDiff] at hc) <;> (try (exfalso; omega)) <;> (try exact (bool_tf hc (by assumption)).elim) <;> (try exact (bool_ft hc (by assumption)).elim)) | refine fact_in (fun hby => ?_) | refine un_rfl ?_ | refine stp ?_ | exact obs | with_reducible refine And.intro ?_ ?_ | refine nrm ?_ | apply row_eq | (apply cut_end <;> first | ((refine run ?_); conv => whnf) | exact obs) | (apply cut_drop <;> first | ((refine run ?_); conv => whnf) | exact obs) | (apply cuts_end <;> first | ((refine run ?_); conv => whnf) | exact obs) | (apply cuts_drop <;> first | ((refine run ?_); conv => whnf) | exact obs) | (apply wrap_in <;> first | ((refine run ?_); conv => whnf) | exact obs | exact eqs) | refine stq ?_ | (apply callP_skip <;> first | ((refine run ?_); conv => whnf) | assumption | (simp only [bsl, *]; done) | (simp [*]; done)) | ((refine open_in ?_ ?_) <;> first | ((refine run ?_); conv => whnf) | kernel_rfl) | exact eqs | (intro _; rfl))
        refine ret_eq ?_ (by rfl)
        simp [slN, slE, slF, if_pos hyes, hc36, hke]
    · have hc36 : c36 N P M a b = 1 := if_neg hok
      have hno : ¬ (okM N P M a b ∧ smallM a b) := fun h => hok h.1
      have e1 : ovL N P M a b = 0 := if_neg hok
      have e2 : ovE N P M a b = 1 := if_neg hok
      have e3 : slN N P M a b = 0 := if_neg hno
      have e4 : slE N P M a b = 0 := if_neg hno
      have e5 : slF N P M a b = 1 := if_neg hno
      have hd : decide (okM N P M a b) = false := decide_eq_false hok
      refine sy_call (X := Sx0) (fun _ => false) [] [] (fn := Tryz.f4) Tryz.func4 rfl (by decide) rfl rfl ?_
      repeat' (first | ((refine run ?_); conv => whnf) | with_reducible refine split_nt (by assumption) ?_ | with_reducible refine split_nf (by assumption) ?_ | with_reducible refine split_ht (by assumption) ?_ | with_reducible refine split_hf (by assumption) ?_ | ((first | with_reducible refine split_neg (fun hc => ?_) (fun hc => ?_) | refine split (fun hc => ?_) (fun hc => ?_)) <;> (try simp only [bsl, true_implies, false_implies, Int.reduceEq, Int.reduceLT, Int.reduceLE, Nat.reduceLT, Nat.reduceEqDiff] at hc) <;> (try (exfalso; omega)) <;> (try exact (bool_tf hc (by assumption)).elim) <;> (try exact (bool_ft hc (by assumption)).elim)) | refine fact_in (fun hby => ?_) | refine un_rfl ?_ | refine stp ?_ | exact obs | with_reducible refine And.intro ?_ ?_ | refine nrm ?_ | apply row_eq | (apply cut_end <;> first | ((refine run ?_); conv => whnf) | exact obs) | (apply cut_drop <;> first | ((refine run ?_); conv => whnf) | exact obs) | (apply cuts_end <;> first | ((refine run ?_); conv => whnf) | exact obs) | (apply cuts_drop <;> first | ((refine run ?_); conv => whnf) | exact obs) | (apply wrap_in <;> first | ((refine run ?_); conv => whnf) | exact obs | exact eqs) | refine stq ?_ | (apply callP_skip <;> first | ((refine run ?_); conv => whnf) | assumption | (simp only [bsl, *]; done) | (simp [*]; done)) | ((refine open_in ?_ ?_) <;> first | ((refine run ?_); conv => whnf) | kernel_rfl) | exact eqs | (intro _; rfl))
      refine ret_eq ?_ (by rfl); simp [hc36, e1, e2, e3, e4, e5]
  · refine sy_call (X := Sx0) (fun _ => false) [] [] (fn := Tryz.f4) Tryz.func4 rfl (by decide) rfl rfl ?_
    repeat' (first | ((refine run ?_); conv => whnf) | with_reducible refine split_nt (by assumption) ?_ | with_reducible refine split_nf (by assumption) ?_ | with_reducible refine split_ht (by assumption) ?_ | with_reducible refine split_hf (by assumption) ?_ | ((first | with_reducible refine split_neg (fun hc => ?_) (fun hc => ?_) | refine split (fun hc => ?_) (fun hc => ?_)) <;> (try simp only [bsl, true_implies, false_implies, Int.reduceEq, Int.reduceLT, Int.reduceLE, Nat.reduceLT, Nat.reduceEqDiff] at hc) <;> (try (exfalso; omega)) <;> (try exact (bool_tf hc (by assumption)).elim) <;> (try exact (bool_ft hc (by assumption)).elim)) | refine fact_in (fun hby => ?_) | refine un_rfl ?_ | refine stp ?_ | exact obs | with_reducible refine And.intro ?_ ?_ | refine nrm ?_ | apply row_eq | (apply cut_end <;> first | ((refine run ?_); conv => whnf) | exact obs) | (apply cut_drop <;> first | ((refine run ?_); conv => whnf) | exact obs) | (apply cuts_end <;> first | ((refine run ?_); conv => whnf) | exact obs) | (apply cuts_drop <;> first | ((refine run ?_); conv => whnf) | exact obs) | (apply wrap_in <;> first | ((refine run ?_); conv => whnf) | exact obs | exact eqs) | refine stq ?_ | (apply callP_skip <;> first | ((refine run ?_); conv => whnf) | assumption | (simp only [bsl, *]; done) | (simp [*]; done)) | ((refine open_in ?_ ?_) <;> first | ((refine run ?_); conv => whnf) | kernel_rfl) | exact eqs | (intro _; rfl))
    refine ret_eq ?_ (by rfl); rfl
end Go.Proofs.YtepnbdacekkapaaGreatDoor.Ai
