/- The first level above its bound, by how much a measure is below the bounds, the statement BoundsOver. Own work of this seat. -/
import Derived.Test.YtepnbdacekkapaaGreatDoorOver36
namespace Go.Proofs.YtepnbdacekkapaaGreatDoor.Ai
open Go
set_option linter.unusedSimpArgs false
set_option linter.unusedVariables false
set_option maxHeartbeats 4000000
set_option maxRecDepth 100000
def ovrM (P M : Int) (a b : List Int) (k : Nat) : Prop := levI k P M < nth a k ∨ intoI k P M < nth b k
instance (P M : Int) (a b : List Int) (k : Nat) : Decidable (ovrM P M a b k) := by unfold ovrM; infer_instance
def fst36 (P M : Int) (a b : List Int) : Option Nat := (List.range a.length).find? fun k => decide (ovrM P M a b k)
theorem fst_some {P M : Int} {a b : List Int} {k : Nat} (hk : k < a.length) (h : ovrM P M a b k) (hj : ∀ j, j < k → ¬ ovrM P M a b j) : fst36 P M a b = some k := by
  unfold fst36
  rw [List.find?_range_eq_some]
  exact ⟨by simpa using h, by simpa using hk, fun j h' => by simpa using hj j h'⟩
theorem fst_none {P M : Int} {a b : List Int} (hj : ∀ j, j < a.length → ¬ ovrM P M a b j) : fst36 P M a b = none := by
  unfold fst36
  rw [List.find?_range_eq_none]
  exact fun j h' => by simpa using hj j h'
def ovL (N P M : Int) (a b : List Int) : Int := if okM N P M a b then ((fst36 P M a b).getD 0 : Nat) else 0
def ovE (N P M : Int) (a b : List Int) : Int := if okM N P M a b then (if (fst36 P M a b).isSome then 0 else 19) else 1
def rov (P M : Int) (a b : List Int) : Int := match fst36 P M a b with | some k => k | none => -1
theorem fit_at {N P M : Int} {a b : List Int} (hh : headM N P M a b) {k : Nat} (hk : k < a.length) : fitsP k P M := by
  obtain ⟨h1, ⟨g1, g2, g3, g4, g5, g6⟩, h3, h4, h5⟩ := hh
  exact ⟨by omega, by omega, g3, g4, g5, g6⟩
theorem Over_call (N P M : Int) (a b : List Int) (c d : Option Nat) (ha : a.length ≤ 70) (hb : b.length ≤ 70) : CallF Cx 17 [meas N P M a b c d] [] (.tup [.int .i64 (ovL N P M a b), .int .i64 (ovE N P M a b)]) [] := by
  by_cases hok : okM N P M a b
  · obtain ⟨hh, hrows⟩ := id hok
    obtain ⟨h1, h2, h3, h4, h5⟩ := id hh
    have hc36 : c36 N P M a b = 0 := if_pos hok
    have e1 : ovL N P M a b = ((fst36 P M a b).getD 0 : Nat) := if_pos hok
    have e2 : ovE N P M a b = (if (fst36 P M a b).isSome then 0 else 19) := if_pos hok
    rw [e1, e2]
    refine sy_call (X := Sx0) (fun _ => false) [] [] (fn := Tryz.f17) Tryz.func17 rfl (by decide) rfl rfl ?_
    repeat' (first | ((refine run ?_); conv => whnf) | with_reducible refine split_nt (by assumption) ?_ | with_reducible refine split_nf (by assumption) ?_ | with_reducible refine split_ht (by assumption) ?_ | with_reducible refine split_hf (by assumption) ?_ | ((first | with_reducible refine split_neg (fun hc => ?_) (fun hc => ?_) | refine split (fun hc => ?_) (fun hc => ?_)) <;> (try simp only [bsl, true_implies, false_implies, Int.reduceEq, Int.reduceLT, Int.reduceLE, Nat.reduceLT, Nat.reduceEqDiff] at hc) <;> (try (exfalso; omega)) <;> (try exact (bool_tf hc (by assumption)).elim) <;> (try exact (bool_ft hc (by assumption)).elim)) | refine fact_in (fun hby => ?_) | refine un_rfl ?_ | refine stp ?_ | exact obs | with_reducible refine And.intro ?_ ?_ | refine nrm ?_ | apply row_eq | (apply cut_end <;> first | ((refine run ?_); conv => whnf) | exact obs) | (apply cut_drop <;> first | ((refine run ?_); conv => whnf) | exact obs) | (apply cuts_end <;> first | ((refine run ?_); conv => whnf) | exact obs) | (apply cuts_drop <;> first | ((refine run ?_); conv => whnf) | exact obs) | (apply wrap_in <;> first | ((refine run ?_); conv => whnf) | exact obs | exact eqs) | refine stq ?_ | (apply callP_skip <;> first | ((refine run ?_); conv => whnf) | assumption | (simp only [bsl, *]; done) | (simp [*]; done)) | ((refine open_in ?_ ?_) <;> first | ((refine run ?_); conv => whnf) | kernel_rfl) | exact eqs | (intro _; rfl))
    refine loop_rule (α := Nat) [21] 2 (fun k => [.int .i64 k]) (fun k => [.cells 32 (measB N P M a b c d), .cells 89 [.int .i64 P, .int .i64 M]]) (fun k => k ≤ a.length ∧ ∀ j, j < k → ¬ ovrM P M a b j) (fun k => a.length - k) (0) (fun _ => rfl) (by decide) ?_
    ((refine run ?_); conv => whnf)
    refine goal_in ⟨?_, fit_eq ?_, sto_take (n := 2) (Nat.le_of_ble_eq_true rfl) ?_⟩ (fun k hinv => ?_)
    · exact ⟨Nat.zero_le _, fun j hj => by omega⟩
    · rfl
    · rfl
    obtain ⟨hk, hj⟩ := hinv
    by_cases hlt : k < a.length
    · have hfk := fit_at hh hlt
      repeat' (first | ((refine run ?_); conv => whnf) | with_reducible refine split_nt (by assumption) ?_ | with_reducible refine split_nf (by assumption) ?_ | with_reducible refine split_ht (by assumption) ?_ | with_reducible refine split_hf (by assumption) ?_ | ((first | with_reducible refine split_neg (fun hc => ?_) (fun hc => ?_) | refine split (fun hc => ?_) (fun hc => ?_)) <;> (try simp only [bsl, true_implies, false_implies, Int.reduceEq, Int.reduceLT, Int.reduceLE, Nat.reduceLT, Nat.reduceEqDiff] at hc) <;> (try (exfalso; omega)) <;> (try exact (bool_tf hc (by assumption)).elim) <;> (try exact (bool_ft hc (by assumption)).elim)) | refine fact_in (fun hby => ?_) | refine un_rfl ?_ | refine stp ?_ | exact obs | with_reducible refine And.intro ?_ ?_ | refine nrm ?_ | apply row_eq | (apply cut_end <;> first | ((refine run ?_); conv => whnf) | exact obs) | (apply cut_drop <;> first | ((refine run ?_); conv => whnf) | exact obs) | (apply cuts_end <;> first | ((refine run ?_); conv => whnf) | exact obs) | (apply cuts_drop <;> first | ((refine run ?_); conv => whnf) | exact obs) | (apply wrap_in <;> first | ((refine run ?_); conv => whnf) | exact obs | exact eqs) | refine stq ?_ | (apply callP_skip <;> first | ((refine run ?_); conv => whnf) | assumption | (simp only [bsl, *]; done) | (simp [*]; done)) | ((refine open_in ?_ ?_) <;> first | ((refine run ?_); conv => whnf) | kernel_rfl) | exact eqs | (intro _; rfl))
      · refine ret_eq ?_ (by rfl)
        rw [fst_some hlt hc hj]; rfl
      · refine meet_eq (k + 1) ?_ ?_ (Nat.le_of_ble_eq_true rfl) ?_
        · exact ⟨⟨by omega, fun j hj' => by
            by_cases e : j = k
            · subst e; intro h; unfold ovrM at h; omega
            · exact hj j (by omega)⟩, by dsimp only; omega⟩
        · rfl
        · rfl
    · repeat' (first | ((refine run ?_); conv => whnf) | with_reducible refine split_nt (by assumption) ?_ | with_reducible refine split_nf (by assumption) ?_ | with_reducible refine split_ht (by assumption) ?_ | with_reducible refine split_hf (by assumption) ?_ | ((first | with_reducible refine split_neg (fun hc => ?_) (fun hc => ?_) | refine split (fun hc => ?_) (fun hc => ?_)) <;> (try simp only [bsl, true_implies, false_implies, Int.reduceEq, Int.reduceLT, Int.reduceLE, Nat.reduceLT, Nat.reduceEqDiff] at hc) <;> (try (exfalso; omega)) <;> (try exact (bool_tf hc (by assumption)).elim) <;> (try exact (bool_ft hc (by assumption)).elim)) | refine fact_in (fun hby => ?_) | refine un_rfl ?_ | refine stp ?_ | exact obs | with_reducible refine And.intro ?_ ?_ | refine nrm ?_ | apply row_eq | (apply cut_end <;> first | ((refine run ?_); conv => whnf) | exact obs) | (apply cut_drop <;> first | ((refine run ?_); conv => whnf) | exact obs) | (apply cuts_end <;> first | ((refine run ?_); conv => whnf) | exact obs) | (apply cuts_drop <;> first | ((refine run ?_); conv => whnf) | exact obs) | (apply wrap_in <;> first | ((refine run ?_); conv => whnf) | exact obs | exact eqs) | refine stq ?_ | (apply callP_skip <;> first | ((refine run ?_); conv => whnf) | assumption | (simp only [bsl, *]; done) | (simp [*]; done)) | ((refine open_in ?_ ?_) <;> first | ((refine run ?_); conv => whnf) | kernel_rfl) | exact eqs | (intro _; rfl))
      refine ret_eq ?_ (by rfl)
      rw [fst_none fun j hj' => hj j (by omega)]; rfl
  · have hc36 : c36 N P M a b = 1 := if_neg hok
    have e1 : ovL N P M a b = 0 := if_neg hok
    have e2 : ovE N P M a b = 1 := if_neg hok
    rw [e1, e2]
    refine sy_call (X := Sx0) (fun _ => false) [] [] (fn := Tryz.f17) Tryz.func17 rfl (by decide) rfl rfl ?_
    repeat' (first | ((refine run ?_); conv => whnf) | with_reducible refine split_nt (by assumption) ?_ | with_reducible refine split_nf (by assumption) ?_ | with_reducible refine split_ht (by assumption) ?_ | with_reducible refine split_hf (by assumption) ?_ | ((first | with_reducible refine split_neg (fun hc => ?_) (fun hc => ?_) | refine split (fun hc => ?_) (fun hc => ?_)) <;> (try simp only [bsl, true_implies, false_implies, Int.reduceEq, Int.reduceLT, Int.reduceLE, Nat.reduceLT, Nat.reduceEqDiff] at hc) <;> (try (exfalso; omega)) <;> (try exact (bool_tf hc (by assumption)).elim) <;> (try exact (bool_ft hc (by assumption)).elim)) | refine fact_in (fun hby => ?_) | refine un_rfl ?_ | refine stp ?_ | exact obs | with_reducible refine And.intro ?_ ?_ | refine nrm ?_ | apply row_eq | (apply cut_end <;> first | ((refine run ?_); conv => whnf) | exact obs) | (apply cut_drop <;> first | ((refine run ?_); conv => whnf) | exact obs) | (apply cuts_end <;> first | ((refine run ?_); conv => whnf) | exact obs) | (apply cuts_drop <;> first | ((refine run ?_); conv => whnf) | exact obs) | (apply wrap_in <;> first | ((refine run ?_); conv => whnf) | exact obs | exact eqs) | refine stq ?_ | (apply callP_skip <;> first | ((refine run ?_); conv => whnf) | assumption | (simp only [bsl, *]; done) | (simp [*]; done)) | ((refine open_in ?_ ?_) <;> first | ((refine run ?_); conv => whnf) | kernel_rfl) | exact eqs | (intro _; rfl))
    refine ret_eq ?_ (by rfl); rw [hc36]
instance {N P M : Int} {a b : List Int} {c d : Option Nat} : Con Sx0 17 [meas N P M a b c d] (a.length ≤ 70 ∧ b.length ≤ 70) (.tup [.int .i64 (ovL N P M a b), .int .i64 (ovE N P M a b)]) := con fun h => Over_call N P M a b c d h.1 h.2
theorem rOver_call (N P M : Int) (a b : List Int) (c d : Option Nat) (ha : a.length ≤ 70) (hok : okM N P M a b) : CallF Cx 21 [meas N P M a b c d] [] (.int .i64 (rov P M a b)) [] := by
  obtain ⟨hh, hrows⟩ := id hok
  obtain ⟨h1, h2, h3, h4, h5⟩ := id hh
  refine sy_call (X := Sx0) (fun _ => false) [] [] (fn := Tryz.f21) Tryz.func21 rfl (by decide) rfl rfl ?_
  repeat' (first | ((refine run ?_); conv => whnf) | with_reducible refine split_nt (by assumption) ?_ | with_reducible refine split_nf (by assumption) ?_ | with_reducible refine split_ht (by assumption) ?_ | with_reducible refine split_hf (by assumption) ?_ | ((first | with_reducible refine split_neg (fun hc => ?_) (fun hc => ?_) | refine split (fun hc => ?_) (fun hc => ?_)) <;> (try simp only [bsl, true_implies, false_implies, Int.reduceEq, Int.reduceLT, Int.reduceLE, Nat.reduceLT, Nat.reduceEqDiff] at hc) <;> (try (exfalso; omega)) <;> (try exact (bool_tf hc (by assumption)).elim) <;> (try exact (bool_ft hc (by assumption)).elim)) | refine fact_in (fun hby => ?_) | refine un_rfl ?_ | refine stp ?_ | exact obs | with_reducible refine And.intro ?_ ?_ | refine nrm ?_ | apply row_eq | (apply cut_end <;> first | ((refine run ?_); conv => whnf) | exact obs) | (apply cut_drop <;> first | ((refine run ?_); conv => whnf) | exact obs) | (apply cuts_end <;> first | ((refine run ?_); conv => whnf) | exact obs) | (apply cuts_drop <;> first | ((refine run ?_); conv => whnf) | exact obs) | (apply wrap_in <;> first | ((refine run ?_); conv => whnf) | exact obs | exact eqs) | refine stq ?_ | (apply callP_skip <;> first | ((refine run ?_); conv => whnf) | assumption | (simp only [bsl, *]; done) | (simp [*]; done)) | ((refine open_in ?_ ?_) <;> first | ((refine run ?_); conv => whnf) | kernel_rfl) | exact eqs | (intro _; rfl))
  refine loop_rule (α := Nat) [3] 1 (fun k => [.int .i64 k]) (fun k => [.cells 32 (measB N P M a b c d)]) (fun k => k ≤ a.length ∧ ∀ j, j < k → ¬ ovrM P M a b j) (fun k => a.length - k) (0) (fun _ => rfl) (by decide) ?_
  ((refine run ?_); conv => whnf)
  refine goal_in ⟨?_, fit_eq ?_, sto_take (n := 1) (Nat.le_of_ble_eq_true rfl) ?_⟩ (fun k hinv => ?_)
  · exact ⟨Nat.zero_le _, fun j hj => by omega⟩
  · rfl
  · rfl
  obtain ⟨hk, hj⟩ := hinv
  by_cases hlt : k < a.length
  · have hfk := fit_at hh hlt
    repeat' (first | ((refine run ?_); conv => whnf) | with_reducible refine split_nt (by assumption) ?_ | with_reducible refine split_nf (by assumption) ?_ | with_reducible refine split_ht (by assumption) ?_ | with_reducible refine split_hf (by assumption) ?_ | ((first | with_reducible refine split_neg (fun hc => ?_) (fun hc => ?_) | refine split (fun hc => ?_) (fun hc => ?_)) <;> (try simp only [bsl, true_implies, false_implies, Int.reduceEq, Int.reduceLT, Int.reduceLE, Nat.reduceLT, Nat.reduceEqDiff] at hc) <;> (try (exfalso; omega)) <;> (try exact (bool_tf hc (by assumption)).elim) <;> (try exact (bool_ft hc (by assumption)).elim)) | refine fact_in (fun hby => ?_) | refine un_rfl ?_ | refine stp ?_ | exact obs | with_reducible refine And.intro ?_ ?_ | refine nrm ?_ | apply row_eq | (apply cut_end <;> first | ((refine run ?_); conv => whnf) | exact obs) | (apply cut_drop <;> first | ((refine run ?_); conv => whnf) | exact obs) | (apply cuts_end <;> first | ((refine run ?_); conv => whnf) | exact obs) | (apply cuts_drop <;> first | ((refine run ?_); conv => whnf) | exact obs) | (apply wrap_in <;> first | ((refine run ?_); conv => whnf) | exact obs | exact eqs) | refine stq ?_ | (apply callP_skip <;> first | ((refine run ?_); conv => whnf) | assumption | (simp only [bsl, *]; done) | (simp [*]; done)) | ((refine open_in ?_ ?_) <;> first | ((refine run ?_); conv => whnf) | kernel_rfl) | exact eqs | (intro _; rfl))
    · refine ret_eq ?_ (by rfl)
      unfold rov; rw [fst_some hlt hc hj]
    · refine meet_eq (k + 1) ?_ ?_ (Nat.le_of_ble_eq_true rfl) ?_
      · exact ⟨⟨by omega, fun j hj' => by
          by_cases e : j = k
          · subst e; intro h; unfold ovrM at h; omega
          · exact hj j (by omega)⟩, by dsimp only; omega⟩
      · rfl
      · rfl
  · repeat' (first | ((refine run ?_); conv => whnf) | with_reducible refine split_nt (by assumption) ?_ | with_reducible refine split_nf (by assumption) ?_ | with_reducible refine split_ht (by assumption) ?_ | with_reducible refine split_hf (by assumption) ?_ | ((first | with_reducible refine split_neg (fun hc => ?_) (fun hc => ?_) | refine split (fun hc => ?_) (fun hc => ?_)) <;> (try simp only [bsl, true_implies, false_implies, Int.reduceEq, Int.reduceLT, Int.reduceLE, Nat.reduceLT, Nat.reduceEqDiff] at hc) <;> (try (exfalso; omega)) <;> (try exact (bool_tf hc (by assumption)).elim) <;> (try exact (bool_ft hc (by assumption)).elim)) | refine fact_in (fun hby => ?_) | refine un_rfl ?_ | refine stp ?_ | exact obs | with_reducible refine And.intro ?_ ?_ | refine nrm ?_ | apply row_eq | (apply cut_end <;> first | ((refine run ?_); conv => whnf) | exact obs) | (apply cut_drop <;> first | ((refine run ?_); conv => whnf) | exact obs) | (apply cuts_end <;> first | ((refine run ?_); conv => whnf) | exact obs) | (apply cuts_drop <;> first | ((refine run ?_); conv => whnf) | exact obs) | (apply wrap_in <;> first | ((refine run ?_); conv => whnf) | exact obs | exact eqs) | refine stq ?_ | (apply callP_skip <;> first | ((refine run ?_); conv => whnf) | assumption | (simp only [bsl, *]; done) | (simp [*]; done)) | ((refine open_in ?_ ?_) <;> first | ((refine run ?_); conv => whnf) | kernel_rfl) | exact eqs | (intro _; rfl))
    refine ret_eq ?_ (by rfl)
    unfold rov; rw [fst_none fun j hj' => hj j (by omega)]
instance {N P M : Int} {a b : List Int} {c d : Option Nat} : Con Sx0 21 [meas N P M a b c d] (a.length ≤ 70 ∧ okM N P M a b) (.int .i64 (rov P M a b)) := con fun h => rOver_call N P M a b c d h.1 h.2
/-! Slack. -/
def smallM (a b : List Int) : Prop := ∀ k, k < a.length → nth a k ≤ 1073741824 ∧ nth b k ≤ 1073741824
instance (a b : List Int) : Decidable (smallM a b) := by unfold smallM; infer_instance
theorem small_not {a b : List Int} {k : Nat} (hk : k < a.length) (h : 1073741824 < nth a k ∨ 1073741824 < nth b k) : ¬ smallM a b := fun h' => by have := h' k hk; omega
def slN (N P M : Int) (a b : List Int) : Int := if okM N P M a b ∧ smallM a b then levS P M a.length - sumU (nth a) a.length else 0
def slE (N P M : Int) (a b : List Int) : Int := if okM N P M a b ∧ smallM a b then intoS P M a.length - sumU (nth b) a.length else 0
def slF (N P M : Int) (a b : List Int) : Int := if okM N P M a b ∧ smallM a b then 0 else 1
theorem sum_bd {f : Nat → Int} {k : Nat} (hk : k ≤ 70) (h : ∀ j, j < k → 0 ≤ f j ∧ f j ≤ 1073741824) : 0 ≤ sumU f k ∧ sumU f k ≤ 75161927680 := by
  have := sumU_bd k h; omega
theorem Slack_call (N P M : Int) (a b : List Int) (c d : Option Nat) (ha : a.length ≤ 70) (hb : b.length ≤ 70) : CallF Cx 18 [meas N P M a b c d] [] (.tup [.int .i64 (slN N P M a b), .int .i64 (slE N P M a b), .int .i64 (slF N P M a b)]) [] := by
  by_cases hok : okM N P M a b
  · obtain ⟨hh, hrows⟩ := id hok
    obtain ⟨h1, h2, h3, h4, h5⟩ := id hh
    have hc36 : c36 N P M a b = 0 := if_pos hok
    obtain ⟨n, hn⟩ : ∃ n, a.length = n + 1 := ⟨a.length - 1, by omega⟩
    have hfn : fitsP n P M := fit_at hh (by omega)
    have hfa : ∀ i : Int, 0 ≤ i → i ≤ 64 → fitsP i P M := fun i x y => ⟨x, y, h2.2.2⟩
    have en : ((a.length : Int) - 1) = (n : Int) := by omega
    have cL : Con Sx0 42 [.int .i64 ((a.length : Int) - 1), .func 40 [.agg [.int .i64 P, .int .i64 M]] []] True (.int .i64 (levS P M a.length)) := con0 (by rw [en, hn]; exact sumL_call n P M hfn)
    have cI : Con Sx0 42 [.int .i64 ((a.length : Int) - 1), .func 41 [.agg [.int .i64 P, .int .i64 M]] []] True (.int .i64 (intoS P M a.length)) := con0 (by rw [en, hn]; exact sumI_call n P M hfn)
    have hb1 := levS_bd (p := P) (m := M) (n := n) (k := a.length) (by obtain ⟨_, g, _⟩ := hfn; omega) hfa (by omega)
    have hb2 := intoS_bd (p := P) (m := M) (n := n) (k := a.length) (by obtain ⟨_, g, _⟩ := hfn; omega) hfa (by omega)
    refine sy_call (X := Sx0) (fun _ => false) [] [] (fn := Tryz.f18) Tryz.func18 rfl (by decide) rfl rfl ?_
    repeat' (first | ((refine run ?_); conv => whnf) | with_reducible refine split_nt (by assumption) ?_ | with_reducible refine split_nf (by assumption) ?_ | with_reducible refine split_ht (by assumption) ?_ | with_reducible refine split_hf (by assumption) ?_ | ((first | with_reducible refine split_neg (fun hc => ?_) (fun hc => ?_) | refine split (fun hc => ?_) (fun hc => ?_)) <;> (try simp only [bsl, true_implies, false_implies, Int.reduceEq, Int.reduceLT, Int.reduceLE, Nat.reduceLT, Nat.reduceEqDiff] at hc) <;> (try (exfalso; omega)) <;> (try exact (bool_tf hc (by assumption)).elim) <;> (try exact (bool_ft hc (by assumption)).elim)) | refine fact_in (fun hby => ?_) | refine un_rfl ?_ | refine stp ?_ | exact obs | with_reducible refine And.intro ?_ ?_ | refine nrm ?_ | apply row_eq | (apply cut_end <;> first | ((refine run ?_); conv => whnf) | exact obs) | (apply cut_drop <;> first | ((refine run ?_); conv => whnf) | exact obs) | (apply cuts_end <;> first | ((refine run ?_); conv => whnf) | exact obs) | (apply cuts_drop <;> first | ((refine run ?_); conv => whnf) | exact obs) | (apply wrap_in <;> first | ((refine run ?_); conv => whnf) | exact obs | exact eqs) | refine stq ?_ | (apply callP_skip <;> first | ((refine run ?_); conv => whnf) | assumption | (simp only [bsl, *]; done) | (simp [*]; done)) | ((refine open_in ?_ ?_) <;> first | ((refine run ?_); conv => whnf) | kernel_rfl) | exact eqs | (intro _; rfl))
    refine loop_rule (α := Nat) [2, 3, 16] 1 (fun k => [.int .i64 (-(sumU (nth a) k)), .int .i64 (-(sumU (nth b) k)), .int .i64 k]) (fun k => [.cells 32 (measB N P M a b c d)]) (fun k => k ≤ a.length ∧ ∀ j, j < k → nth a j ≤ 1073741824 ∧ nth b j ≤ 1073741824) (fun k => a.length - k) (0) (fun _ => rfl) (by decide) ?_
    ((refine run ?_); conv => whnf)
    refine goal_in ⟨?_, fit_eq ?_, sto_take (n := 1) (Nat.le_of_ble_eq_true rfl) ?_⟩ (fun k hinv => ?_)
    · exact ⟨Nat.zero_le _, fun j hj => by omega⟩
    · rfl
    · rfl
    obtain ⟨hk, hj⟩ := hinv
    have hs1 := sum_bd (f := nth a) (k := k) (by omega) fun j hj' => ⟨(hrows j (by omega)).1, (hj j hj').1⟩
    have hs2 := sum_bd (f := nth b) (k := k) (by omega) fun j hj' => ⟨(hrows j (by omega)).2, (hj j hj').2⟩
    by_cases hlt : k < a.length
    · have hrk := hrows k hlt
      repeat' (first | ((refine run ?_); conv => whnf) | with_reducible refine split_nt (by assumption) ?_ | with_reducible refine split_nf (by assumption) ?_ | with_reducible refine split_ht (by assumption) ?_ | with_reducible refine split_hf (by assumption) ?_ | ((first | with_reducible refine split_neg (fun hc => ?_) (fun hc => ?_) | refine split (fun hc => ?_) (fun hc => ?_)) <;> (try simp only [bsl, true_implies, false_implies, Int.reduceEq, Int.reduceLT, Int.reduceLE, Nat.reduceLT, Nat.reduceEqDiff] at hc) <;> (try (exfalso; omega)) <;> (try exact (bool_tf hc (by assumption)).elim) <;> (try exact (bool_ft hc (by assumption)).elim)) | refine fact_in (fun hby => ?_) | refine un_rfl ?_ | refine stp ?_ | exact obs | with_reducible refine And.intro ?_ ?_ | refine nrm ?_ | apply row_eq | (apply cut_end <;> first | ((refine run ?_); conv => whnf) | exact obs) | (apply cut_drop <;> first | ((refine run ?_); conv => whnf) | exact obs) | (apply cuts_end <;> first | ((refine run ?_); conv => whnf) | exact obs) | (apply cuts_drop <;> first | ((refine run ?_); conv => whnf) | exact obs) | (apply wrap_in <;> first | ((refine run ?_); conv => whnf) | exact obs | exact eqs) | refine stq ?_ | (apply callP_skip <;> first | ((refine run ?_); conv => whnf) | assumption | (simp only [bsl, *]; done) | (simp [*]; done)) | ((refine open_in ?_ ?_) <;> first | ((refine run ?_); conv => whnf) | kernel_rfl) | exact eqs | (intro _; rfl))
      · have hno : ¬ (okM N P M a b ∧ smallM a b) := fun h => small_not hlt hc h.2
        refine ret_eq ?_ (by rfl)
        simp only [slN, slE, slF, if_neg hno]
      · refine meet_eq (k + 1) ?_ ?_ (Nat.le_of_ble_eq_true rfl) ?_
        · exact ⟨⟨by omega, fun j hj' => by
            by_cases e : j = k
            · subst e; omega
            · exact hj j (by omega)⟩, by dsimp only; omega⟩
        · simp only [sumU, Int.neg_add, Int.sub_eq_add_neg]
          rfl
        · rfl
    · have hke : k = a.length := by omega
      subst hke
      have hyes : okM N P M a b ∧ smallM a b := ⟨hok, hj⟩
      repeat' (first | ((refine run ?_); conv => whnf) | with_reducible refine split_nt (by assumption) ?_ | with_reducible refine split_nf (by assumption) ?_ | with_reducible refine split_ht (by assumption) ?_ | with_reducible refine split_hf (by assumption) ?_ | ((first | with_reducible refine split_neg (fun hc => ?_) (fun hc => ?_) | refine split (fun hc => ?_) (fun hc => ?_)) <;> (try simp only [bsl, true_implies, false_implies, Int.reduceEq, Int.reduceLT, Int.reduceLE, Nat.reduceLT, Nat.reduceEqDiff] at hc) <;> (try (exfalso; omega)) <;> (try exact (bool_tf hc (by assumption)).elim) <;> (try exact (bool_ft hc (by assumption)).elim)) | refine fact_in (fun hby => ?_) | refine un_rfl ?_ | refine stp ?_ | exact obs | with_reducible refine And.intro ?_ ?_ | refine nrm ?_ | apply row_eq | (apply cut_end <;> first | ((refine run ?_); conv => whnf) | exact obs) | (apply cut_drop <;> first | ((refine run ?_); conv => whnf) | exact obs) | (apply cuts_end <;> first | ((refine run ?_); conv => whnf) | exact obs) | (apply cuts_drop <;> first | ((refine run ?_); conv => whnf) | exact obs) | (apply wrap_in <;> first | ((refine run ?_); conv => whnf) | exact obs | exact eqs) | refine stq ?_ | (apply callP_skip <;> first | ((refine run ?_); conv => whnf) | assumption | (simp only [bsl, *]; done) | (simp [*]; done)) | ((refine open_in ?_ ?_) <;> first | ((refine run ?_); conv => whnf) | kernel_rfl) | exact eqs | (intro _; rfl))
      refine ret_eq ?_ (by rfl)
      simp only [slN, slE, slF, if_pos hyes]
      rw [Int.sub_eq_add_neg, Int.sub_eq_add_neg, Int.add_comm, Int.add_comm (-(sumU (nth b) a.length))]
  · have hc36 : c36 N P M a b = 1 := if_neg hok
    have hno : ¬ (okM N P M a b ∧ smallM a b) := fun h => hok h.1
    refine sy_call (X := Sx0) (fun _ => false) [] [] (fn := Tryz.f18) Tryz.func18 rfl (by decide) rfl rfl ?_
    repeat' (first | ((refine run ?_); conv => whnf) | with_reducible refine split_nt (by assumption) ?_ | with_reducible refine split_nf (by assumption) ?_ | with_reducible refine split_ht (by assumption) ?_ | with_reducible refine split_hf (by assumption) ?_ | ((first | with_reducible refine split_neg (fun hc => ?_) (fun hc => ?_) | refine split (fun hc => ?_) (fun hc => ?_)) <;> (try simp only [bsl, true_implies, false_implies, Int.reduceEq, Int.reduceLT, Int.reduceLE, Nat.reduceLT, Nat.reduceEqDiff] at hc) <;> (try (exfalso; omega)) <;> (try exact (bool_tf hc (by assumption)).elim) <;> (try exact (bool_ft hc (by assumption)).elim)) | refine fact_in (fun hby => ?_) | refine un_rfl ?_ | refine stp ?_ | exact obs | with_reducible refine And.intro ?_ ?_ | refine nrm ?_ | apply row_eq | (apply cut_end <;> first | ((refine run ?_); conv => whnf) | exact obs) | (apply cut_drop <;> first | ((refine run ?_); conv => whnf) | exact obs) | (apply cuts_end <;> first | ((refine run ?_); conv => whnf) | exact obs) | (apply cuts_drop <;> first | ((refine run ?_); conv => whnf) | exact obs) | (apply wrap_in <;> first | ((refine run ?_); conv => whnf) | exact obs | exact eqs) | refine stq ?_ | (apply callP_skip <;> first | ((refine run ?_); conv => whnf) | assumption | (simp only [bsl, *]; done) | (simp [*]; done)) | ((refine open_in ?_ ?_) <;> first | ((refine run ?_); conv => whnf) | kernel_rfl) | exact eqs | (intro _; rfl))
    refine ret_eq ?_ (by rfl); simp only [slN, slE, slF, if_neg hno, hc36]
instance {N P M : Int} {a b : List Int} {c d : Option Nat} : Con Sx0 18 [meas N P M a b c d] (a.length ≤ 70 ∧ b.length ≤ 70) (.tup [.int .i64 (slN N P M a b), .int .i64 (slE N P M a b), .int .i64 (slF N P M a b)]) := con fun h => Slack_call N P M a b c d h.1 h.2
end Go.Proofs.YtepnbdacekkapaaGreatDoor.Ai
