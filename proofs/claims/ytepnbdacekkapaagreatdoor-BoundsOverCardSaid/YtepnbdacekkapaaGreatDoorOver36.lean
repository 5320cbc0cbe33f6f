/- The measures of chapter 36: whether one is valid, the first level above its bound, by how much it is below. Own work of this seat. -/
import Derived.Test.YtepnbdacekkapaaGreatDoorForm36
namespace Go.Proofs.YtepnbdacekkapaaGreatDoor.Ai
open Go
set_option linter.unusedSimpArgs false
set_option linter.unusedVariables false
set_option maxHeartbeats 4000000
set_option maxRecDepth 100000
def i64Row (n : Int) : List AVal := [.int .i64 n]
abbrev meas (N P M : Int) (a b : List Int) (c d : Option Nat) : AVal := .agg [.int .i64 N, .int .i64 P, .int .i64 M, .slc 1 (a.map i64Row) c, .slc 1 (b.map i64Row) d]
abbrev measB (N P M : Int) (a b : List Int) (c d : Option Nat) : List AVal := [.int .i64 N, .int .i64 P, .int .i64 M, .slc 1 (a.map i64Row) c, .slc 1 (b.map i64Row) d]
def headM (N P M : Int) (a b : List Int) : Prop := 1 ≤ N ∧ fitsP N P M ∧ 1 ≤ a.length ∧ (a.length : Int) ≤ N + 1 ∧ b.length = a.length
def rowsM (a b : List Int) : Prop := ∀ k, k < a.length → 0 ≤ nth a k ∧ 0 ≤ nth b k
def okM (N P M : Int) (a b : List Int) : Prop := headM N P M a b ∧ rowsM a b
instance (N P M : Int) (a b : List Int) : Decidable (headM N P M a b) := by unfold headM; infer_instance
instance (a b : List Int) : Decidable (rowsM a b) := by unfold rowsM; infer_instance
instance (N P M : Int) (a b : List Int) : Decidable (okM N P M a b) := by unfold okM; infer_instance
def c36 (N P M : Int) (a b : List Int) : Int := if okM N P M a b then 0 else 1
theorem c36_bad {N P M : Int} {a b : List Int} (h : ¬ headM N P M a b) : c36 N P M a b = 1 := if_neg fun h' => h h'.1
theorem c36_row {N P M : Int} {a b : List Int} {k : Nat} (hk : k < a.length) (h : nth a k < 0 ∨ nth b k < 0) : c36 N P M a b = 1 := if_neg fun h' => by
  have := h'.2 k hk; omega
theorem c36_ok {N P M : Int} {a b : List Int} (h : headM N P M a b) (hr : ∀ k, k < a.length → 0 ≤ nth a k ∧ 0 ≤ nth b k) : c36 N P M a b = 0 := if_pos ⟨h, hr⟩
theorem Check_call (N P M : Int) (a b : List Int) (c d : Option Nat) (ha : a.length ≤ 70) (hb : b.length ≤ 70) : CallF Cx 20 [meas N P M a b c d] [] (.int .i64 (c36 N P M a b)) [] := by
  by_cases hh : headM N P M a b
  · obtain ⟨h1, h2, h3, h4, h5⟩ := id hh
    have hd : decide (fitsP N P M) = true := decide_eq_true h2
    have h2' := h2
    obtain ⟨g1, g2, g3, g4, g5, g6⟩ := h2'
    refine sy_call (X := Sx0) (fun _ => false) [] [] (fn := Tryz.f20) Tryz.func20 rfl (by decide) rfl rfl ?_
    repeat' (first | ((refine run ?_); conv => whnf) | with_reducible refine split_nt (by assumption) ?_ | with_reducible refine split_nf (by assumption) ?_ | with_reducible refine split_ht (by assumption) ?_ | with_reducible refine split_hf (by assumption) ?_ | ((first | with_reducible refine split_neg (fun hc => ?_) (fun hc => ?_) | refine split (fun hc => ?_) (fun hc => ?_)) <;> (try simp only [bsl, true_implies, false_implies, Int.reduceEq, Int.reduceLT, Int.reduceLE, Nat.reduceLT, Nat.reduceEqDiff] at hc) <;> (try (exfalso; omega)) <;> (try exact (bool_tf hc (by assumption)).elim) <;> (try exact (bool_ft hc (by assumption)).elim)) | refine fact_in (fun hby => ?_) | refine un_rfl ?_ | refine stp ?_ | exact obs | with_reducible refine And.intro ?_ ?_ | refine nrm ?_ | apply row_eq | (apply cut_end <;> first | ((refine run ?_); conv => whnf) | exact obs) | (apply cut_drop <;> first | ((refine run ?_); conv => whnf) | exact obs) | (apply cuts_end <;> first | ((refine run ?_); conv => whnf) | exact obs) | (apply cuts_drop <;> first | ((refine run ?_); conv => whnf) | exact obs) | (apply wrap_in <;> first | ((refine run ?_); conv => whnf) | exact obs | exact eqs) | refine stq ?_ | (apply callP_skip <;> first | ((refine run ?_); conv => whnf) | assumption | (simp only [bsl, *]; done) | (simp [*]; done)) | ((refine open_in ?_ ?_) <;> first | ((refine run ?_); conv => whnf) | kernel_rfl) | exact eqs | (intro _; rfl))
    · exfalso; simp only [h2, not_true, or_false] at hc; omega
    refine loop_rule (α := Nat) [44] 1 (fun k => [.int .i64 k]) (fun k => [.cells 32 (measB N P M a b c d)]) (fun k => k ≤ a.length ∧ ∀ j, j < k → 0 ≤ nth a j ∧ 0 ≤ nth b j) (fun k => a.length - k) (0) (fun _ => rfl) (by decide) ?_
    ((refine run ?_); conv => whnf)
    refine goal_in ⟨?_, fit_eq ?_, sto_take (n := 1) (Nat.le_of_ble_eq_true rfl) ?_⟩ (fun k hinv => ?_)
    · exact ⟨Nat.zero_le _, fun j hj => by omega⟩
    · rfl
    · rfl
    obtain ⟨hk, hj⟩ := hinv
    by_cases hlt : k < a.length
    · repeat' (first | ((refine run ?_); conv => whnf) | with_reducible refine split_nt (by assumption) ?_ | with_reducible refine split_nf (by assumption) ?_ | with_reducible refine split_ht (by assumption) ?_ | with_reducible refine split_hf (by assumption) ?_ | ((first | with_reducible refine split_neg (fun hc => ?_) (fun hc => ?_) | refine split (fun hc => ?_) (fun hc => ?_)) <;> (try simp only [bsl, true_implies, false_implies, Int.reduceEq, Int.reduceLT, Int.reduceLE, Nat.reduceLT, Nat.reduceEqDiff] at hc) <;> (try (exfalso; omega)) <;> (try exact (bool_tf hc (by assumption)).elim) <;> (try exact (bool_ft hc (by assumption)).elim)) | refine fact_in (fun hby => ?_) | refine un_rfl ?_ | refine stp ?_ | exact obs | with_reducible refine And.intro ?_ ?_ | refine nrm ?_ | apply row_eq | (apply cut_end <;> first | ((refine run ?_); conv => whnf) | exact obs) | (apply cut_drop <;> first | ((refine run ?_); conv => whnf) | exact obs) | (apply cuts_end <;> first | ((refine run ?_); conv => whnf) | exact obs) | (apply cuts_drop <;> first | ((refine run ?_); conv => whnf) | exact obs) | (apply wrap_in <;> first | ((refine run ?_); conv => whnf) | exact obs | exact eqs) | refine stq ?_ | (apply callP_skip <;> first | ((refine run ?_); conv => whnf) | assumption | (simp only [bsl, *]; done) | (simp [*]; done)) | ((refine open_in ?_ ?_) <;> first | ((refine run ?_); conv => whnf) | kernel_rfl) | exact eqs | (intro _; rfl))
      · refine ret_eq ?_ (by rfl); rw [c36_row hlt (by omega)]
      · refine meet_eq (k + 1) ?_ ?_ (Nat.le_of_ble_eq_true rfl) ?_
        · exact ⟨⟨by omega, fun j hj' => by
            by_cases e : j = k
            · subst e; omega
            · exact hj j (by omega)⟩, by dsimp only; omega⟩
        · rfl
        · rfl
    · repeat' (first | ((refine run ?_); conv => whnf) | with_reducible refine split_nt (by assumption) ?_ | with_reducible refine split_nf (by assumption) ?_ | with_reducible refine split_ht (by assumption) ?_ | with_reducible refine split_hf (by assumption) ?_ | ((first | with_reducible refine split_neg (fun hc => ?_) (fun hc => ?_) | refine split (fun hc => ?_) (fun hc => ?_)) <;> (try simp only [bsl, true_implies, false_implies, Int.reduceEq, Int.reduceLT, Int.reduceLE, Nat.reduceLT, Nat.reduceEqDiff] at hc) <;> (try (exfalso; omega)) <;> (try exact (bool_tf hc (by assumption)).elim) <;> (try exact (bool_ft hc (by assumption)).elim)) | refine fact_in (fun hby => ?_) | refine un_rfl ?_ | refine stp ?_ | exact obs | with_reducible refine And.intro ?_ ?_ | refine nrm ?_ | apply row_eq | (apply cut_end <;> first | ((refine run ?_); conv => whnf) | exact obs) | (apply cut_drop <;> first | ((refine run ?_); conv => whnf) | exact obs) | (apply cuts_end <;> first | ((refine run ?_); conv => whnf) | exact obs) | (apply cuts_drop <;> first | ((refine run ?_); conv => whnf) | exact obs) | (apply wrap_in <;> first | ((refine run ?_); conv => whnf) | exact obs | exact eqs) | refine stq ?_ | (apply callP_skip <;> first | ((refine run ?_); conv => whnf) | assumption | (simp only [bsl, *]; done) | (simp [*]; done)) | ((refine open_in ?_ ?_) <;> first | ((refine run ?_); conv => whnf) | kernel_rfl) | exact eqs | (intro _; rfl))
      refine ret_eq ?_ (by rfl); rw [c36_ok hh fun j hj' => hj j (by omega)]
  · have hc36 := c36_bad hh
    by_cases hfit : fitsP N P M
    · have hd : decide (fitsP N P M) = true := decide_eq_true hfit
      have h2' := hfit
      obtain ⟨g1, g2, g3, g4, g5, g6⟩ := h2'
      refine sy_call (X := Sx0) (fun _ => false) [] [] (fn := Tryz.f20) Tryz.func20 rfl (by decide) rfl rfl ?_
      repeat' (first | ((refine run ?_); conv => whnf) | with_reducible refine split_nt (by assumption) ?_ | with_reducible refine split_nf (by assumption) ?_ | with_reducible refine split_ht (by assumption) ?_ | with_reducible refine split_hf (by assumption) ?_ | ((first | with_reducible refine split_neg (fun hc => ?_) (fun hc => ?_) | refine split (fun hc => ?_) (fun hc => ?_)) <;> (try simp only [bsl, true_implies, false_implies, Int.reduceEq, Int.reduceLT, Int.reduceLE, Nat.reduceLT, Nat.reduceEqDiff] at hc) <;> (try (exfalso; omega)) <;> (try exact (bool_tf hc (by assumption)).elim) <;> (try exact (bool_ft hc (by assumption)).elim)) | refine fact_in (fun hby => ?_) | refine un_rfl ?_ | refine stp ?_ | exact obs | with_reducible refine And.intro ?_ ?_ | refine nrm ?_ | apply row_eq | (apply cut_end <;> first | ((refine run ?_); conv => whnf) | exact obs) | (apply cut_drop <;> first | ((refine run ?_); conv => whnf) | exact obs) | (apply cuts_end <;> first | ((refine run ?_); conv => whnf) | exact obs) | (apply cuts_drop <;> first | ((refine run ?_); conv => whnf) | exact obs) | (apply wrap_in <;> first | ((refine run ?_); conv => whnf) | exact obs | exact eqs) | refine stq ?_ | (apply callP_skip <;> first | ((refine run ?_); conv => whnf) | assumption | (simp only [bsl, *]; done) | (simp [*]; done)) | ((refine open_in ?_ ?_) <;> first | ((refine run ?_); conv => whnf) | kernel_rfl) | exact eqs | (intro _; rfl))
      · refine ret_eq ?_ (by rfl); rw [hc36]
      · exact absurd ⟨by omega, hfit, by omega, by omega, by omega⟩ hh
    · have hd : decide (fitsP N P M) = false := decide_eq_false hfit
      refine sy_call (X := Sx0) (fun _ => false) [] [] (fn := Tryz.f20) Tryz.func20 rfl (by decide) rfl rfl ?_
      repeat' (first | ((refine run ?_); conv => whnf) | with_reducible refine split_nt (by assumption) ?_ | with_reducible refine split_nf (by assumption) ?_ | with_reducible refine split_ht (by assumption) ?_ | with_reducible refine split_hf (by assumption) ?_ | ((first | with_reducible refine split_neg (fun hc => ?_) (fun hc => ?_) | refine split (fun hc => ?_) (fun hc => ?_)) <;> (try simp only [bsl, true_implies, false_implies, Int.reduceEq, Int.reduceLT, Int.reduceLE, Nat.reduceLT, Nat.reduceEqDiff] at hc) <;> (try (exfalso; omega)) <;> (try exact (bool_tf hc (by assumption)).elim) <;> (try exact (bool_ft hc (by assumption)).elim)) | refine fact_in (fun hby => ?_) | refine un_rfl ?_ | refine stp ?_ | exact obs | with_reducible refine And.intro ?_ ?_ | refine nrm ?_ | apply row_eq | (apply cut_end <;> first | ((refine run ?_); conv => whnf) | exact obs) | (apply cut_drop <;> first | ((refine run ?_); conv => whnf) | exact obs) | (apply cuts_end <;> first | ((refine run ?_); conv => whnf) | exact obs) | (apply cuts_drop <;> first | ((refine run ?_); conv => whnf) | exact obs) | (apply wrap_in <;> first | ((refine run ?_); conv => whnf) | exact obs | exact eqs) | refine stq ?_ | (apply callP_skip <;> first | ((refine run ?_); conv => whnf) | assumption | (simp only [bsl, *]; done) | (simp [*]; done)) | ((refine open_in ?_ ?_) <;> first | ((refine run ?_); conv => whnf) | kernel_rfl) | exact eqs | (intro _; rfl))
      · refine ret_eq ?_ (by rfl); rw [hc36]
      · exfalso; simp only [hfit, and_false, false_and] at hc
instance {N P M : Int} {a b : List Int} {c d : Option Nat} : Con Sx0 20 [meas N P M a b c d] (a.length ≤ 70 ∧ b.length ≤ 70) (.int .i64 (c36 N P M a b)) := con fun h => Check_call N P M a b c d h.1 h.2
theorem rCheck_call (N P M : Int) (a b : List Int) (c d : Option Nat) (ha : a.length ≤ 70) (hb : b.length ≤ 70) : CallF Cx 19 [meas N P M a b c d] [] (.bool (decide (okM N P M a b))) [] := by
  by_cases hh : headM N P M a b
  · obtain ⟨h1, h2, h3, h4, h5⟩ := id hh
    have hd : decide (fitsP N P M) = true := decide_eq_true h2
    have h2' := h2
    obtain ⟨g1, g2, g3, g4, g5, g6⟩ := h2'
    refine sy_call (X := Sx0) (fun _ => false) [] [] (fn := Tryz.f19) Tryz.func19 rfl (by decide) rfl rfl ?_
    repeat' (first | ((refine run ?_); conv => whnf) | with_reducible refine split_nt (by assumption) ?_ | with_reducible refine split_nf (by assumption) ?_ | with_reducible refine split_ht (by assumption) ?_ | with_reducible refine split_hf (by assumption) ?_ | ((first | with_reducible refine split_neg (fun hc => ?_) (fun hc => ?_) | refine split (fun hc => ?_) (fun hc => ?_)) <;> (try simp only [bsl, true_implies, false_implies, Int.reduceEq, Int.reduceLT, Int.reduceLE, Nat.reduceLT, Nat.reduceEqDiff] at hc) <;> (try (exfalso; omega)) <;> (try exact (bool_tf hc (by assumption)).elim) <;> (try exact (bool_ft hc (by assumption)).elim)) | refine fact_in (fun hby => ?_) | refine un_rfl ?_ | refine stp ?_ | exact obs | with_reducible refine And.intro ?_ ?_ | refine nrm ?_ | apply row_eq | (apply cut_end <;> first | ((refine run ?_); conv => whnf) | exact obs) | (apply cut_drop <;> first | ((refine run ?_); conv => whnf) | exact obs) | (apply cuts_end <;> first | ((refine run ?_); conv => whnf) | exact obs) | (apply cuts_drop <;> first | ((refine run ?_); conv => whnf) | exact obs) | (apply wrap_in <;> first | ((refine run ?_); conv => whnf) | exact obs | exact eqs) | refine stq ?_ | (apply callP_skip <;> first | ((refine run ?_); conv => whnf) | assumption | (simp only [bsl, *]; done) | (simp [*]; done)) | ((refine open_in ?_ ?_) <;> first | ((refine run ?_); conv => whnf) | kernel_rfl) | exact eqs | (intro _; rfl))
    · exfalso; simp only [h2, not_true, or_false] at hc; omega
    refine loop_rule (α := Nat) [3] 1 (fun k => [.int .i64 k]) (fun k => [.cells 32 (measB N P M a b c d)]) (fun k => k ≤ a.length ∧ ∀ j, j < k → 0 ≤ nth a j ∧ 0 ≤ nth b j) (fun k => a.length - k) (0) (fun _ => rfl) (by decide) ?_
    ((refine run ?_); conv => whnf)
    refine goal_in ⟨?_, fit_eq ?_, sto_take (n := 1) (Nat.le_of_ble_eq_true rfl) ?_⟩ (fun k hinv => ?_)
    · exact ⟨Nat.zero_le _, fun j hj => by omega⟩
    · rfl
    · rfl
    obtain ⟨hk, hj⟩ := hinv
    by_cases hlt : k < a.length
    · repeat' (first | ((refine run ?_); conv => whnf) | with_reducible refine split_nt (by assumption) ?_ | with_reducible refine split_nf (by assumption) ?_ | with_reducible refine split_ht (by assumption) ?_ | with_reducible refine split_hf (by assumption) ?_ | ((first | with_reducible refine split_neg (fun hc => ?_) (fun hc => ?_) | refine split (fun hc => ?_) (fun hc => ?_)) <;> (try simp only [bsl, true_implies, false_implies, Int.reduceEq, Int.reduceLT, Int.reduceLE, Nat.reduceLT, Nat.reduceEqDiff] at hc) <;> (try (exfalso; omega)) <;> (try exact (bool_tf hc (by assumption)).elim) <;> (try exact (bool_ft hc (by assumption)).elim)) | refine fact_in (fun hby => ?_) | refine un_rfl ?_ | refine stp ?_ | exact obs | with_reducible refine And.intro ?_ ?_ | refine nrm ?_ | apply row_eq | (apply cut_end <;> first | ((refine run ?_); conv => whnf) | exact obs) | (apply cut_drop <;> first | ((refine run ?_); conv => whnf) | exact obs) | (apply cuts_end <;> first | ((refine run ?_); conv => whnf) | exact obs) | (apply cuts_drop <;> first | ((refine run ?_); conv => whnf) | exact obs) | (apply wrap_in <;> first | ((refine run ?_); conv => whnf) | exact obs | exact eqs) | refine stq ?_ | (apply callP_skip <;> first | ((refine run ?_); conv => whnf) | assumption | (simp only [bsl, *]; done) | (simp [*]; done)) | ((refine open_in ?_ ?_) <;> first | ((refine run ?_); conv => whnf) | kernel_rfl) | exact eqs | (intro _; rfl))
      · refine ret_eq ?_ (by rfl); rw [decide_eq_false fun h => by have := h.2 k hlt; omega]
      · refine meet_eq (k + 1) ?_ ?_ (Nat.le_of_ble_eq_true rfl) ?_
        · exact ⟨⟨by omega, fun j hj' => by
            by_cases e : j = k
            · subst e; omega
            · exact hj j (by omega)⟩, by dsimp only; omega⟩
        · rfl
        · rfl
    · repeat' (first | ((refine run ?_); conv => whnf) | with_reducible refine split_nt (by assumption) ?_ | with_reducible refine split_nf (by assumption) ?_ | with_reducible refine split_ht (by assumption) ?_ | with_reducible refine split_hf (by assumption) ?_ | ((first | with_reducible refine split_neg (fun hc => ?_) (fun hc => ?_) | refine split (fun hc => ?_) (fun hc => ?_)) <;> (try simp only [bsl, true_implies, false_implies, Int.reduceEq, Int.reduceLT, Int.reduceLE, Nat.reduceLT, Nat.reduceEqDiff] at hc) <;> (try (exfalso; omega)) <;> (try exact (bool_tf hc (by assumption)).elim) <;> (try exact (bool_ft hc (by assumption)).elim)) | refine fact_in (fun hby => ?_) | refine un_rfl ?_ | refine stp ?_ | exact obs | with_reducible refine And.intro ?_ ?_ | refine nrm ?_ | apply row_eq | (apply cut_end <;> first | ((refine run ?_); conv => whnf) | exact obs) | (apply cut_drop <;> first | ((refine run ?_); conv => whnf) | exact obs) | (apply cuts_end <;> first | ((refine run ?_); conv => whnf) | exact obs) | (apply cuts_drop <;> first | ((refine run ?_); conv => whnf) | exact obs) | (apply wrap_in <;> first | ((refine run ?_); conv => whnf) | exact obs | exact eqs) | refine stq ?_ | (apply callP_skip <;> first | ((refine run ?_); conv => whnf) | assumption | (simp only [bsl, *]; done) | (simp [*]; done)) | ((refine open_in ?_ ?_) <;> first | ((refine run ?_); conv => whnf) | kernel_rfl) | exact eqs | (intro _; rfl))
      refine ret_eq ?_ (by rfl); rw [decide_eq_true (show okM N P M a b from ⟨hh, fun j hj' => hj j (by omega)⟩)]
  · have hno : ¬ okM N P M a b := fun h => hh h.1
    by_cases hfit : fitsP N P M
    · have hd : decide (fitsP N P M) = true := decide_eq_true hfit
      have h2' := hfit
      obtain ⟨g1, g2, g3, g4, g5, g6⟩ := h2'
      refine sy_call (X := Sx0) (fun _ => false) [] [] (fn := Tryz.f19) Tryz.func19 rfl (by decide) rfl rfl ?_
      repeat' (first | ((refine run ?_); conv => whnf) | with_reducible refine split_nt (by assumption) ?_ | with_reducible refine split_nf (by assumption) ?_ | with_reducible refine split_ht (by assumption) ?_ | with_reducible refine split_hf (by assumption) ?_ | ((first | with_reducible refine split_neg (fun hc => ?_) (fun hc => ?_) | refine split (fun hc => ?_) (fun hc => ?_)) <;> (try simp only [bsl, true_implies, false_implies, Int.reduceEq, Int.reduceLT, Int.reduceLE, Nat.reduceLT, Nat.reduceEqDiff] at hc) <;> (try (exfalso; omega)) <;> (try exact (bool_tf hc (by assumption)).elim) <;> (try exact (bool_ft hc (by assumption)).elim)) | refine fact_in (fun hby => ?_) | refine un_rfl ?_ | refine stp ?_ | exact obs | with_reducible refine And.intro ?_ ?_ | refine nrm ?_ | apply row_eq | (apply cut_end <;> first | ((refine run ?_); conv => whnf) | exact obs) | (apply cut_drop <;> first | ((refine run ?_); conv => whnf) | exact obs) | (apply cuts_end <;> first | ((refine run ?_); conv => whnf) | exact obs) | (apply cuts_drop <;> first | ((refine run ?_); conv => whnf) | exact obs) | (apply wrap_in <;> first | ((refine run ?_); conv => whnf) | exact obs | exact eqs) | refine stq ?_ | (apply callP_skip <;> first | ((refine run ?_); conv => whnf) | assumption | (simp only [bsl, *]; done) | (simp [*]; done)) | ((refine open_in ?_ ?_) <;> first | ((refine run ?_); conv => whnf) | kernel_rfl) | exact eqs | (intro _; rfl))
      · refine ret_eq ?_ (by rfl); rw [decide_eq_false hno]
      · exact absurd ⟨by omega, hfit, by omega, by omega, by omega⟩ hh
    · have hd : decide (fitsP N P M) = false := decide_eq_false hfit
      refine sy_call (X := Sx0) (fun _ => false) [] [] (fn := Tryz.f19) Tryz.func19 rfl (by decide) rfl rfl ?_
      repeat' (first | ((refine run ?_); conv => whnf) | with_reducible refine split_nt (by assumption) ?_ | with_reducible refine split_nf (by assumption) ?_ | with_reducible refine split_ht (by assumption) ?_ | with_reducible refine split_hf (by assumption) ?_ | ((first | with_reducible refine split_neg (fun hc => ?_) (fun hc => ?_) | refine split (fun hc => ?_) (fun hc => ?_)) <;> (try simp only [bsl, true_implies, false_implies, Int.reduceEq, Int.reduceLT, Int.reduceLE, Nat.reduceLT, Nat.reduceEqDiff] at hc) <;> (try (exfalso; omega)) <;> (try exact (bool_tf hc (by assumption)).elim) <;> (try exact (bool_ft hc (by assumption)).elim)) | refine fact_in (fun hby => ?_) | refine un_rfl ?_ | refine stp ?_ | exact obs | with_reducible refine And.intro ?_ ?_ | refine nrm ?_ | apply row_eq | (apply cut_end <;> first | ((refine run ?_); conv => whnf) | exact obs) | (apply cut_drop <;> first | ((refine run ?_); conv => whnf) | exact obs) | (apply cuts_end <;> first | ((refine run ?_); conv => whnf) | exact obs) | (apply cuts_drop <;> first | ((refine run ?_); conv => whnf) | exact obs) | (apply wrap_in <;> first | ((refine run ?_); conv => whnf) | exact obs | exact eqs) | refine stq ?_ | (apply callP_skip <;> first | ((refine run ?_); conv => whnf) | assumption | (simp only [bsl, *]; done) | (simp [*]; done)) | ((refine open_in ?_ ?_) <;> first | ((refine run ?_); conv => whnf) | kernel_rfl) | exact eqs | (intro _; rfl))
      · refine ret_eq ?_ (by rfl); rw [decide_eq_false hno]
      · exfalso; simp only [hfit, and_false, false_and] at hc
instance {N P M : Int} {a b : List Int} {c d : Option Nat} : Con Sx0 19 [meas N P M a b c d] (a.length ≤ 70 ∧ b.length ≤ 70) (.bool (decide (okM N P M a b))) := con fun h => rCheck_call N P M a b c d h.1 h.2
end Go.Proofs.YtepnbdacekkapaaGreatDoor.Ai
