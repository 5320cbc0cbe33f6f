/- The statement CharstringsKinds, walked. Own work of this seat. -/
import Derived.Test.YteenamolccbcfaaDoorLaws
namespace Go.Proofs.YteenamolccbcfaaDoor.Ai
open Go
set_option linter.unusedSimpArgs false
set_option linter.unusedVariables false
set_option maxHeartbeats 4000000
set_option maxRecDepth 100000
attribute [local irreducible] decodeL
theorem check_wide {a b : Int} {s : List UInt8} (h : checkI a s = 0) (hb : kindI b ≠ 0) (hw : ∀ c, hasB a c = true → hasB b c = true) : checkI b s = 0 := by
  obtain ⟨h1, h2, h3, h4⟩ := checkI_dec h
  unfold checkI
  rw [if_neg hb, if_neg (by omega), h3]
  have : (decT s).all (hasB b) = true := by
    rw [List.all_eq_true] at h4 ⊢
    exact fun c hc => hw c (h4 c hc)
  rw [this]; rfl
theorem w1926 {c : Int} (h : hasB 19 c = true) : hasB 26 c = true := by
  have h' := h
  rw [← q19] at h
  simp only [Bool.and_eq_true] at h
  have hp := h.2
  unfold hasP at hp
  simp only [others, List.any_cons, List.any_nil, Bool.or_eq_true, decide_eq_true_eq, Bool.or_false] at hp
  have e : ((32 : UInt8).toNat : Int) = 32 ∧ ((39 : UInt8).toNat : Int) = 39 ∧ ((40 : UInt8).toNat : Int) = 40 ∧ ((41 : UInt8).toNat : Int) = 41 ∧ ((43 : UInt8).toNat : Int) = 43 ∧ ((44 : UInt8).toNat : Int) = 44 ∧ ((45 : UInt8).toNat : Int) = 45 ∧ ((46 : UInt8).toNat : Int) = 46 ∧ ((47 : UInt8).toNat : Int) = 47 ∧ ((58 : UInt8).toNat : Int) = 58 ∧ ((61 : UInt8).toNat : Int) = 61 ∧ ((63 : UInt8).toNat : Int) = 63 := by decide
  rw [← q26]; simp [btwP, validR]; omega
theorem w2622 {c : Int} (h : hasB 26 c = true) : hasB 22 c = true := by
  rw [← q26] at h; rw [← q22]; simp [btwP, validR] at h ⊢; omega
theorem w2230 {c : Int} (h : hasB 22 c = true) : hasB 30 c = true := by
  rw [← q22] at h; rw [← q30]; simp [btwP, validR] at h ⊢; omega
theorem w3012 {c : Int} (h : hasB 30 c = true) : hasB 12 c = true := by
  rw [← q30] at h; rw [← q12]; simp [btwP, validR] at h ⊢; omega
theorem check_bd {k : Int} {s : List UInt8} (hk : kindI k ≠ 0) (hs : s.length ≤ 65536) : checkI k s = 0 ∨ checkI k s = 11 := by
  unfold checkI
  rw [if_neg hk, if_neg (by omega)]
  split
  · exact .inl rfl
  · exact .inr rfl
theorem lawKinds (t : List UInt8) (n : Nat) (cs : List Int) (cap : Option Nat) (k : Nat) (h : charsOK n cs) (hk : k < 256) : CallF Cx 4 [.str t, .agg [.int .u8 n, .slc 1 (cs.map u32Row) cap], .int .u8 k] [] (.bool true) [] := by
  by_cases hs : t.length ≤ 100
  · have h2 := text_len n cs
    have hT := check_text n cs
    have i1 : Con Sx0 17 [.int .i64 ((k : Int) % 5)] True (.int .u32 (kindC k)) := con0 (by
      have := number_call (k % 5) (by omega)
      rw [show ((k : Int) % 5) = ((k % 5 : Nat) : Int) by omega]
      exact this)
    have hkl : ∀ i, (kindsI t i).length ≤ 5 := fun i => Nat.le_trans (List.length_filter_le _ _) (by simp [kindNo]; omega)
    refine sy_call (X := Sx0) (fun _ => false) [] [(7, 22, 1)] (fn := Tryd.f4) Tryd.func4 rfl (by decide) rfl rfl ?_
    repeat' (first | ((refine run ?_); conv => whnf) | with_reducible refine split_nt (by assumption) ?_ | with_reducible refine split_nf (by assumption) ?_ | with_reducible refine split_ht (by assumption) ?_ | with_reducible refine split_hf (by assumption) ?_ | ((first | with_reducible refine split_neg (fun hc => ?_) (fun hc => ?_) | refine split (fun hc => ?_) (fun hc => ?_)) <;> (try simp only [bsl, true_implies, false_implies, Int.reduceEq, Int.reduceLT, Int.reduceLE, Nat.reduceLT, Nat.reduceEqDiff] at hc) <;> (try (exfalso; omega)) <;> (try exact (bool_tf hc (by assumption)).elim) <;> (try exact (bool_ft hc (by assumption)).elim)) | refine fact_in (fun hby => ?_) | refine un_rfl ?_ | refine stp ?_ | exact obs | with_reducible refine And.intro ?_ ?_ | refine nrm ?_ | apply row_eq | (apply cut_end <;> first | ((refine run ?_); conv => whnf) | exact obs) | (apply cut_drop <;> first | ((refine run ?_); conv => whnf) | exact obs) | (apply cuts_end <;> first | ((refine run ?_); conv => whnf) | exact obs) | (apply cuts_drop <;> first | ((refine run ?_); conv => whnf) | exact obs) | (apply wrap_in <;> first | ((refine run ?_); conv => whnf) | exact obs | exact eqs) | refine stq ?_ | (apply callP_skip <;> first | ((refine run ?_); conv => whnf) | assumption | (simp only [bsl, *]; done) | (simp [*]; done)) | ((refine open_in ?_ ?_) <;> first | ((refine run ?_); conv => whnf) | kernel_rfl) | exact eqs | (intro _; rfl))
    refine loop_rule (α := Nat) [7, 8] 2 (fun i => [.bsl 1 (kindsI t i).length, .int .i64 i]) (fun i => [.cells 37 [.int .u8 n, .slc 1 (cs.map u32Row) cap], .mk 22 1 ((kindsI t i).map u32Row)]) (fun i => i ≤ 5) (fun i => 5 - i) (0) (fun _ => rfl) (by decide) ?_
    ((refine run ?_); conv => whnf)
    refine goal_in ⟨?_, fit_eq ?_, sto_take (n := 2) (Nat.le_of_ble_eq_true rfl) ?_⟩ (fun i hinv => ?_)
    · exact Nat.zero_le _
    · rfl
    · rfl
    have hki := hkl i
    by_cases hi : i < 5
    · have hst := kindsI_succ (s := t) hi
      repeat' (first | ((refine run ?_); conv => whnf) | with_reducible refine split_nt (by assumption) ?_ | with_reducible refine split_nf (by assumption) ?_ | with_reducible refine split_ht (by assumption) ?_ | with_reducible refine split_hf (by assumption) ?_ | ((first | with_reducible refine split_neg (fun hc => ?_) (fun hc => ?_) | refine split (fun hc => ?_) (fun hc => ?_)) <;> (try simp only [bsl, true_implies, false_implies, Int.reduceEq, Int.reduceLT, Int.reduceLE, Nat.reduceLT, Nat.reduceEqDiff] at hc) <;> (try (exfalso; omega)) <;> (try exact (bool_tf hc (by assumption)).elim) <;> (try exact (bool_ft hc (by assumption)).elim)) | refine fact_in (fun hby => ?_) | refine un_rfl ?_ | refine stp ?_ | exact obs | with_reducible refine And.intro ?_ ?_ | refine nrm ?_ | apply row_eq | (apply cut_end <;> first | ((refine run ?_); conv => whnf) | exact obs) | (apply cut_drop <;> first | ((refine run ?_); conv => whnf) | exact obs) | (apply cuts_end <;> first | ((refine run ?_); conv => whnf) | exact obs) | (apply cuts_drop <;> first | ((refine run ?_); conv => whnf) | exact obs) | (apply wrap_in <;> first | ((refine run ?_); conv => whnf) | exact obs | exact eqs) | refine stq ?_ | (apply callP_skip <;> first | ((refine run ?_); conv => whnf) | assumption | (simp only [bsl, *]; done) | (simp [*]; done)) | ((refine open_in ?_ ?_) <;> first | ((refine run ?_); conv => whnf) | kernel_rfl) | exact eqs | (intro _; rfl))
      all_goals
        refine meet_eq (i + 1) ?_ ?_ (Nat.le_of_ble_eq_true rfl) ?_
        · exact ⟨by dsimp only; omega, by dsimp only; omega⟩
        · rw [hst]; first | rw [if_pos hc] | rw [if_neg hc]
          simp
        · rw [hst]; first | rw [if_pos hc] | rw [if_neg hc]
          simp [u32Row]
    · have h5 : i = 5 := by omega
      subst h5
      repeat' (first | ((refine run ?_); conv => whnf) | with_reducible refine split_nt (by assumption) ?_ | with_reducible refine split_nf (by assumption) ?_ | with_reducible refine split_ht (by assumption) ?_ | with_reducible refine split_hf (by assumption) ?_ | ((first | with_reducible refine split_neg (fun hc => ?_) (fun hc => ?_) | refine split (fun hc => ?_) (fun hc => ?_)) <;> (try simp only [bsl, true_implies, false_implies, Int.reduceEq, Int.reduceLT, Int.reduceLE, Nat.reduceLT, Nat.reduceEqDiff] at hc) <;> (try (exfalso; omega)) <;> (try exact (bool_tf hc (by assumption)).elim) <;> (try exact (bool_ft hc (by assumption)).elim)) | refine fact_in (fun hby => ?_) | refine un_rfl ?_ | refine stp ?_ | exact obs | with_reducible refine And.intro ?_ ?_ | refine nrm ?_ | apply row_eq | (apply cut_end <;> first | ((refine run ?_); conv => whnf) | exact obs) | (apply cut_drop <;> first | ((refine run ?_); conv => whnf) | exact obs) | (apply cuts_end <;> first | ((refine run ?_); conv => whnf) | exact obs) | (apply cuts_drop <;> first | ((refine run ?_); conv => whnf) | exact obs) | (apply wrap_in <;> first | ((refine run ?_); conv => whnf) | exact obs | exact eqs) | refine stq ?_ | (apply callP_skip <;> first | ((refine run ?_); conv => whnf) | assumption | (simp only [bsl, *]; done) | (simp [*]; done)) | ((refine open_in ?_ ?_) <;> first | ((refine run ?_); conv => whnf) | kernel_rfl) | exact eqs | (intro _; rfl))
      refine loop_rule (α := Nat) [10] 2 (fun j => [.int .i64 j]) (fun j => [.cells 37 [.int .u8 n, .slc 1 (cs.map u32Row) cap], .mk 22 1 ((kindsI t 5).map u32Row)]) (fun j => j ≤ (kindsI t 5).length) (fun j => (kindsI t 5).length - j) (0) (fun _ => rfl) (by decide) ?_
      ((refine run ?_); conv => whnf)
      refine goal_in ⟨?_, fit_eq ?_, sto_take (n := 2) (Nat.le_of_ble_eq_true rfl) ?_⟩ (fun j hinv => ?_)
      · exact Nat.zero_le _
      · rfl
      · rfl
      by_cases hj : j < (kindsI t 5).length
      · repeat' (first | ((refine run ?_); conv => whnf) | with_reducible refine split_nt (by assumption) ?_ | with_reducible refine split_nf (by assumption) ?_ | with_reducible refine split_ht (by assumption) ?_ | with_reducible refine split_hf (by assumption) ?_ | ((first | with_reducible refine split_neg (fun hc => ?_) (fun hc => ?_) | refine split (fun hc => ?_) (fun hc => ?_)) <;> (try simp only [bsl, true_implies, false_implies, Int.reduceEq, Int.reduceLT, Int.reduceLE, Nat.reduceLT, Nat.reduceEqDiff] at hc) <;> (try (exfalso; omega)) <;> (try exact (bool_tf hc (by assumption)).elim) <;> (try exact (bool_ft hc (by assumption)).elim)) | refine fact_in (fun hby => ?_) | refine un_rfl ?_ | refine stp ?_ | exact obs | with_reducible refine And.intro ?_ ?_ | refine nrm ?_ | apply row_eq | (apply cut_end <;> first | ((refine run ?_); conv => whnf) | exact obs) | (apply cut_drop <;> first | ((refine run ?_); conv => whnf) | exact obs) | (apply cuts_end <;> first | ((refine run ?_); conv => whnf) | exact obs) | (apply cuts_drop <;> first | ((refine run ?_); conv => whnf) | exact obs) | (apply wrap_in <;> first | ((refine run ?_); conv => whnf) | exact obs | exact eqs) | refine stq ?_ | (apply callP_skip <;> first | ((refine run ?_); conv => whnf) | assumption | (simp only [bsl, *]; done) | (simp [*]; done)) | ((refine open_in ?_ ?_) <;> first | ((refine run ?_); conv => whnf) | kernel_rfl) | exact eqs | (intro _; rfl))
        refine meet_eq (j + 1) ?_ ?_ (Nat.le_of_ble_eq_true rfl) ?_
        · exact ⟨by dsimp only; omega, by dsimp only; omega⟩
        · simp
        · rfl
      · repeat' (first | ((refine run ?_); conv => whnf) | with_reducible refine split_nt (by assumption) ?_ | with_reducible refine split_nf (by assumption) ?_ | with_reducible refine split_ht (by assumption) ?_ | with_reducible refine split_hf (by assumption) ?_ | ((first | with_reducible refine split_neg (fun hc => ?_) (fun hc => ?_) | refine split (fun hc => ?_) (fun hc => ?_)) <;> (try simp only [bsl, true_implies, false_implies, Int.reduceEq, Int.reduceLT, Int.reduceLE, Nat.reduceLT, Nat.reduceEqDiff] at hc) <;> (try (exfalso; omega)) <;> (try exact (bool_tf hc (by assumption)).elim) <;> (try exact (bool_ft hc (by assumption)).elim)) | refine fact_in (fun hby => ?_) | refine un_rfl ?_ | refine stp ?_ | exact obs | with_reducible refine And.intro ?_ ?_ | refine nrm ?_ | apply row_eq | (apply cut_end <;> first | ((refine run ?_); conv => whnf) | exact obs) | (apply cut_drop <;> first | ((refine run ?_); conv => whnf) | exact obs) | (apply cuts_end <;> first | ((refine run ?_); conv => whnf) | exact obs) | (apply cuts_drop <;> first | ((refine run ?_); conv => whnf) | exact obs) | (apply wrap_in <;> first | ((refine run ?_); conv => whnf) | exact obs | exact eqs) | refine stq ?_ | (apply callP_skip <;> first | ((refine run ?_); conv => whnf) | assumption | (simp only [bsl, *]; done) | (simp [*]; done)) | ((refine open_in ?_ ?_) <;> first | ((refine run ?_); conv => whnf) | kernel_rfl) | exact eqs | (intro _; rfl))
        refine loop_rule (α := Nat) [13] 3 (fun i => [.int .i64 i]) (fun i => [.cells 37 [.int .u8 n, .slc 1 (cs.map u32Row) cap], .mk 22 1 ((kindsI t 5).map u32Row), .cells 26 [.int .u32 (kindC n), .str (textC n cs)]]) (fun i => 1 ≤ i ∧ i ≤ 5) (fun i => 5 - i) (1) (fun _ => rfl) (by decide) ?_
        ((refine run ?_); conv => whnf)
        refine goal_in ⟨?_, fit_eq ?_, sto_take (n := 3) (Nat.le_of_ble_eq_true rfl) ?_⟩ (fun i hinv => ?_)
        · exact ⟨Nat.le_refl _, by decide⟩
        · rfl
        · rfl
        have hi5 : i = 1 ∨ i = 2 ∨ i = 3 ∨ i = 4 ∨ i = 5 := by omega
        have w1 : checkI 19 (textC n cs) = 0 → checkI 26 (textC n cs) = 0 := fun h => check_wide h (by decide) fun c => w1926
        have w2 : checkI 26 (textC n cs) = 0 → checkI 22 (textC n cs) = 0 := fun h => check_wide h (by decide) fun c => w2622
        have w3 : checkI 22 (textC n cs) = 0 → checkI 30 (textC n cs) = 0 := fun h => check_wide h (by decide) fun c => w2230
        have w4 : checkI 30 (textC n cs) = 0 → checkI 12 (textC n cs) = 0 := fun h => check_wide h (by decide) fun c => w3012
        rcases hi5 with rfl | rfl | rfl | rfl | rfl
        · repeat' (first | ((refine run ?_); conv => whnf) | with_reducible refine split_nt (by assumption) ?_ | with_reducible refine split_nf (by assumption) ?_ | with_reducible refine split_ht (by assumption) ?_ | with_reducible refine split_hf (by assumption) ?_ | ((first | with_reducible refine split_neg (fun hc => ?_) (fun hc => ?_) | refine split (fun hc => ?_) (fun hc => ?_)) <;> (try simp only [bsl, true_implies, false_implies, Int.reduceEq, Int.reduceLT, Int.reduceLE, Nat.reduceLT, Nat.reduceEqDiff] at hc) <;> (try (exfalso; omega)) <;> (try exact (bool_tf hc (by assumption)).elim) <;> (try exact (bool_ft hc (by assumption)).elim)) | refine fact_in (fun hby => ?_) | refine un_rfl ?_ | refine stp ?_ | exact obs | with_reducible refine And.intro ?_ ?_ | refine nrm ?_ | apply row_eq | (apply cut_end <;> first | ((refine run ?_); conv => whnf) | exact obs) | (apply cut_drop <;> first | ((refine run ?_); conv => whnf) | exact obs) | (apply cuts_end <;> first | ((refine run ?_); conv => whnf) | exact obs) | (apply cuts_drop <;> first | ((refine run ?_); conv => whnf) | exact obs) | (apply wrap_in <;> first | ((refine run ?_); conv => whnf) | exact obs | exact eqs) | refine stq ?_ | (apply callP_skip <;> first | ((refine run ?_); conv => whnf) | assumption | (simp only [bsl, *]; done) | (simp [*]; done)) | ((refine open_in ?_ ?_) <;> first | ((refine run ?_); conv => whnf) | kernel_rfl) | exact eqs | (intro _; rfl))
          refine meet_eq (2) ?_ ?_ (Nat.le_of_ble_eq_true rfl) ?_
          · exact ⟨by decide, by decide⟩
          · rfl
          · rfl
        · repeat' (first | ((refine run ?_); conv => whnf) | with_reducible refine split_nt (by assumption) ?_ | with_reducible refine split_nf (by assumption) ?_ | with_reducible refine split_ht (by assumption) ?_ | with_reducible refine split_hf (by assumption) ?_ | ((first | with_reducible refine split_neg (fun hc => ?_) (fun hc => ?_) | refine split (fun hc => ?_) (fun hc => ?_)) <;> (try simp only [bsl, true_implies, false_implies, Int.reduceEq, Int.reduceLT, Int.reduceLE, Nat.reduceLT, Nat.reduceEqDiff] at hc) <;> (try (exfalso; omega)) <;> (try exact (bool_tf hc (by assumption)).elim) <;> (try exact (bool_ft hc (by assumption)).elim)) | refine fact_in (fun hby => ?_) | refine un_rfl ?_ | refine stp ?_ | exact obs | with_reducible refine And.intro ?_ ?_ | refine nrm ?_ | apply row_eq | (apply cut_end <;> first | ((refine run ?_); conv => whnf) | exact obs) | (apply cut_drop <;> first | ((refine run ?_); conv => whnf) | exact obs) | (apply cuts_end <;> first | ((refine run ?_); conv => whnf) | exact obs) | (apply cuts_drop <;> first | ((refine run ?_); conv => whnf) | exact obs) | (apply wrap_in <;> first | ((refine run ?_); conv => whnf) | exact obs | exact eqs) | refine stq ?_ | (apply callP_skip <;> first | ((refine run ?_); conv => whnf) | assumption | (simp only [bsl, *]; done) | (simp [*]; done)) | ((refine open_in ?_ ?_) <;> first | ((refine run ?_); conv => whnf) | kernel_rfl) | exact eqs | (intro _; rfl))
          refine meet_eq (3) ?_ ?_ (Nat.le_of_ble_eq_true rfl) ?_
          · exact ⟨by decide, by decide⟩
          · rfl
          · rfl
        · repeat' (first | ((refine run ?_); conv => whnf) | with_reducible refine split_nt (by assumption) ?_ | with_reducible refine split_nf (by assumption) ?_ | with_reducible refine split_ht (by assumption) ?_ | with_reducible refine split_hf (by assumption) ?_ | ((first | with_reducible refine split_neg (fun hc => ?_) (fun hc => ?_) | refine split (fun hc => ?_) (fun hc => ?_)) <;> (try simp only [bsl, true_implies, false_implies, Int.reduceEq, Int.reduceLT, Int.reduceLE, Nat.reduceLT, Nat.reduceEqDiff] at hc) <;> (try (exfalso; omega)) <;> (try exact (bool_tf hc (by assumption)).elim) <;> (try exact (bool_ft hc (by assumption)).elim)) | refine fact_in (fun hby => ?_) | refine un_rfl ?_ | refine stp ?_ | exact obs | with_reducible refine And.intro ?_ ?_ | refine nrm ?_ | apply row_eq | (apply cut_end <;> first | ((refine run ?_); conv => whnf) | exact obs) | (apply cut_drop <;> first | ((refine run ?_); conv => whnf) | exact obs) | (apply cuts_end <;> first | ((refine run ?_); conv => whnf) | exact obs) | (apply cuts_drop <;> first | ((refine run ?_); conv => whnf) | exact obs) | (apply wrap_in <;> first | ((refine run ?_); conv => whnf) | exact obs | exact eqs) | refine stq ?_ | (apply callP_skip <;> first | ((refine run ?_); conv => whnf) | assumption | (simp only [bsl, *]; done) | (simp [*]; done)) | ((refine open_in ?_ ?_) <;> first | ((refine run ?_); conv => whnf) | kernel_rfl) | exact eqs | (intro _; rfl))
          refine meet_eq (4) ?_ ?_ (Nat.le_of_ble_eq_true rfl) ?_
          · exact ⟨by decide, by decide⟩
          · rfl
          · rfl
        · repeat' (first | ((refine run ?_); conv => whnf) | with_reducible refine split_nt (by assumption) ?_ | with_reducible refine split_nf (by assumption) ?_ | with_reducible refine split_ht (by assumption) ?_ | with_reducible refine split_hf (by assumption) ?_ | ((first | with_reducible refine split_neg (fun hc => ?_) (fun hc => ?_) | refine split (fun hc => ?_) (fun hc => ?_)) <;> (try simp only [bsl, true_implies, false_implies, Int.reduceEq, Int.reduceLT, Int.reduceLE, Nat.reduceLT, Nat.reduceEqDiff] at hc) <;> (try (exfalso; omega)) <;> (try exact (bool_tf hc (by assumption)).elim) <;> (try exact (bool_ft hc (by assumption)).elim)) | refine fact_in (fun hby => ?_) | refine un_rfl ?_ | refine stp ?_ | exact obs | with_reducible refine And.intro ?_ ?_ | refine nrm ?_ | apply row_eq | (apply cut_end <;> first | ((refine run ?_); conv => whnf) | exact obs) | (apply cut_drop <;> first | ((refine run ?_); conv => whnf) | exact obs) | (apply cuts_end <;> first | ((refine run ?_); conv => whnf) | exact obs) | (apply cuts_drop <;> first | ((refine run ?_); conv => whnf) | exact obs) | (apply wrap_in <;> first | ((refine run ?_); conv => whnf) | exact obs | exact eqs) | refine stq ?_ | (apply callP_skip <;> first | ((refine run ?_); conv => whnf) | assumption | (simp only [bsl, *]; done) | (simp [*]; done)) | ((refine open_in ?_ ?_) <;> first | ((refine run ?_); conv => whnf) | kernel_rfl) | exact eqs | (intro _; rfl))
          refine meet_eq (5) ?_ ?_ (Nat.le_of_ble_eq_true rfl) ?_
          · exact ⟨by decide, by decide⟩
          · rfl
          · rfl
        · have hb := check_bd (kindC_ne k) (s := textC n cs) (by omega)
          have hcv : convE (kindC n) (textC n cs) (kindC k) = checkI (kindC k) (textC n cs) := by simp [convE, hT]
          rcases hb with hb | hb
          · rw [hb] at hcv
            have hcv2 : convE (kindC k) (textC n cs) (kindC n) = 0 := by simp [convE, hT, hb]
            have i2 : Con Sx0 21 [.agg [.int .u32 (if convE (kindC n) (textC n cs) (kindC k) = 0 then kindC k else 0), .str (if convE (kindC n) (textC n cs) (kindC k) = 0 then textC n cs else [])], .int .u32 (kindC n)] True (.tup [.agg [.int .u32 (kindC n), .str (textC n cs)], .int .i64 0]) := con0 (by
              rw [if_pos hcv, if_pos hcv]
              have := Convert_call (kindC k) (kindC n) (textC n cs) (by omega)
              simp only [hcv2, if_true] at this
              exact this)
            repeat' (first | ((refine run ?_); conv => whnf) | with_reducible refine split_nt (by assumption) ?_ | with_reducible refine split_nf (by assumption) ?_ | with_reducible refine split_ht (by assumption) ?_ | with_reducible refine split_hf (by assumption) ?_ | ((first | with_reducible refine split_neg (fun hc => ?_) (fun hc => ?_) | refine split (fun hc => ?_) (fun hc => ?_)) <;> (try simp only [bsl, true_implies, false_implies, Int.reduceEq, Int.reduceLT, Int.reduceLE, Nat.reduceLT, Nat.reduceEqDiff] at hc) <;> (try (exfalso; omega)) <;> (try exact (bool_tf hc (by assumption)).elim) <;> (try exact (bool_ft hc (by assumption)).elim)) | refine fact_in (fun hby => ?_) | refine un_rfl ?_ | refine stp ?_ | exact obs | with_reducible refine And.intro ?_ ?_ | refine nrm ?_ | apply row_eq | (apply cut_end <;> first | ((refine run ?_); conv => whnf) | exact obs) | (apply cut_drop <;> first | ((refine run ?_); conv => whnf) | exact obs) | (apply cuts_end <;> first | ((refine run ?_); conv => whnf) | exact obs) | (apply cuts_drop <;> first | ((refine run ?_); conv => whnf) | exact obs) | (apply wrap_in <;> first | ((refine run ?_); conv => whnf) | exact obs | exact eqs) | refine stq ?_ | (apply callP_skip <;> first | ((refine run ?_); conv => whnf) | assumption | (simp only [bsl, *]; done) | (simp [*]; done)) | ((refine open_in ?_ ?_) <;> first | ((refine run ?_); conv => whnf) | kernel_rfl) | exact eqs | (intro _; rfl))
            all_goals (refine ret_eq ?_ (by rfl); simp)
          · rw [hb] at hcv
            repeat' (first | ((refine run ?_); conv => whnf) | with_reducible refine split_nt (by assumption) ?_ | with_reducible refine split_nf (by assumption) ?_ | with_reducible refine split_ht (by assumption) ?_ | with_reducible refine split_hf (by assumption) ?_ | ((first | with_reducible refine split_neg (fun hc => ?_) (fun hc => ?_) | refine split (fun hc => ?_) (fun hc => ?_)) <;> (try simp only [bsl, true_implies, false_implies, Int.reduceEq, Int.reduceLT, Int.reduceLE, Nat.reduceLT, Nat.reduceEqDiff] at hc) <;> (try (exfalso; omega)) <;> (try exact (bool_tf hc (by assumption)).elim) <;> (try exact (bool_ft hc (by assumption)).elim)) | refine fact_in (fun hby => ?_) | refine un_rfl ?_ | refine stp ?_ | exact obs | with_reducible refine And.intro ?_ ?_ | refine nrm ?_ | apply row_eq | (apply cut_end <;> first | ((refine run ?_); conv => whnf) | exact obs) | (apply cut_drop <;> first | ((refine run ?_); conv => whnf) | exact obs) | (apply cuts_end <;> first | ((refine run ?_); conv => whnf) | exact obs) | (apply cuts_drop <;> first | ((refine run ?_); conv => whnf) | exact obs) | (apply wrap_in <;> first | ((refine run ?_); conv => whnf) | exact obs | exact eqs) | refine stq ?_ | (apply callP_skip <;> first | ((refine run ?_); conv => whnf) | assumption | (simp only [bsl, *]; done) | (simp [*]; done)) | ((refine open_in ?_ ?_) <;> first | ((refine run ?_); conv => whnf) | kernel_rfl) | exact eqs | (intro _; rfl))
            all_goals (refine ret_eq ?_ (by rfl); simp [hcv])
  · refine sy_call (X := Sx0) (fun _ => false) [] [] (fn := Tryd.f4) Tryd.func4 rfl (by decide) rfl rfl ?_
    repeat' (first | ((refine run ?_); conv => whnf) | with_reducible refine split_nt (by assumption) ?_ | with_reducible refine split_nf (by assumption) ?_ | with_reducible refine split_ht (by assumption) ?_ | with_reducible refine split_hf (by assumption) ?_ | ((first | with_reducible refine split_neg (fun hc => ?_) (fun hc => ?_) | refine split (fun hc => ?_) (fun hc => ?_)) <;> (try simp only [bsl, true_implies, false_implies, Int.reduceEq, Int.reduceLT, Int.reduceLE, Nat.reduceLT, Nat.reduceEqDiff] at hc) <;> (try (exfalso; omega)) <;> (try exact (bool_tf hc (by assumption)).elim) <;> (try exact (bool_ft hc (by assumption)).elim)) | refine fact_in (fun hby => ?_) | refine un_rfl ?_ | refine stp ?_ | exact obs | with_reducible refine And.intro ?_ ?_ | refine nrm ?_ | apply row_eq | (apply cut_end <;> first | ((refine run ?_); conv => whnf) | exact obs) | (apply cut_drop <;> first | ((refine run ?_); conv => whnf) | exact obs) | (apply cuts_end <;> first | ((refine run ?_); conv => whnf) | exact obs) | (apply cuts_drop <;> first | ((refine run ?_); conv => whnf) | exact obs) | (apply wrap_in <;> first | ((refine run ?_); conv => whnf) | exact obs | exact eqs) | refine stq ?_ | (apply callP_skip <;> first | ((refine run ?_); conv => whnf) | assumption | (simp only [bsl, *]; done) | (simp [*]; done)) | ((refine open_in ?_ ?_) <;> first | ((refine run ?_); conv => whnf) | kernel_rfl) | exact eqs | (intro _; rfl))
    refine ret_eq ?_ (by rfl); rfl
end Go.Proofs.YteenamolccbcfaaDoor.Ai
