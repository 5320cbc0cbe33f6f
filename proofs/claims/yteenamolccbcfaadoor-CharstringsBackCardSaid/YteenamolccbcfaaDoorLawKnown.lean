/- The statement CharstringsKnown, walked. Own work of this seat. -/
import Derived.Test.YteenamolccbcfaaDoorKnownP
namespace Go.Proofs.YteenamolccbcfaaDoor.Ai
open Go
set_option linter.unusedSimpArgs false
set_option linter.unusedVariables false
set_option maxHeartbeats 4000000
set_option maxRecDepth 100000
attribute [local irreducible] decodeL
theorem set_fill {i : Nat} {K : List (List AVal) → Prop} (h : i < 131074) (hk : Run (K ((fillS (i + 1)).map bytesRow))) : HSetR ((fillS i).map bytesRow) i [.int .u8 97] K := by
  unfold HSetR; exact ⟨_, fill_set h, run' hk⟩
theorem lawKnown : CallF Cx 6 [] [] (.bool true) [] := by
  have hrep : (List.replicate 131074 ([.int .u8 0] : List AVal)).length = 131074 := List.length_replicate
  have hfl : (((fillS 0).map bytesRow)).length = 131074 := by rw [List.length_map]; exact fill_len (by decide)
  refine sy_call (X := Sx0) (fun _ => false) [1004] [] (fn := Tryd.f6) Tryd.func6 rfl (by decide) rfl rfl ?_
  repeat' (first | ((refine run ?_); conv => whnf) | with_reducible refine split_nt (by assumption) ?_ | with_reducible refine split_nf (by assumption) ?_ | with_reducible refine split_ht (by assumption) ?_ | with_reducible refine split_hf (by assumption) ?_ | ((first | with_reducible refine split_neg (fun hc => ?_) (fun hc => ?_) | refine split (fun hc => ?_) (fun hc => ?_)) <;> (try simp only [bsl, true_implies, false_implies, Int.reduceEq, Int.reduceLT, Int.reduceLE, Nat.reduceLT, Nat.reduceEqDiff] at hc) <;> (try (exfalso; omega)) <;> (try exact (bool_tf hc (by assumption)).elim) <;> (try exact (bool_ft hc (by assumption)).elim)) | refine fact_in (fun hby => ?_) | refine un_rfl ?_ | refine stp ?_ | exact obs | with_reducible refine And.intro ?_ ?_ | refine nrm ?_ | apply row_eq | (apply cut_end <;> first | ((refine run ?_); conv => whnf) | exact obs) | (apply cut_drop <;> first | ((refine run ?_); conv => whnf) | exact obs) | (apply cuts_end <;> first | ((refine run ?_); conv => whnf) | exact obs) | (apply cuts_drop <;> first | ((refine run ?_); conv => whnf) | exact obs) | (apply wrap_in <;> first | ((refine run ?_); conv => whnf) | exact obs | exact eqs) | refine stq ?_ | (apply callP_skip <;> first | ((refine run ?_); conv => whnf) | assumption | (simp only [bsl, *]; done) | (simp [*]; done)) | ((refine open_in ?_ ?_) <;> first | ((refine run ?_); conv => whnf) | kernel_rfl) | exact eqs | (intro _; rfl))
  refine loop_rule (α := Nat) [1] 0 (fun k => [.int .i64 k]) (fun k => []) (fun k => k ≤ 256) (fun k => 256 - k) (0) (fun _ => rfl) (by decide) ?_
  ((refine run ?_); conv => whnf)
  refine goal_in ⟨?_, fit_eq ?_, sto_take (n := 0) (Nat.le_of_ble_eq_true rfl) ?_⟩ (fun k hinv => ?_)
  · exact Nat.zero_le _
  · rfl
  · rfl
  by_cases hk : k < 256
  · have ek : ((UInt8.ofNat k).toNat : Int) = k := by rw [UInt8.toNat_ofNat', Nat.mod_eq_of_lt (by omega)]
    have er : bytesRow (UInt8.ofNat k) = [.int .u8 k] := by simp only [bytesRow, ek]
    have e0 : bytesRow 0 = [.int .u8 0] := rfl
    have c1 : ∀ n : Int, Con Sx0 3 [.int .u32 n, .slc 1 [[.int .u8 k]] (some 1)] True (.bool true) := fun n => con0 (by rw [← er]; exact lawGet n [UInt8.ofNat k] (some 1))
    have c2 : ∀ n : Int, Con Sx0 3 [.int .u32 n, .slc 1 [[.int .u8 k], [.int .u8 0]] (some 2)] True (.bool true) := fun n => con0 (by rw [← er]; exact lawGet n [UInt8.ofNat k, 0] (some 2))
    have c3 : ∀ n : Int, Con Sx0 3 [.int .u32 n, .slc 1 [[.int .u8 0], [.int .u8 k]] (some 2)] True (.bool true) := fun n => con0 (by rw [← er]; exact lawGet n [0, UInt8.ofNat k] (some 2))
    repeat' (first | ((refine run ?_); conv => whnf) | with_reducible refine split_nt (by assumption) ?_ | with_reducible refine split_nf (by assumption) ?_ | with_reducible refine split_ht (by assumption) ?_ | with_reducible refine split_hf (by assumption) ?_ | ((first | with_reducible refine split_neg (fun hc => ?_) (fun hc => ?_) | refine split (fun hc => ?_) (fun hc => ?_)) <;> (try simp only [bsl, true_implies, false_implies, Int.reduceEq, Int.reduceLT, Int.reduceLE, Nat.reduceLT, Nat.reduceEqDiff] at hc) <;> (try (exfalso; omega)) <;> (try exact (bool_tf hc (by assumption)).elim) <;> (try exact (bool_ft hc (by assumption)).elim)) | refine fact_in (fun hby => ?_) | refine un_rfl ?_ | refine stp ?_ | exact obs | with_reducible refine And.intro ?_ ?_ | refine nrm ?_ | apply row_eq | (apply cut_end <;> first | ((refine run ?_); conv => whnf) | exact obs) | (apply cut_drop <;> first | ((refine run ?_); conv => whnf) | exact obs) | (apply cuts_end <;> first | ((refine run ?_); conv => whnf) | exact obs) | (apply cuts_drop <;> first | ((refine run ?_); conv => whnf) | exact obs) | (apply wrap_in <;> first | ((refine run ?_); conv => whnf) | exact obs | exact eqs) | refine stq ?_ | (apply callP_skip <;> first | ((refine run ?_); conv => whnf) | assumption | (simp only [bsl, *]; done) | (simp [*]; done)) | ((refine open_in ?_ ?_) <;> first | ((refine run ?_); conv => whnf) | kernel_rfl) | exact eqs | (intro _; rfl))
    refine loop_rule (α := Nat) [2] 0 (fun i => [.int .i64 i]) (fun i => []) (fun i => i ≤ 5) (fun i => 5 - i) (0) (fun _ => rfl) (by decide) ?_
    ((refine run ?_); conv => whnf)
    refine goal_in ⟨?_, fit_eq ?_, sto_take (n := 0) (Nat.le_of_ble_eq_true rfl) ?_⟩ (fun i hinv => ?_)
    · exact Nat.zero_le _
    · rfl
    · rfl
    by_cases hi : i < 5
    · repeat' (first | ((refine run ?_); conv => whnf) | with_reducible refine split_nt (by assumption) ?_ | with_reducible refine split_nf (by assumption) ?_ | with_reducible refine split_ht (by assumption) ?_ | with_reducible refine split_hf (by assumption) ?_ | ((first | with_reducible refine split_neg (fun hc => ?_) (fun hc => ?_) | refine split (fun hc => ?_) (fun hc => ?_)) <;> (try simp only [bsl, true_implies, false_implies, Int.reduceEq, Int.reduceLT, Int.reduceLE, Nat.reduceLT, Nat.reduceEqDiff] at hc) <;> (try (exfalso; omega)) <;> (try exact (bool_tf hc (by assumption)).elim) <;> (try exact (bool_ft hc (by assumption)).elim)) | refine fact_in (fun hby => ?_) | refine un_rfl ?_ | refine stp ?_ | exact obs | with_reducible refine And.intro ?_ ?_ | refine nrm ?_ | apply row_eq | (apply cut_end <;> first | ((refine run ?_); conv => whnf) | exact obs) | (apply cut_drop <;> first | ((refine run ?_); conv => whnf) | exact obs) | (apply cuts_end <;> first | ((refine run ?_); conv => whnf) | exact obs) | (apply cuts_drop <;> first | ((refine run ?_); conv => whnf) | exact obs) | (apply wrap_in <;> first | ((refine run ?_); conv => whnf) | exact obs | exact eqs) | refine stq ?_ | (apply callP_skip <;> first | ((refine run ?_); conv => whnf) | assumption | (simp only [bsl, *]; done) | (simp [*]; done)) | ((refine open_in ?_ ?_) <;> first | ((refine run ?_); conv => whnf) | kernel_rfl) | exact eqs | (intro _; rfl))
      all_goals
        refine meet_eq (i + 1) ?_ ?_ (Nat.le_of_ble_eq_true rfl) ?_
        · exact ⟨by dsimp only; omega, by dsimp only; omega⟩
        · simp
        · rfl
    · repeat' (first | ((refine run ?_); conv => whnf) | with_reducible refine split_nt (by assumption) ?_ | with_reducible refine split_nf (by assumption) ?_ | with_reducible refine split_ht (by assumption) ?_ | with_reducible refine split_hf (by assumption) ?_ | ((first | with_reducible refine split_neg (fun hc => ?_) (fun hc => ?_) | refine split (fun hc => ?_) (fun hc => ?_)) <;> (try simp only [bsl, true_implies, false_implies, Int.reduceEq, Int.reduceLT, Int.reduceLE, Nat.reduceLT, Nat.reduceEqDiff] at hc) <;> (try (exfalso; omega)) <;> (try exact (bool_tf hc (by assumption)).elim) <;> (try exact (bool_ft hc (by assumption)).elim)) | refine fact_in (fun hby => ?_) | refine un_rfl ?_ | refine stp ?_ | exact obs | with_reducible refine And.intro ?_ ?_ | refine nrm ?_ | apply row_eq | (apply cut_end <;> first | ((refine run ?_); conv => whnf) | exact obs) | (apply cut_drop <;> first | ((refine run ?_); conv => whnf) | exact obs) | (apply cuts_end <;> first | ((refine run ?_); conv => whnf) | exact obs) | (apply cuts_drop <;> first | ((refine run ?_); conv => whnf) | exact obs) | (apply wrap_in <;> first | ((refine run ?_); conv => whnf) | exact obs | exact eqs) | refine stq ?_ | (apply callP_skip <;> first | ((refine run ?_); conv => whnf) | assumption | (simp only [bsl, *]; done) | (simp [*]; done)) | ((refine open_in ?_ ?_) <;> first | ((refine run ?_); conv => whnf) | kernel_rfl) | exact eqs | (intro _; rfl))
      all_goals
        refine meet_eq (k + 1) ?_ ?_ (Nat.le_of_ble_eq_true rfl) ?_
        · exact ⟨by dsimp only; omega, by dsimp only; omega⟩
        · simp
        · rfl
  · repeat' (first | ((refine run ?_); conv => whnf) | with_reducible refine split_nt (by assumption) ?_ | with_reducible refine split_nf (by assumption) ?_ | with_reducible refine split_ht (by assumption) ?_ | with_reducible refine split_hf (by assumption) ?_ | ((first | with_reducible refine split_neg (fun hc => ?_) (fun hc => ?_) | refine split (fun hc => ?_) (fun hc => ?_)) <;> (try simp only [bsl, true_implies, false_implies, Int.reduceEq, Int.reduceLT, Int.reduceLE, Nat.reduceLT, Nat.reduceEqDiff] at hc) <;> (try (exfalso; omega)) <;> (try exact (bool_tf hc (by assumption)).elim) <;> (try exact (bool_ft hc (by assumption)).elim)) | refine fact_in (fun hby => ?_) | refine un_rfl ?_ | refine stp ?_ | exact obs | with_reducible refine And.intro ?_ ?_ | refine nrm ?_ | apply row_eq | (apply cut_end <;> first | ((refine run ?_); conv => whnf) | exact obs) | (apply cut_drop <;> first | ((refine run ?_); conv => whnf) | exact obs) | (apply cuts_end <;> first | ((refine run ?_); conv => whnf) | exact obs) | (apply cuts_drop <;> first | ((refine run ?_); conv => whnf) | exact obs) | (apply wrap_in <;> first | ((refine run ?_); conv => whnf) | exact obs | exact eqs) | refine stq ?_ | (apply callP_skip <;> first | ((refine run ?_); conv => whnf) | assumption | (simp only [bsl, *]; done) | (simp [*]; done)) | ((refine open_in ?_ ?_) <;> first | ((refine run ?_); conv => whnf) | kernel_rfl) | exact eqs | (intro _; rfl))
    refine join_rule (α := Unit) [3] [3] 1 (fun u => [.slc 1 ((aS 131074).map bytesRow) (some 131074)]) (fun u => [.gone]) (fun u => True) (fun _ => rfl) (by decide) ?_
    ((refine run ?_); conv => whnf)
    refine goal_run ?_ (fun u hinv => ?_)
    · repeat' (first | ((refine run ?_); conv => whnf) | with_reducible refine split_nt (by assumption) ?_ | with_reducible refine split_nf (by assumption) ?_ | with_reducible refine split_ht (by assumption) ?_ | with_reducible refine split_hf (by assumption) ?_ | ((first | with_reducible refine split_neg (fun hc => ?_) (fun hc => ?_) | refine split (fun hc => ?_) (fun hc => ?_)) <;> (try simp only [bsl, true_implies, false_implies, Int.reduceEq, Int.reduceLT, Int.reduceLE, Nat.reduceLT, Nat.reduceEqDiff] at hc) <;> (try (exfalso; omega)) <;> (try exact (bool_tf hc (by assumption)).elim) <;> (try exact (bool_ft hc (by assumption)).elim)) | refine fact_in (fun hby => ?_) | refine un_rfl ?_ | refine stp ?_ | exact obs | with_reducible refine And.intro ?_ ?_ | refine nrm ?_ | apply row_eq | (apply cut_end <;> first | ((refine run ?_); conv => whnf) | exact obs) | (apply cut_drop <;> first | ((refine run ?_); conv => whnf) | exact obs) | (apply cuts_end <;> first | ((refine run ?_); conv => whnf) | exact obs) | (apply cuts_drop <;> first | ((refine run ?_); conv => whnf) | exact obs) | (apply wrap_in <;> first | ((refine run ?_); conv => whnf) | exact obs | exact eqs) | refine stq ?_ | (apply callP_skip <;> first | ((refine run ?_); conv => whnf) | assumption | (simp only [bsl, *]; done) | (simp [*]; done)) | ((refine open_in ?_ ?_) <;> first | ((refine run ?_); conv => whnf) | kernel_rfl) | exact eqs | (intro _; rfl))
      refine loop_rule (α := Nat) [4] 1 (fun i => [.int .i64 i]) (fun i => [.buf 5 1 ((fillS i).map bytesRow) (some 131074)]) (fun i => i ≤ 131074) (fun i => 131074 - i) (0) (fun _ => rfl) (by decide) ?_
      ((refine run ?_); conv => whnf)
      refine goal_in ⟨?_, fit_eq ?_, sto_take (n := 1) (Nat.le_of_ble_eq_true rfl) ?_⟩ (fun i hinv => ?_)
      · exact Nat.zero_le _
      · rfl
      · exact congrArg (fun r => [SB.buf 5 1 r (some 131074)]) fill_0.symm
      have hl : ((fillS i).map bytesRow).length = 131074 := by rw [List.length_map]; exact fill_len hinv
      by_cases hi : i < 131074
      · have hl2 : i < (fillS i).length := by rw [fill_len hinv]; exact hi
        repeat' (first | ((refine run ?_); conv => whnf) | with_reducible refine split_nt (by assumption) ?_ | with_reducible refine split_nf (by assumption) ?_ | with_reducible refine split_ht (by assumption) ?_ | with_reducible refine split_hf (by assumption) ?_ | ((first | with_reducible refine split_neg (fun hc => ?_) (fun hc => ?_) | refine split (fun hc => ?_) (fun hc => ?_)) <;> (try simp only [bsl, true_implies, false_implies, Int.reduceEq, Int.reduceLT, Int.reduceLE, Nat.reduceLT, Nat.reduceEqDiff] at hc) <;> (try (exfalso; omega)) <;> (try exact (bool_tf hc (by assumption)).elim) <;> (try exact (bool_ft hc (by assumption)).elim)) | refine set_fill (by omega) ?_ | refine fact_in (fun hby => ?_) | refine un_rfl ?_ | refine stp ?_ | exact obs | with_reducible refine And.intro ?_ ?_ | refine nrm ?_ | apply row_eq | (apply cut_end <;> first | ((refine run ?_); conv => whnf) | exact obs) | (apply cut_drop <;> first | ((refine run ?_); conv => whnf) | exact obs) | (apply cuts_end <;> first | ((refine run ?_); conv => whnf) | exact obs) | (apply cuts_drop <;> first | ((refine run ?_); conv => whnf) | exact obs) | (apply wrap_in <;> first | ((refine run ?_); conv => whnf) | exact obs | exact eqs) | refine stq ?_ | (apply callP_skip <;> first | ((refine run ?_); conv => whnf) | assumption | (simp only [bsl, *]; done) | (simp [*]; done)) | ((refine open_in ?_ ?_) <;> first | ((refine run ?_); conv => whnf) | kernel_rfl) | exact eqs | (intro _; rfl))
        all_goals
          refine meet_eq (i + 1) ?_ ?_ (Nat.le_of_ble_eq_true rfl) ?_
          · exact ⟨by dsimp only; omega, by dsimp only; omega⟩
          · simp
          · rfl
      · have he : i = 131074 := by omega
        subst he
        repeat' (first | ((refine run ?_); conv => whnf) | with_reducible refine split_nt (by assumption) ?_ | with_reducible refine split_nf (by assumption) ?_ | with_reducible refine split_ht (by assumption) ?_ | with_reducible refine split_hf (by assumption) ?_ | ((first | with_reducible refine split_neg (fun hc => ?_) (fun hc => ?_) | refine split (fun hc => ?_) (fun hc => ?_)) <;> (try simp only [bsl, true_implies, false_implies, Int.reduceEq, Int.reduceLT, Int.reduceLE, Nat.reduceLT, Nat.reduceEqDiff] at hc) <;> (try (exfalso; omega)) <;> (try exact (bool_tf hc (by assumption)).elim) <;> (try exact (bool_ft hc (by assumption)).elim)) | refine fact_in (fun hby => ?_) | refine un_rfl ?_ | refine stp ?_ | exact obs | with_reducible refine And.intro ?_ ?_ | refine nrm ?_ | apply row_eq | (apply cut_end <;> first | ((refine run ?_); conv => whnf) | exact obs) | (apply cut_drop <;> first | ((refine run ?_); conv => whnf) | exact obs) | (apply cuts_end <;> first | ((refine run ?_); conv => whnf) | exact obs) | (apply cuts_drop <;> first | ((refine run ?_); conv => whnf) | exact obs) | (apply wrap_in <;> first | ((refine run ?_); conv => whnf) | exact obs | exact eqs) | refine stq ?_ | (apply callP_skip <;> first | ((refine run ?_); conv => whnf) | assumption | (simp only [bsl, *]; done) | (simp [*]; done)) | ((refine open_in ?_ ?_) <;> first | ((refine run ?_); conv => whnf) | kernel_rfl) | exact eqs | (intro _; rfl))
        rw [fill_end]
        refine meet_eq (()) ?_ ?_ (Nat.le_of_ble_eq_true rfl) ?_
        · trivial
        · rfl
        · rfl
    · clear hrep hfl
      have hl : ((aS 131074).map bytesRow).length = 131074 := by rw [List.length_map]; exact aS_len _
      have l1 := aS_len 65536
      have l2 := aS_len 131074
      have t1 : ∀ {m : Nat}, m ≤ 131074 → List.drop 0 (List.take m (aS 131074)) = aS m := fun h => by rw [aS_take h]; rfl
      have g1 : ∀ cap, Con Sx0 24 [.int .u32 22, .slc 1 ((List.drop 0 (List.take 65536 (aS 131074))).map bytesRow) cap] True (.tup [.agg [.int .u32 22, .str (aS 65536)], .int .i64 0]) := fun cap => con0 (by
        have := Get_call 22 (aS 65536) cap (by rw [aS_len]; decide)
        rw [aS_text22 (by decide), aS_get22 (by decide)] at this
        rw [t1 (by decide)]; exact this)
      have g2 : ∀ cap, Con Sx0 24 [.int .u32 22, .slc 1 ((List.drop 0 (List.take 65537 (aS 131074))).map bytesRow) cap] True (.tup [.agg [.int .u32 0, .str []], .int .i64 3]) := fun cap => con0 (by
        have h := aS_get22 (n := 65537) (by decide)
        have h2 : getT 22 (aS 65537) = [] := by unfold getT; rw [h]; rfl
        have := Get_call 22 (aS 65537) cap (by rw [aS_len]; decide)
        rw [h2, h] at this
        rw [t1 (by decide)]; exact this)
      have g3 : ∀ cap, Con Sx0 24 [.int .u32 30, .slc 1 ((List.drop 0 (List.take 131072 (aS 131074))).map bytesRow) cap] True (.tup [.agg [.int .u32 0, .str []], .int .i64 3]) := fun cap => con0 (by
        have h : getE 30 (aS 131072) = 3 := aS_get30 (n := 65536) (by decide)
        have h2 : getT 30 (aS 131072) = [] := by unfold getT; rw [h]; rfl
        have := Get_call 30 (aS 131072) cap (by rw [aS_len]; decide)
        rw [h2, h] at this
        rw [t1 (by decide)]; exact this)
      have g4 : ∀ cap, Con Sx0 24 [.int .u32 30, .slc 1 ((aS 131074).map bytesRow) cap] True (.tup [.agg [.int .u32 0, .str []], .int .i64 3]) := fun cap => con0 (by
        have h : getE 30 (aS 131074) = 3 := aS_long (by decide)
        have h2 : getT 30 (aS 131074) = [] := by unfold getT; rw [h]; rfl
        have := Get_call 30 (aS 131074) cap (by rw [aS_len]; decide)
        rw [h2, h] at this
        exact this)
      have h5 : getE 30 (aS 43690) = 0 := aS_get30 (n := 21845) (by decide)
      have h5t : getT 30 (aS 43690) = encS (List.replicate 21845 24929) := aS_text30 (n := 21845) (by decide)
      obtain ⟨p1, p2, p3⟩ := get_put h5
      rw [h5t] at p1 p2 p3
      have hw := wide_len 21845
      have hcnt : cntI 30 (encS (List.replicate 21845 24929)) = 21845 := by
        unfold cntI
        rw [if_pos p1, decT_of (decS_enc fun c hc => by rw [List.eq_of_mem_replicate hc]; decide), List.length_replicate]; rfl
      generalize encS (List.replicate 21845 24929) = W at h5t p1 p2 p3 hw hcnt
      have g5 : ∀ cap, Con Sx0 24 [.int .u32 30, .slc 1 ((List.drop 0 (List.take 43690 (aS 131074))).map bytesRow) cap] True (.tup [.agg [.int .u32 30, .str W], .int .i64 0]) := fun cap => con0 (by
        have := Get_call 30 (aS 43690) cap (by rw [aS_len]; decide)
        rw [h5t, h5] at this
        rw [t1 (by decide)]; exact this)
      have g6 : ∀ cap, Con Sx0 24 [.int .u32 30, .slc 1 ((List.drop 0 (List.take 43692 (aS 131074))).map bytesRow) cap] True (.tup [.agg [.int .u32 0, .str []], .int .i64 3]) := fun cap => con0 (by
        have h : getE 30 (aS 43692) = 3 := aS_get30 (n := 21846) (by decide)
        have h2 : getT 30 (aS 43692) = [] := by unfold getT; rw [h]; rfl
        have := Get_call 30 (aS 43692) cap (by rw [aS_len]; decide)
        rw [h2, h] at this
        rw [t1 (by decide)]; exact this)
      have k1 : checkI 22 (aS 65536) = 0 := aS_check (by decide) (by decide) _
      have k2 : checkI 30 (aS 65536) = 0 := aS_check (by decide) (by decide) _
      have k3 : checkI 22 (aS 65536 ++ [97]) = 3 := by rw [aS_app]; exact aS_check (by decide) (by decide) _
      have k4 : kindsI (aS 65536 ++ [97]) 5 = [] := by rw [aS_app]; exact aS_kinds (by decide)
      have k5 : convE 22 (aS 65536) 30 = 0 := by unfold convE; rw [if_pos k1]; exact k2
      have k6 : (putR 30 (aS 65536)).length = 131072 := aS_put30 (by decide)
      have g7 : Con Sx0 21 [.agg [.int .u32 22, .str (aS 65536)], .int .u32 30] True (.tup [.agg [.int .u32 30, .str (aS 65536)], .int .i64 0]) := con0 (by
        have := Convert_call 22 30 (aS 65536) (by rw [aS_len]; decide)
        simp only [k5, if_true] at this
        exact this)
      generalize aS 65536 = A at *
      generalize aS 131074 = B at *
      repeat' (first | ((refine run ?_); conv => whnf) | with_reducible refine split_nt (by assumption) ?_ | with_reducible refine split_nf (by assumption) ?_ | with_reducible refine split_ht (by assumption) ?_ | with_reducible refine split_hf (by assumption) ?_ | ((first | with_reducible refine split_neg (fun hc => ?_) (fun hc => ?_) | refine split (fun hc => ?_) (fun hc => ?_)) <;> (try simp only [bsl, true_implies, false_implies, Int.reduceEq, Int.reduceLT, Int.reduceLE, Nat.reduceLT, Nat.reduceEqDiff] at hc) <;> (try (exfalso; omega)) <;> (try exact (bool_tf hc (by assumption)).elim) <;> (try exact (bool_ft hc (by assumption)).elim)) | refine fact_in (fun hby => ?_) | refine un_rfl ?_ | refine stp ?_ | exact obs | with_reducible refine And.intro ?_ ?_ | refine nrm ?_ | apply row_eq | (apply cut_end <;> first | ((refine run ?_); conv => whnf) | exact obs) | (apply cut_drop <;> first | ((refine run ?_); conv => whnf) | exact obs) | (apply cuts_end <;> first | ((refine run ?_); conv => whnf) | exact obs) | (apply cuts_drop <;> first | ((refine run ?_); conv => whnf) | exact obs) | (apply wrap_in <;> first | ((refine run ?_); conv => whnf) | exact obs | exact eqs) | refine stq ?_ | (apply callP_skip <;> first | ((refine run ?_); conv => whnf) | assumption | (simp only [bsl, *]; done) | (simp [*]; done)) | ((refine open_in ?_ ?_) <;> first | ((refine run ?_); conv => whnf) | kernel_rfl) | exact eqs | (intro _; rfl))
      all_goals first
        | (exfalso; simp [l1] at hc; done)
        | (refine ret_eq ?_ (by rfl); simp [hw, hcnt, k1, k3, k4, k2, k6])
end Go.Proofs.YteenamolccbcfaaDoor.Ai
