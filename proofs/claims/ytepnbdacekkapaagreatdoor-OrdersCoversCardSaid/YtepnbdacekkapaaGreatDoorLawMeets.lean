/- The statement OrdersMeets: needs that are not valid, and lists that are no sets, are refused; others are met by what the definition says. Own work of this seat. -/
import Derived.Test.YtepnbdacekkapaaGreatDoorMeets37
namespace Go.Proofs.YtepnbdacekkapaaGreatDoor.Ai
open Go
set_option linter.unusedSimpArgs false
set_option linter.unusedVariables false
set_option maxHeartbeats 4000000
set_option maxRecDepth 100000
noncomputable def metK (al fr : Bool) (l u : List Od) (k : Nat) : Bool := (al || (fr && decide (0 < (u.length : Int)))) || (u.take k).any fun p => decide (0 < (l.length : Int)) && inO l p
theorem metK_0 {al fr : Bool} {l u : List Od} : metK al fr l u 0 = (al || (fr && decide (0 < (u.length : Int)))) := by simp [metK]
theorem metK_s {al fr : Bool} {l u : List Od} {k : Nat} (h : k < u.length) : metK al fr l u (k + 1) = (metK al fr l u k || (decide (0 < (l.length : Int)) && (isO (nth u k) anyO || l.any (isO (nth u k))))) := by
  unfold metK
  rw [List.take_add_one, nth_some h]
  simp [List.any_append, inO, Bool.or_assoc]
theorem met_ok {nv al fr : Bool} {l u : List Od} (h : ¬ badN nv al fr l) (h0 : chkS u = 0) : metV nv al fr l u = metK al fr l u u.length := by
  have e : chkN nv al fr l = 0 := if_neg h
  have e2 : metE nv al fr l u = 0 := by unfold metE; rw [if_pos e, h0]
  have h1 : cntB (manyN nv al fr l) 4 = 1 := Classical.byContradiction fun hc => h (.inl hc)
  unfold metV metK
  rw [if_pos e2]
  simp only [manyN] at h1
  by_cases hl : 0 < l.length
  · simp only [hl] at h1
    have hl' : decide (0 < (l.length : Int)) = true := decide_eq_true (by omega)
    rw [hl']
    cases nv <;> cases al <;> cases fr <;> first | (exfalso; revert h1; decide) | simp
  · simp only [hl] at h1
    have hl' : decide (0 < (l.length : Int)) = false := decide_eq_false (by omega)
    rw [hl']
    cases nv <;> cases al <;> cases fr <;> first | (exfalso; revert h1; decide) | simp
theorem met_bad {nv al fr : Bool} {l u : List Od} (h : badN nv al fr l) : metE nv al fr l u = 1 ∧ metV nv al fr l u = false := by
  have e : chkN nv al fr l = 1 := if_pos h
  have e2 : metE nv al fr l u = 1 := by unfold metE; rw [if_neg (by rw [e]; decide), e]
  exact ⟨e2, by unfold metV; rw [if_neg (by rw [e2]; decide)]⟩
theorem met_set {nv al fr : Bool} {l u : List Od} (h : ¬ badN nv al fr l) : metE nv al fr l u = chkS u := by
  have e : chkN nv al fr l = 0 := if_neg h
  unfold metE; rw [if_pos e]
theorem met_no {nv al fr : Bool} {l u : List Od} (h : ¬ badN nv al fr l) (h0 : ¬ chkS u = 0) : metV nv al fr l u = false := by
  unfold metV; rw [if_neg (by rw [met_set h]; exact h0)]
theorem lawMeets (nv al fr : Bool) (l : List Od) (c : Option Nat) (u : List Od) (d : Option Nat) (hl : ∀ k, k < l.length → okO (nth l k)) (hu : ∀ k, k < u.length → okO (nth u k)) : CallF Cx 8 [needs nv al fr l c, oids u d] [] (.bool true) [] := by
  by_cases hlen : l.length ≤ 20 ∧ u.length ≤ 20
  · obtain ⟨n1, n2⟩ := hlen
    have h1 : okL l := ⟨by omega, hl⟩
    have h2 : okL u := ⟨by omega, hu⟩
    have hp : okL l ∧ okL u := ⟨h1, h2⟩
    have m1 : l.length ≤ 1000 := h1.1
    obtain ⟨bl, hbl⟩ : ∃ bl, bl = manyN nv al fr l := ⟨_, rfl⟩
    have hbn : bl.length = 4 := by rw [hbl]; rfl
    have hbm : [[.bool nv], [.bool al], [.bool fr], [.bool (decide (0 < (l.length : Int)))]] = bl.map bRow := by rw [hbl]; simp [manyN, bRow]
    refine sy_call (X := Sx0) (fun _ => false) [] [] (fn := Tryz.f8) Tryz.func8 rfl (by decide) rfl rfl ?_
    repeat' (first | ((refine run ?_); conv => whnf) | with_reducible refine split_nt (by assumption) ?_ | with_reducible refine split_nf (by assumption) ?_ | with_reducible refine split_ht (by assumption) ?_ | with_reducible refine split_hf (by assumption) ?_ | ((first | with_reducible refine split_neg (fun hc => ?_) (fun hc => ?_) | refine split (fun hc => ?_) (fun hc => ?_)) <;> (try simp only [bsl, true_implies, false_implies, Int.reduceEq, Int.reduceLT, Int.reduceLE, Nat.reduceLT, Nat.reduceEqDiff] at hc) <;> (try (exfalso; omega)) <;> (try exact (bool_tf hc (by assumption)).elim) <;> (try exact (bool_ft hc (by assumption)).elim)) | refine fact_in (fun hby => ?_) | refine un_rfl ?_ | refine stp ?_ | exact obs | with_reducible refine And.intro ?_ ?_ | refine nrm ?_ | apply row_eq | (apply cut_end <;> first | ((refine run ?_); conv => whnf) | exact obs) | (apply cut_drop <;> first | ((refine run ?_); conv => whnf) | exact obs) | (apply cuts_end <;> first | ((refine run ?_); conv => whnf) | exact obs) | (apply cuts_drop <;> first | ((refine run ?_); conv => whnf) | exact obs) | (apply wrap_in <;> first | ((refine run ?_); conv => whnf) | exact obs | exact eqs) | refine stq ?_ | (apply callP_skip <;> first | ((refine run ?_); conv => whnf) | assumption | (simp only [bsl, *]; done) | (simp [*]; done)) | ((refine open_in ?_ ?_) <;> first | ((refine run ?_); conv => whnf) | kernel_rfl) | exact eqs | (intro _; rfl))
    refine loop_rule (α := Nat) [5, 33, 34, 35] 1 (fun k => [.int .i64 (cntB bl k), .slc 1 (bl.map bRow) (some 4), .int .i64 4, .int .i64 k]) (fun k => [.cells 80 (needsB nv al fr l c)]) (fun k => k ≤ 4) (fun k => 4 - k) (0) (fun _ => rfl) (by decide) ?_
    ((refine run ?_); conv => whnf)
    refine goal_in ⟨?_, fit_eq ?_, sto_take (n := 1) (Nat.le_of_ble_eq_true rfl) ?_⟩ (fun k hinv => ?_)
    · exact Nat.zero_le _
    · rw [← hbm]; rfl
    · rfl
    have hb4 := cntB_le bl k
    by_cases hlt : k < 4
    · repeat' (first | ((refine run ?_); conv => whnf) | with_reducible refine split_nt (by assumption) ?_ | with_reducible refine split_nf (by assumption) ?_ | with_reducible refine split_ht (by assumption) ?_ | with_reducible refine split_hf (by assumption) ?_ | ((first | with_reducible refine split_neg (fun hc => ?_) (fun hc => ?_) | refine split (fun hc => ?_) (fun hc => ?_)) <;> (try simp only [bsl, true_implies, false_implies, Int.reduceEq, Int.reduceLT, Int.reduceLE, Nat.reduceLT, Nat.reduceEqDiff] at hc) <;> (try (exfalso; omega)) <;> (try exact (bool_tf hc (by assumption)).elim) <;> (try exact (bool_ft hc (by assumption)).elim)) | refine fact_in (fun hby => ?_) | refine un_rfl ?_ | refine stp ?_ | exact obs | with_reducible refine And.intro ?_ ?_ | refine nrm ?_ | apply row_eq | (apply cut_end <;> first | ((refine run ?_); conv => whnf) | exact obs) | (apply cut_drop <;> first | ((refine run ?_); conv => whnf) | exact obs) | (apply cuts_end <;> first | ((refine run ?_); conv => whnf) | exact obs) | (apply cuts_drop <;> first | ((refine run ?_); conv => whnf) | exact obs) | (apply wrap_in <;> first | ((refine run ?_); conv => whnf) | exact obs | exact eqs) | refine stq ?_ | (apply callP_skip <;> first | ((refine run ?_); conv => whnf) | assumption | (simp only [bsl, *]; done) | (simp [*]; done)) | ((refine open_in ?_ ?_) <;> first | ((refine run ?_); conv => whnf) | kernel_rfl) | exact eqs | (intro _; rfl))
      · refine meet_eq (k + 1) ?_ ?_ (Nat.le_of_ble_eq_true rfl) ?_
        · exact ⟨by dsimp only; omega, by dsimp only; omega⟩
        · rw [cntB_t hc]; rfl
        · rfl
      · refine meet_eq (k + 1) ?_ ?_ (Nat.le_of_ble_eq_true rfl) ?_
        · exact ⟨by dsimp only; omega, by dsimp only; omega⟩
        · rw [cntB_f hc]; rfl
        · rfl
    · have hk4 : k = 4 := by omega
      subst hk4
      repeat' (first | ((refine run ?_); conv => whnf) | with_reducible refine split_nt (by assumption) ?_ | with_reducible refine split_nf (by assumption) ?_ | with_reducible refine split_ht (by assumption) ?_ | with_reducible refine split_hf (by assumption) ?_ | ((first | with_reducible refine split_neg (fun hc => ?_) (fun hc => ?_) | refine split (fun hc => ?_) (fun hc => ?_)) <;> (try simp only [bsl, true_implies, false_implies, Int.reduceEq, Int.reduceLT, Int.reduceLE, Nat.reduceLT, Nat.reduceEqDiff] at hc) <;> (try (exfalso; omega)) <;> (try exact (bool_tf hc (by assumption)).elim) <;> (try exact (bool_ft hc (by assumption)).elim)) | refine fact_in (fun hby => ?_) | refine un_rfl ?_ | refine stp ?_ | exact obs | with_reducible refine And.intro ?_ ?_ | refine nrm ?_ | apply row_eq | (apply cut_end <;> first | ((refine run ?_); conv => whnf) | exact obs) | (apply cut_drop <;> first | ((refine run ?_); conv => whnf) | exact obs) | (apply cuts_end <;> first | ((refine run ?_); conv => whnf) | exact obs) | (apply cuts_drop <;> first | ((refine run ?_); conv => whnf) | exact obs) | (apply wrap_in <;> first | ((refine run ?_); conv => whnf) | exact obs | exact eqs) | refine stq ?_ | (apply callP_skip <;> first | ((refine run ?_); conv => whnf) | assumption | (simp only [bsl, *]; done) | (simp [*]; done)) | ((refine open_in ?_ ?_) <;> first | ((refine run ?_); conv => whnf) | kernel_rfl) | exact eqs | (intro _; rfl))
      · have hbad : badN nv al fr l := by
          unfold badN
          rw [← hbl]
          rcases hc with (hc | hc) | hc
          · exact .inl hc
          · exact .inr (.inl hc)
          · exact .inr (.inr hc)
        refine loop_rule (α := Nat) [9, 10] 1 (fun k => [.bool (metK al fr l u k), .int .i64 k]) (fun k => [.cells 80 (needsB nv al fr l c)]) (fun k => k ≤ u.length) (fun k => u.length - k) (0) (fun _ => rfl) (by decide) ?_
        ((refine run ?_); conv => whnf)
        refine goal_in ⟨?_, fit_eq ?_, sto_take (n := 1) (Nat.le_of_ble_eq_true rfl) ?_⟩ (fun k hinv => ?_)
        · exact Nat.zero_le _
        · dsimp only; rw [metK_0]; rfl
        · rfl
        by_cases hlt : k < u.length
        · have hq : (decide ((nth u k).n = anyO.n) && (decide ((nth u k).a0 = anyO.a0) && (decide ((nth u k).a1 = anyO.a1) && (decide ((nth u k).a2 = anyO.a2) && (decide ((nth u k).a3 = anyO.a3) && (decide ((nth u k).a4 = anyO.a4) && (decide ((nth u k).a5 = anyO.a5) && (decide ((nth u k).a6 = anyO.a6) && (decide ((nth u k).a7 = anyO.a7) && (decide ((nth u k).a8 = anyO.a8) && (decide ((nth u k).a9 = anyO.a9) && (decide ((nth u k).a10 = anyO.a10) && (decide ((nth u k).a11 = anyO.a11) && (decide ((nth u k).a12 = anyO.a12) && (decide ((nth u k).a13 = anyO.a13) && (decide ((nth u k).a14 = anyO.a14) && (decide ((nth u k).a15 = anyO.a15) && true))))))))))))))))) = isO (nth u k) anyO := od_dec (nth u k) anyO
          have hs := metK_s (al := al) (fr := fr) (l := l) hlt
          repeat' (first | ((refine run ?_); conv => whnf) | with_reducible refine split_nt (by assumption) ?_ | with_reducible refine split_nf (by assumption) ?_ | with_reducible refine split_ht (by assumption) ?_ | with_reducible refine split_hf (by assumption) ?_ | ((first | with_reducible refine split_neg (fun hc => ?_) (fun hc => ?_) | refine split (fun hc => ?_) (fun hc => ?_)) <;> (try simp only [bsl, true_implies, false_implies, Int.reduceEq, Int.reduceLT, Int.reduceLE, Nat.reduceLT, Nat.reduceEqDiff] at hc) <;> (try (exfalso; omega)) <;> (try exact (bool_tf hc (by assumption)).elim) <;> (try exact (bool_ft hc (by assumption)).elim)) | refine fact_in (fun hby => ?_) | refine un_rfl ?_ | refine stp ?_ | exact obs | with_reducible refine And.intro ?_ ?_ | refine nrm ?_ | apply row_eq | (apply cut_end <;> first | ((refine run ?_); conv => whnf) | exact obs) | (apply cut_drop <;> first | ((refine run ?_); conv => whnf) | exact obs) | (apply cuts_end <;> first | ((refine run ?_); conv => whnf) | exact obs) | (apply cuts_drop <;> first | ((refine run ?_); conv => whnf) | exact obs) | (apply wrap_in <;> first | ((refine run ?_); conv => whnf) | exact obs | exact eqs) | refine stq ?_ | (apply callP_skip <;> first | ((refine run ?_); conv => whnf) | assumption | (simp only [bsl, *]; done) | (simp [*]; done)) | ((refine open_in ?_ ?_) <;> first | ((refine run ?_); conv => whnf) | kernel_rfl) | exact eqs | (intro _; rfl))
          refine meet_eq (k + 1) ?_ ?_ (Nat.le_of_ble_eq_true rfl) ?_
          · exact ⟨by dsimp only; omega, by dsimp only; omega⟩
          · rw [hq, hs]; rfl
          · rfl
        · have hku : k = u.length := by omega
          subst hku
          repeat' (first | ((refine run ?_); conv => whnf) | with_reducible refine split_nt (by assumption) ?_ | with_reducible refine split_nf (by assumption) ?_ | with_reducible refine split_ht (by assumption) ?_ | with_reducible refine split_hf (by assumption) ?_ | ((first | with_reducible refine split_neg (fun hc => ?_) (fun hc => ?_) | refine split (fun hc => ?_) (fun hc => ?_)) <;> (try simp only [bsl, true_implies, false_implies, Int.reduceEq, Int.reduceLT, Int.reduceLE, Nat.reduceLT, Nat.reduceEqDiff] at hc) <;> (try (exfalso; omega)) <;> (try exact (bool_tf hc (by assumption)).elim) <;> (try exact (bool_ft hc (by assumption)).elim)) | refine fact_in (fun hby => ?_) | refine un_rfl ?_ | refine stp ?_ | exact obs | with_reducible refine And.intro ?_ ?_ | refine nrm ?_ | apply row_eq | (apply cut_end <;> first | ((refine run ?_); conv => whnf) | exact obs) | (apply cut_drop <;> first | ((refine run ?_); conv => whnf) | exact obs) | (apply cuts_end <;> first | ((refine run ?_); conv => whnf) | exact obs) | (apply cuts_drop <;> first | ((refine run ?_); conv => whnf) | exact obs) | (apply wrap_in <;> first | ((refine run ?_); conv => whnf) | exact obs | exact eqs) | refine stq ?_ | (apply callP_skip <;> first | ((refine run ?_); conv => whnf) | assumption | (simp only [bsl, *]; done) | (simp [*]; done)) | ((refine open_in ?_ ?_) <;> first | ((refine run ?_); conv => whnf) | kernel_rfl) | exact eqs | (intro _; rfl))
          all_goals (refine ret_eq ?_ (by rfl); rw [(met_bad hbad).1, (met_bad hbad).2]; simp)
      · have hgood : ¬ badN nv al fr l := by
          unfold badN
          rw [← hbl]
          rintro (h | h | h)
          · exact h hc.1.1
          · exact h hc.1.2
          · rw [hc.2] at h; cases h
        refine loop_rule (α := Nat) [9, 10] 1 (fun k => [.bool (metK al fr l u k), .int .i64 k]) (fun k => [.cells 80 (needsB nv al fr l c)]) (fun k => k ≤ u.length) (fun k => u.length - k) (0) (fun _ => rfl) (by decide) ?_
        ((refine run ?_); conv => whnf)
        refine goal_in ⟨?_, fit_eq ?_, sto_take (n := 1) (Nat.le_of_ble_eq_true rfl) ?_⟩ (fun k hinv => ?_)
        · exact Nat.zero_le _
        · dsimp only; rw [metK_0]; rfl
        · rfl
        by_cases hlt : k < u.length
        · have hq : (decide ((nth u k).n = anyO.n) && (decide ((nth u k).a0 = anyO.a0) && (decide ((nth u k).a1 = anyO.a1) && (decide ((nth u k).a2 = anyO.a2) && (decide ((nth u k).a3 = anyO.a3) && (decide ((nth u k).a4 = anyO.a4) && (decide ((nth u k).a5 = anyO.a5) && (decide ((nth u k).a6 = anyO.a6) && (decide ((nth u k).a7 = anyO.a7) && (decide ((nth u k).a8 = anyO.a8) && (decide ((nth u k).a9 = anyO.a9) && (decide ((nth u k).a10 = anyO.a10) && (decide ((nth u k).a11 = anyO.a11) && (decide ((nth u k).a12 = anyO.a12) && (decide ((nth u k).a13 = anyO.a13) && (decide ((nth u k).a14 = anyO.a14) && (decide ((nth u k).a15 = anyO.a15) && true))))))))))))))))) = isO (nth u k) anyO := od_dec (nth u k) anyO
          have hs := metK_s (al := al) (fr := fr) (l := l) hlt
          repeat' (first | ((refine run ?_); conv => whnf) | with_reducible refine split_nt (by assumption) ?_ | with_reducible refine split_nf (by assumption) ?_ | with_reducible refine split_ht (by assumption) ?_ | with_reducible refine split_hf (by assumption) ?_ | ((first | with_reducible refine split_neg (fun hc => ?_) (fun hc => ?_) | refine split (fun hc => ?_) (fun hc => ?_)) <;> (try simp only [bsl, true_implies, false_implies, Int.reduceEq, Int.reduceLT, Int.reduceLE, Nat.reduceLT, Nat.reduceEqDiff] at hc) <;> (try (exfalso; omega)) <;> (try exact (bool_tf hc (by assumption)).elim) <;> (try exact (bool_ft hc (by assumption)).elim)) | refine fact_in (fun hby => ?_) | refine un_rfl ?_ | refine stp ?_ | exact obs | with_reducible refine And.intro ?_ ?_ | refine nrm ?_ | apply row_eq | (apply cut_end <;> first | ((refine run ?_); conv => whnf) | exact obs) | (apply cut_drop <;> first | ((refine run ?_); conv => whnf) | exact obs) | (apply cuts_end <;> first | ((refine run ?_); conv => whnf) | exact obs) | (apply cuts_drop <;> first | ((refine run ?_); conv => whnf) | exact obs) | (apply wrap_in <;> first | ((refine run ?_); conv => whnf) | exact obs | exact eqs) | refine stq ?_ | (apply callP_skip <;> first | ((refine run ?_); conv => whnf) | assumption | (simp only [bsl, *]; done) | (simp [*]; done)) | ((refine open_in ?_ ?_) <;> first | ((refine run ?_); conv => whnf) | kernel_rfl) | exact eqs | (intro _; rfl))
          refine meet_eq (k + 1) ?_ ?_ (Nat.le_of_ble_eq_true rfl) ?_
          · exact ⟨by dsimp only; omega, by dsimp only; omega⟩
          · rw [hq, hs]; rfl
          · rfl
        · have hku : k = u.length := by omega
          subst hku
          repeat' (first | ((refine run ?_); conv => whnf) | with_reducible refine split_nt (by assumption) ?_ | with_reducible refine split_nf (by assumption) ?_ | with_reducible refine split_ht (by assumption) ?_ | with_reducible refine split_hf (by assumption) ?_ | ((first | with_reducible refine split_neg (fun hc => ?_) (fun hc => ?_) | refine split (fun hc => ?_) (fun hc => ?_)) <;> (try simp only [bsl, true_implies, false_implies, Int.reduceEq, Int.reduceLT, Int.reduceLE, Nat.reduceLT, Nat.reduceEqDiff] at hc) <;> (try (exfalso; omega)) <;> (try exact (bool_tf hc (by assumption)).elim) <;> (try exact (bool_ft hc (by assumption)).elim)) | refine fact_in (fun hby => ?_) | refine un_rfl ?_ | refine stp ?_ | exact obs | with_reducible refine And.intro ?_ ?_ | refine nrm ?_ | apply row_eq | (apply cut_end <;> first | ((refine run ?_); conv => whnf) | exact obs) | (apply cut_drop <;> first | ((refine run ?_); conv => whnf) | exact obs) | (apply cuts_end <;> first | ((refine run ?_); conv => whnf) | exact obs) | (apply cuts_drop <;> first | ((refine run ?_); conv => whnf) | exact obs) | (apply wrap_in <;> first | ((refine run ?_); conv => whnf) | exact obs | exact eqs) | refine stq ?_ | (apply callP_skip <;> first | ((refine run ?_); conv => whnf) | assumption | (simp only [bsl, *]; done) | (simp [*]; done)) | ((refine open_in ?_ ?_) <;> first | ((refine run ?_); conv => whnf) | kernel_rfl) | exact eqs | (intro _; rfl))
          all_goals (refine ret_eq ?_ (by rfl); rw [met_set hgood]; by_cases h0 : chkS u = 0 <;> first | simp [met_ok hgood h0, h0] | simp [met_no hgood h0, h0])
  · refine sy_call (X := Sx0) (fun _ => false) [] [] (fn := Tryz.f8) Tryz.func8 rfl (by decide) rfl rfl ?_
    repeat' (first | ((refine run ?_); conv => whnf) | with_reducible refine split_nt (by assumption) ?_ | with_reducible refine split_nf (by assumption) ?_ | with_reducible refine split_ht (by assumption) ?_ | with_reducible refine split_hf (by assumption) ?_ | ((first | with_reducible refine split_neg (fun hc => ?_) (fun hc => ?_) | refine split (fun hc => ?_) (fun hc => ?_)) <;> (try simp only [bsl, true_implies, false_implies, Int.reduceEq, Int.reduceLT, Int.reduceLE, Nat.reduceLT, Nat.reduceEqDiff] at hc) <;> (try (exfalso; omega)) <;> (try exact (bool_tf hc (by assumption)).elim) <;> (try exact (bool_ft hc (by assumption)).elim)) | refine fact_in (fun hby => ?_) | refine un_rfl ?_ | refine stp ?_ | exact obs | with_reducible refine And.intro ?_ ?_ | refine nrm ?_ | apply row_eq | (apply cut_end <;> first | ((refine run ?_); conv => whnf) | exact obs) | (apply cut_drop <;> first | ((refine run ?_); conv => whnf) | exact obs) | (apply cuts_end <;> first | ((refine run ?_); conv => whnf) | exact obs) | (apply cuts_drop <;> first | ((refine run ?_); conv => whnf) | exact obs) | (apply wrap_in <;> first | ((refine run ?_); conv => whnf) | exact obs | exact eqs) | refine stq ?_ | (apply callP_skip <;> first | ((refine run ?_); conv => whnf) | assumption | (simp only [bsl, *]; done) | (simp [*]; done)) | ((refine open_in ?_ ?_) <;> first | ((refine run ?_); conv => whnf) | kernel_rfl) | exact eqs | (intro _; rfl))
    refine ret_eq ?_ (by rfl); rfl
end Go.Proofs.YtepnbdacekkapaaGreatDoor.Ai
