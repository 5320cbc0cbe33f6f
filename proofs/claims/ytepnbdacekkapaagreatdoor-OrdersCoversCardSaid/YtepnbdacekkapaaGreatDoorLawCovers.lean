/- The statement OrdersCovers: a set covers what the definition says, and lists that are no sets are refused. Own work of this seat. -/
import Derived.Test.YtepnbdacekkapaaGreatDoorCov37
import Derived.Test.YtepnbdacekkapaaGreatDoorMeets37
namespace Go.Proofs.YtepnbdacekkapaaGreatDoor.Ai
open Go
set_option linter.unusedSimpArgs false
set_option linter.unusedVariables false
set_option maxHeartbeats 4000000
set_option maxRecDepth 100000
theorem lawCovers (u : List Od) (c : Option Nat) (v : List Od) (d : Option Nat) (hu : ∀ k, k < u.length → okO (nth u k)) (hv : ∀ k, k < v.length → okO (nth v k)) : CallF Cx 7 [oids u c, oids v d] [] (.bool true) [] := by
  by_cases hlen : u.length ≤ 20 ∧ v.length ≤ 20
  · obtain ⟨n1, n2⟩ := hlen
    have h1 : okL u := ⟨by omega, hu⟩
    have h2 : okL v := ⟨by omega, hv⟩
    have hp : okL u ∧ okL v := ⟨h1, h2⟩
    have m1 : u.length ≤ 1000 := h1.1
    have m2 : v.length ≤ 1000 := h2.1
    have m3 : u.length ≤ 1000 ∧ v.length ≤ 1000 := ⟨m1, m2⟩
    refine sy_call (X := Sx0) (fun _ => false) [] [(8, 76, 18), (9, 76, 18)] (fn := Tryz.f7) Tryz.func7 rfl (by decide) rfl rfl ?_
    repeat' (first | ((refine run ?_); conv => whnf) | with_reducible refine split_nt (by assumption) ?_ | with_reducible refine split_nf (by assumption) ?_ | with_reducible refine split_ht (by assumption) ?_ | with_reducible refine split_hf (by assumption) ?_ | ((first | with_reducible refine split_neg (fun hc => ?_) (fun hc => ?_) | refine split (fun hc => ?_) (fun hc => ?_)) <;> (try simp only [bsl, true_implies, false_implies, Int.reduceEq, Int.reduceLT, Int.reduceLE, Nat.reduceLT, Nat.reduceEqDiff] at hc) <;> (try (exfalso; omega)) <;> (try exact (bool_tf hc (by assumption)).elim) <;> (try exact (bool_ft hc (by assumption)).elim)) | refine fact_in (fun hby => ?_) | refine un_rfl ?_ | refine stp ?_ | exact obs | with_reducible refine And.intro ?_ ?_ | refine nrm ?_ | apply row_eq | (apply cut_end <;> first | ((refine run ?_); conv => whnf) | exact obs) | (apply cut_drop <;> first | ((refine run ?_); conv => whnf) | exact obs) | (apply cuts_end <;> first | ((refine run ?_); conv => whnf) | exact obs) | (apply cuts_drop <;> first | ((refine run ?_); conv => whnf) | exact obs) | (apply wrap_in <;> first | ((refine run ?_); conv => whnf) | exact obs | exact eqs) | refine stq ?_ | (apply callP_skip <;> first | ((refine run ?_); conv => whnf) | assumption | (simp only [bsl, *]; done) | (simp [*]; done)) | ((refine open_in ?_ ?_) <;> first | ((refine run ?_); conv => whnf) | kernel_rfl) | exact eqs | (intro _; rfl))
    · refine ret_eq ?_ (by rfl); simp [covV, covE, *]
    · have e0 : covE u v = 0 := by unfold covE; rw [if_pos (by assumption : chkS u = 0)]; assumption
      have ev : covV u v = rcov u v := by unfold covV; rw [if_pos e0, rcov_eq]
      refine loop_rule (α := Nat) [8, 10] 2 (fun k => [.bsl 0 (u.take k).length, .int .i64 k]) (fun k => [.mk 76 18 ((u.take k).map grRow), .mk 76 18 []]) (fun k => k ≤ u.length) (fun k => u.length - k) (0) (fun _ => rfl) (by decide) ?_
      ((refine run ?_); conv => whnf)
      refine goal_in ⟨?_, fit_eq ?_, sto_take (n := 2) (Nat.le_of_ble_eq_true rfl) ?_⟩ (fun k hinv => ?_)
      · exact Nat.zero_le _
      · rfl
      · rfl
      have hlen : (u.take k).length ≤ 1000 := by rw [List.length_take]; omega
      by_cases hlt : k < u.length
      · have e := take_next hlt
        have e1 : (u.take (k + 1)).length = (u.take k).length + 1 := by rw [e]; simp
        repeat' (first | ((refine run ?_); conv => whnf) | with_reducible refine split_nt (by assumption) ?_ | with_reducible refine split_nf (by assumption) ?_ | with_reducible refine split_ht (by assumption) ?_ | with_reducible refine split_hf (by assumption) ?_ | ((first | with_reducible refine split_neg (fun hc => ?_) (fun hc => ?_) | refine split (fun hc => ?_) (fun hc => ?_)) <;> (try simp only [bsl, true_implies, false_implies, Int.reduceEq, Int.reduceLT, Int.reduceLE, Nat.reduceLT, Nat.reduceEqDiff] at hc) <;> (try (exfalso; omega)) <;> (try exact (bool_tf hc (by assumption)).elim) <;> (try exact (bool_ft hc (by assumption)).elim)) | refine fact_in (fun hby => ?_) | refine un_rfl ?_ | refine stp ?_ | exact obs | with_reducible refine And.intro ?_ ?_ | refine nrm ?_ | apply row_eq | (apply cut_end <;> first | ((refine run ?_); conv => whnf) | exact obs) | (apply cut_drop <;> first | ((refine run ?_); conv => whnf) | exact obs) | (apply cuts_end <;> first | ((refine run ?_); conv => whnf) | exact obs) | (apply cuts_drop <;> first | ((refine run ?_); conv => whnf) | exact obs) | (apply wrap_in <;> first | ((refine run ?_); conv => whnf) | exact obs | exact eqs) | refine stq ?_ | (apply callP_skip <;> first | ((refine run ?_); conv => whnf) | assumption | (simp only [bsl, *]; done) | (simp [*]; done)) | ((refine open_in ?_ ?_) <;> first | ((refine run ?_); conv => whnf) | kernel_rfl) | exact eqs | (intro _; rfl))
        refine meet_eq (k + 1) ?_ ?_ (Nat.le_of_ble_eq_true rfl) ?_
        · exact ⟨by dsimp only; omega, by dsimp only; omega⟩
        · rw [e1]; rfl
        · rw [e, List.map_append]; rfl
      · have eu : u.take k = u := List.take_of_length_le (by omega)
        repeat' (first | ((refine run ?_); conv => whnf) | with_reducible refine split_nt (by assumption) ?_ | with_reducible refine split_nf (by assumption) ?_ | with_reducible refine split_ht (by assumption) ?_ | with_reducible refine split_hf (by assumption) ?_ | ((first | with_reducible refine split_neg (fun hc => ?_) (fun hc => ?_) | refine split (fun hc => ?_) (fun hc => ?_)) <;> (try simp only [bsl, true_implies, false_implies, Int.reduceEq, Int.reduceLT, Int.reduceLE, Nat.reduceLT, Nat.reduceEqDiff] at hc) <;> (try (exfalso; omega)) <;> (try exact (bool_tf hc (by assumption)).elim) <;> (try exact (bool_ft hc (by assumption)).elim)) | refine fact_in (fun hby => ?_) | refine un_rfl ?_ | refine stp ?_ | exact obs | with_reducible refine And.intro ?_ ?_ | refine nrm ?_ | apply row_eq | (apply cut_end <;> first | ((refine run ?_); conv => whnf) | exact obs) | (apply cut_drop <;> first | ((refine run ?_); conv => whnf) | exact obs) | (apply cuts_end <;> first | ((refine run ?_); conv => whnf) | exact obs) | (apply cuts_drop <;> first | ((refine run ?_); conv => whnf) | exact obs) | (apply wrap_in <;> first | ((refine run ?_); conv => whnf) | exact obs | exact eqs) | refine stq ?_ | (apply callP_skip <;> first | ((refine run ?_); conv => whnf) | assumption | (simp only [bsl, *]; done) | (simp [*]; done)) | ((refine open_in ?_ ?_) <;> first | ((refine run ?_); conv => whnf) | kernel_rfl) | exact eqs | (intro _; rfl))
        refine loop_rule (α := Nat) [9, 11] 2 (fun j => [.bsl 1 (v.take j).length, .int .i64 j]) (fun j => [.mk 76 18 ((u.take k).map grRow), .mk 76 18 ((v.take j).map grRow)]) (fun j => j ≤ v.length) (fun j => v.length - j) (0) (fun _ => rfl) (by decide) ?_
        ((refine run ?_); conv => whnf)
        refine goal_in ⟨?_, fit_eq ?_, sto_take (n := 2) (Nat.le_of_ble_eq_true rfl) ?_⟩ (fun j hinv => ?_)
        · exact Nat.zero_le _
        · rfl
        · rfl
        have hlen2 : (v.take j).length ≤ 1000 := by rw [List.length_take]; omega
        by_cases hlj : j < v.length
        · have e := take_next hlj
          have e1 : (v.take (j + 1)).length = (v.take j).length + 1 := by rw [e]; simp
          repeat' (first | ((refine run ?_); conv => whnf) | with_reducible refine split_nt (by assumption) ?_ | with_reducible refine split_nf (by assumption) ?_ | with_reducible refine split_ht (by assumption) ?_ | with_reducible refine split_hf (by assumption) ?_ | ((first | with_reducible refine split_neg (fun hc => ?_) (fun hc => ?_) | refine split (fun hc => ?_) (fun hc => ?_)) <;> (try simp only [bsl, true_implies, false_implies, Int.reduceEq, Int.reduceLT, Int.reduceLE, Nat.reduceLT, Nat.reduceEqDiff] at hc) <;> (try (exfalso; omega)) <;> (try exact (bool_tf hc (by assumption)).elim) <;> (try exact (bool_ft hc (by assumption)).elim)) | refine fact_in (fun hby => ?_) | refine un_rfl ?_ | refine stp ?_ | exact obs | with_reducible refine And.intro ?_ ?_ | refine nrm ?_ | apply row_eq | (apply cut_end <;> first | ((refine run ?_); conv => whnf) | exact obs) | (apply cut_drop <;> first | ((refine run ?_); conv => whnf) | exact obs) | (apply cuts_end <;> first | ((refine run ?_); conv => whnf) | exact obs) | (apply cuts_drop <;> first | ((refine run ?_); conv => whnf) | exact obs) | (apply wrap_in <;> first | ((refine run ?_); conv => whnf) | exact obs | exact eqs) | refine stq ?_ | (apply callP_skip <;> first | ((refine run ?_); conv => whnf) | assumption | (simp only [bsl, *]; done) | (simp [*]; done)) | ((refine open_in ?_ ?_) <;> first | ((refine run ?_); conv => whnf) | kernel_rfl) | exact eqs | (intro _; rfl))
          refine meet_eq (j + 1) ?_ ?_ (Nat.le_of_ble_eq_true rfl) ?_
          · exact ⟨by dsimp only; omega, by dsimp only; omega⟩
          · rw [e1]; rfl
          · rw [e, List.map_append]; rfl
        · have e : v.take j = v := List.take_of_length_le (by omega)
          have m4 : (u.take k).length ≤ 1000 ∧ (v.take j).length ≤ 1000 := ⟨hlen, hlen2⟩
          repeat' (first | ((refine run ?_); conv => whnf) | with_reducible refine split_nt (by assumption) ?_ | with_reducible refine split_nf (by assumption) ?_ | with_reducible refine split_ht (by assumption) ?_ | with_reducible refine split_hf (by assumption) ?_ | ((first | with_reducible refine split_neg (fun hc => ?_) (fun hc => ?_) | refine split (fun hc => ?_) (fun hc => ?_)) <;> (try simp only [bsl, true_implies, false_implies, Int.reduceEq, Int.reduceLT, Int.reduceLE, Nat.reduceLT, Nat.reduceEqDiff] at hc) <;> (try (exfalso; omega)) <;> (try exact (bool_tf hc (by assumption)).elim) <;> (try exact (bool_ft hc (by assumption)).elim)) | refine fact_in (fun hby => ?_) | refine un_rfl ?_ | refine stp ?_ | exact obs | with_reducible refine And.intro ?_ ?_ | refine nrm ?_ | apply row_eq | (apply cut_end <;> first | ((refine run ?_); conv => whnf) | exact obs) | (apply cut_drop <;> first | ((refine run ?_); conv => whnf) | exact obs) | (apply cuts_end <;> first | ((refine run ?_); conv => whnf) | exact obs) | (apply cuts_drop <;> first | ((refine run ?_); conv => whnf) | exact obs) | (apply wrap_in <;> first | ((refine run ?_); conv => whnf) | exact obs | exact eqs) | refine stq ?_ | (apply callP_skip <;> first | ((refine run ?_); conv => whnf) | assumption | (simp only [bsl, *]; done) | (simp [*]; done)) | ((refine open_in ?_ ?_) <;> first | ((refine run ?_); conv => whnf) | kernel_rfl) | exact eqs | (intro _; rfl))
          refine ret_eq ?_ (by rfl); rw [e, eu]; simp [e0, ev, rcov_eq]
    · refine ret_eq ?_ (by rfl); simp [covV, covE, *]
  · refine sy_call (X := Sx0) (fun _ => false) [] [] (fn := Tryz.f7) Tryz.func7 rfl (by decide) rfl rfl ?_
    repeat' (first | ((refine run ?_); conv => whnf) | with_reducible refine split_nt (by assumption) ?_ | with_reducible refine split_nf (by assumption) ?_ | with_reducible refine split_ht (by assumption) ?_ | with_reducible refine split_hf (by assumption) ?_ | ((first | with_reducible refine split_neg (fun hc => ?_) (fun hc => ?_) | refine split (fun hc => ?_) (fun hc => ?_)) <;> (try simp only [bsl, true_implies, false_implies, Int.reduceEq, Int.reduceLT, Int.reduceLE, Nat.reduceLT, Nat.reduceEqDiff] at hc) <;> (try (exfalso; omega)) <;> (try exact (bool_tf hc (by assumption)).elim) <;> (try exact (bool_ft hc (by assumption)).elim)) | refine fact_in (fun hby => ?_) | refine un_rfl ?_ | refine stp ?_ | exact obs | with_reducible refine And.intro ?_ ?_ | refine nrm ?_ | apply row_eq | (apply cut_end <;> first | ((refine run ?_); conv => whnf) | exact obs) | (apply cut_drop <;> first | ((refine run ?_); conv => whnf) | exact obs) | (apply cuts_end <;> first | ((refine run ?_); conv => whnf) | exact obs) | (apply cuts_drop <;> first | ((refine run ?_); conv => whnf) | exact obs) | (apply wrap_in <;> first | ((refine run ?_); conv => whnf) | exact obs | exact eqs) | refine stq ?_ | (apply callP_skip <;> first | ((refine run ?_); conv => whnf) | assumption | (simp only [bsl, *]; done) | (simp [*]; done)) | ((refine open_in ?_ ?_) <;> first | ((refine run ?_); conv => whnf) | kernel_rfl) | exact eqs | (intro _; rfl))
    refine ret_eq ?_ (by rfl); rfl
end Go.Proofs.YtepnbdacekkapaaGreatDoor.Ai
