/- The statement BoundsFormulas: the bounds, their sums and closed forms. Own work of this seat. -/
import Derived.Test.YtepnbdacekkapaaGreatDoorForm36
namespace Go.Proofs.YtepnbdacekkapaaGreatDoor.Ai
open Go
set_option linter.unusedSimpArgs false
set_option linter.unusedVariables false
set_option maxHeartbeats 4000000
set_option maxRecDepth 100000
def e36 (i p m : Int) : Int := if fitsP i p m then 0 else 1
def lv36 (i p m : Int) : Int := if fitsP i p m then levI i p m else 0
def in36 (i p m : Int) : Int := if fitsP i p m then intoI i p m else 0
def nd36 (i p m : Int) : Int := if fitsP i p m then levS p m (i.toNat + 1) else 0
def ed36 (i p m : Int) : Int := if fitsP i p m then intoS p m (i.toNat + 1) else 0
theorem Level_call (i p m : Int) : CallF Cx 9 [.int .i64 i, .int .i64 p, .int .i64 m] [] (.tup [.int .i64 (lv36 i p m), .int .i64 (e36 i p m)]) [] := by
  by_cases h : fitsP i p m
  · have e1 : lv36 i p m = levI i p m := if_pos h
    have e2 : e36 i p m = 0 := if_pos h
    have hd : decide (fitsP i p m) = true := decide_eq_true h
    have hb := levI_bd h
    rw [e1, e2]
    refine sy_call (X := Sx0) (fun _ => false) [] [] (fn := Tryz.f9) Tryz.func9 rfl (by decide) rfl rfl ?_
    repeat' (first | ((refine run ?_); conv => whnf) | with_reducible refine split_nt (by assumption) ?_ | with_reducible refine split_nf (by assumption) ?_ | with_reducible refine split_ht (by assumption) ?_ | with_reducible refine split_hf (by assumption) ?_ | ((first | with_reducible refine split_neg (fun hc => ?_) (fun hc => ?_) | refine split (fun hc => ?_) (fun hc => ?_)) <;> (try simp only [bsl, true_implies, false_implies, Int.reduceEq, Int.reduceLT, Int.reduceLE, Nat.reduceLT, Nat.reduceEqDiff] at hc) <;> (try (exfalso; omega)) <;> (try exact (bool_tf hc (by assumption)).elim) <;> (try exact (bool_ft hc (by assumption)).elim)) | refine fact_in (fun hby => ?_) | refine un_rfl ?_ | refine stp ?_ | exact obs | with_reducible refine And.intro ?_ ?_ | refine nrm ?_ | apply row_eq | (apply cut_end <;> first | ((refine run ?_); conv => whnf) | exact obs) | (apply cut_drop <;> first | ((refine run ?_); conv => whnf) | exact obs) | (apply cuts_end <;> first | ((refine run ?_); conv => whnf) | exact obs) | (apply cuts_drop <;> first | ((refine run ?_); conv => whnf) | exact obs) | (apply wrap_in <;> first | ((refine run ?_); conv => whnf) | exact obs | exact eqs) | refine stq ?_ | (apply callP_skip <;> first | ((refine run ?_); conv => whnf) | assumption | (simp only [bsl, *]; done) | (simp [*]; done)) | ((refine open_in ?_ ?_) <;> first | ((refine run ?_); conv => whnf) | kernel_rfl) | exact eqs | (intro _; rfl))
    all_goals first | (refine ret_eq ?_ (by rfl); rfl) | (exfalso; simp_all)
  · have e1 : lv36 i p m = 0 := if_neg h
    have e2 : e36 i p m = 1 := if_neg h
    have hd : decide (fitsP i p m) = false := decide_eq_false h
    rw [e1, e2]
    refine sy_call (X := Sx0) (fun _ => false) [] [] (fn := Tryz.f9) Tryz.func9 rfl (by decide) rfl rfl ?_
    repeat' (first | ((refine run ?_); conv => whnf) | with_reducible refine split_nt (by assumption) ?_ | with_reducible refine split_nf (by assumption) ?_ | with_reducible refine split_ht (by assumption) ?_ | with_reducible refine split_hf (by assumption) ?_ | ((first | with_reducible refine split_neg (fun hc => ?_) (fun hc => ?_) | refine split (fun hc => ?_) (fun hc => ?_)) <;> (try simp only [bsl, true_implies, false_implies, Int.reduceEq, Int.reduceLT, Int.reduceLE, Nat.reduceLT, Nat.reduceEqDiff] at hc) <;> (try (exfalso; omega)) <;> (try exact (bool_tf hc (by assumption)).elim) <;> (try exact (bool_ft hc (by assumption)).elim)) | refine fact_in (fun hby => ?_) | refine un_rfl ?_ | refine stp ?_ | exact obs | with_reducible refine And.intro ?_ ?_ | refine nrm ?_ | apply row_eq | (apply cut_end <;> first | ((refine run ?_); conv => whnf) | exact obs) | (apply cut_drop <;> first | ((refine run ?_); conv => whnf) | exact obs) | (apply cuts_end <;> first | ((refine run ?_); conv => whnf) | exact obs) | (apply cuts_drop <;> first | ((refine run ?_); conv => whnf) | exact obs) | (apply wrap_in <;> first | ((refine run ?_); conv => whnf) | exact obs | exact eqs) | refine stq ?_ | (apply callP_skip <;> first | ((refine run ?_); conv => whnf) | assumption | (simp only [bsl, *]; done) | (simp [*]; done)) | ((refine open_in ?_ ?_) <;> first | ((refine run ?_); conv => whnf) | kernel_rfl) | exact eqs | (intro _; rfl))
    all_goals first | (refine ret_eq ?_ (by rfl); rfl) | (exfalso; simp_all)
instance {i p m : Int} : Con Sx0 9 [.int .i64 i, .int .i64 p, .int .i64 m] True (.tup [.int .i64 (lv36 i p m), .int .i64 (e36 i p m)]) := con0 (Level_call i p m)
theorem Into_call (i p m : Int) : CallF Cx 10 [.int .i64 i, .int .i64 p, .int .i64 m] [] (.tup [.int .i64 (in36 i p m), .int .i64 (e36 i p m)]) [] := by
  by_cases h : fitsP i p m
  · have e1 : in36 i p m = intoI i p m := if_pos h
    have e2 : e36 i p m = 0 := if_pos h
    have hd : decide (fitsP i p m) = true := decide_eq_true h
    rw [e1, e2]
    refine sy_call (X := Sx0) (fun _ => false) [] [] (fn := Tryz.f10) Tryz.func10 rfl (by decide) rfl rfl ?_
    repeat' (first | ((refine run ?_); conv => whnf) | with_reducible refine split_nt (by assumption) ?_ | with_reducible refine split_nf (by assumption) ?_ | with_reducible refine split_ht (by assumption) ?_ | with_reducible refine split_hf (by assumption) ?_ | ((first | with_reducible refine split_neg (fun hc => ?_) (fun hc => ?_) | refine split (fun hc => ?_) (fun hc => ?_)) <;> (try simp only [bsl, true_implies, false_implies, Int.reduceEq, Int.reduceLT, Int.reduceLE, Nat.reduceLT, Nat.reduceEqDiff] at hc) <;> (try (exfalso; omega)) <;> (try exact (bool_tf hc (by assumption)).elim) <;> (try exact (bool_ft hc (by assumption)).elim)) | refine fact_in (fun hby => ?_) | refine un_rfl ?_ | refine stp ?_ | exact obs | with_reducible refine And.intro ?_ ?_ | refine nrm ?_ | apply row_eq | (apply cut_end <;> first | ((refine run ?_); conv => whnf) | exact obs) | (apply cut_drop <;> first | ((refine run ?_); conv => whnf) | exact obs) | (apply cuts_end <;> first | ((refine run ?_); conv => whnf) | exact obs) | (apply cuts_drop <;> first | ((refine run ?_); conv => whnf) | exact obs) | (apply wrap_in <;> first | ((refine run ?_); conv => whnf) | exact obs | exact eqs) | refine stq ?_ | (apply callP_skip <;> first | ((refine run ?_); conv => whnf) | assumption | (simp only [bsl, *]; done) | (simp [*]; done)) | ((refine open_in ?_ ?_) <;> first | ((refine run ?_); conv => whnf) | kernel_rfl) | exact eqs | (intro _; rfl))
    all_goals first | (refine ret_eq ?_ (by rfl); rfl) | (exfalso; simp_all)
  · have e1 : in36 i p m = 0 := if_neg h
    have e2 : e36 i p m = 1 := if_neg h
    have hd : decide (fitsP i p m) = false := decide_eq_false h
    rw [e1, e2]
    refine sy_call (X := Sx0) (fun _ => false) [] [] (fn := Tryz.f10) Tryz.func10 rfl (by decide) rfl rfl ?_
    repeat' (first | ((refine run ?_); conv => whnf) | with_reducible refine split_nt (by assumption) ?_ | with_reducible refine split_nf (by assumption) ?_ | with_reducible refine split_ht (by assumption) ?_ | with_reducible refine split_hf (by assumption) ?_ | ((first | with_reducible refine split_neg (fun hc => ?_) (fun hc => ?_) | refine split (fun hc => ?_) (fun hc => ?_)) <;> (try simp only [bsl, true_implies, false_implies, Int.reduceEq, Int.reduceLT, Int.reduceLE, Nat.reduceLT, Nat.reduceEqDiff] at hc) <;> (try (exfalso; omega)) <;> (try exact (bool_tf hc (by assumption)).elim) <;> (try exact (bool_ft hc (by assumption)).elim)) | refine fact_in (fun hby => ?_) | refine un_rfl ?_ | refine stp ?_ | exact obs | with_reducible refine And.intro ?_ ?_ | refine nrm ?_ | apply row_eq | (apply cut_end <;> first | ((refine run ?_); conv => whnf) | exact obs) | (apply cut_drop <;> first | ((refine run ?_); conv => whnf) | exact obs) | (apply cuts_end <;> first | ((refine run ?_); conv => whnf) | exact obs) | (apply cuts_drop <;> first | ((refine run ?_); conv => whnf) | exact obs) | (apply wrap_in <;> first | ((refine run ?_); conv => whnf) | exact obs | exact eqs) | refine stq ?_ | (apply callP_skip <;> first | ((refine run ?_); conv => whnf) | assumption | (simp only [bsl, *]; done) | (simp [*]; done)) | ((refine open_in ?_ ?_) <;> first | ((refine run ?_); conv => whnf) | kernel_rfl) | exact eqs | (intro _; rfl))
    all_goals first | (refine ret_eq ?_ (by rfl); rfl) | (exfalso; simp_all)
instance {i p m : Int} : Con Sx0 10 [.int .i64 i, .int .i64 p, .int .i64 m] True (.tup [.int .i64 (in36 i p m), .int .i64 (e36 i p m)]) := con0 (Into_call i p m)
theorem Nodes_call (i p m : Int) : CallF Cx 11 [.int .i64 i, .int .i64 p, .int .i64 m] [] (.tup [.int .i64 (nd36 i p m), .int .i64 (e36 i p m)]) [] := by
  by_cases h : fitsP i p m
  · obtain ⟨n, rfl⟩ : ∃ n : Nat, i = n := ⟨i.toNat, by have := h.1; omega⟩
    have e1 : nd36 n p m = levS p m (n + 1) := by unfold nd36; rw [if_pos h]; rfl
    have e2 : e36 n p m = 0 := if_pos h
    have hd : decide (fitsP n p m) = true := decide_eq_true h
    rw [e1, e2]
    refine sy_call (X := Sx0) (fun _ => false) [] [] (fn := Tryz.f11) Tryz.func11 rfl (by decide) rfl rfl ?_
    repeat' (first | ((refine run ?_); conv => whnf) | with_reducible refine split_nt (by assumption) ?_ | with_reducible refine split_nf (by assumption) ?_ | with_reducible refine split_ht (by assumption) ?_ | with_reducible refine split_hf (by assumption) ?_ | ((first | with_reducible refine split_neg (fun hc => ?_) (fun hc => ?_) | refine split (fun hc => ?_) (fun hc => ?_)) <;> (try simp only [bsl, true_implies, false_implies, Int.reduceEq, Int.reduceLT, Int.reduceLE, Nat.reduceLT, Nat.reduceEqDiff] at hc) <;> (try (exfalso; omega)) <;> (try exact (bool_tf hc (by assumption)).elim) <;> (try exact (bool_ft hc (by assumption)).elim)) | refine fact_in (fun hby => ?_) | refine un_rfl ?_ | refine stp ?_ | exact obs | with_reducible refine And.intro ?_ ?_ | refine nrm ?_ | apply row_eq | (apply cut_end <;> first | ((refine run ?_); conv => whnf) | exact obs) | (apply cut_drop <;> first | ((refine run ?_); conv => whnf) | exact obs) | (apply cuts_end <;> first | ((refine run ?_); conv => whnf) | exact obs) | (apply cuts_drop <;> first | ((refine run ?_); conv => whnf) | exact obs) | (apply wrap_in <;> first | ((refine run ?_); conv => whnf) | exact obs | exact eqs) | refine stq ?_ | (apply callP_skip <;> first | ((refine run ?_); conv => whnf) | assumption | (simp only [bsl, *]; done) | (simp [*]; done)) | ((refine open_in ?_ ?_) <;> first | ((refine run ?_); conv => whnf) | kernel_rfl) | exact eqs | (intro _; rfl))
    all_goals first | (refine ret_eq ?_ (by rfl); rfl) | (exfalso; simp_all)
  · have e1 : nd36 i p m = 0 := if_neg h
    have e2 : e36 i p m = 1 := if_neg h
    have hd : decide (fitsP i p m) = false := decide_eq_false h
    rw [e1, e2]
    refine sy_call (X := Sx0) (fun _ => false) [] [] (fn := Tryz.f11) Tryz.func11 rfl (by decide) rfl rfl ?_
    repeat' (first | ((refine run ?_); conv => whnf) | with_reducible refine split_nt (by assumption) ?_ | with_reducible refine split_nf (by assumption) ?_ | with_reducible refine split_ht (by assumption) ?_ | with_reducible refine split_hf (by assumption) ?_ | ((first | with_reducible refine split_neg (fun hc => ?_) (fun hc => ?_) | refine split (fun hc => ?_) (fun hc => ?_)) <;> (try simp only [bsl, true_implies, false_implies, Int.reduceEq, Int.reduceLT, Int.reduceLE, Nat.reduceLT, Nat.reduceEqDiff] at hc) <;> (try (exfalso; omega)) <;> (try exact (bool_tf hc (by assumption)).elim) <;> (try exact (bool_ft hc (by assumption)).elim)) | refine fact_in (fun hby => ?_) | refine un_rfl ?_ | refine stp ?_ | exact obs | with_reducible refine And.intro ?_ ?_ | refine nrm ?_ | apply row_eq | (apply cut_end <;> first | ((refine run ?_); conv => whnf) | exact obs) | (apply cut_drop <;> first | ((refine run ?_); conv => whnf) | exact obs) | (apply cuts_end <;> first | ((refine run ?_); conv => whnf) | exact obs) | (apply cuts_drop <;> first | ((refine run ?_); conv => whnf) | exact obs) | (apply wrap_in <;> first | ((refine run ?_); conv => whnf) | exact obs | exact eqs) | refine stq ?_ | (apply callP_skip <;> first | ((refine run ?_); conv => whnf) | assumption | (simp only [bsl, *]; done) | (simp [*]; done)) | ((refine open_in ?_ ?_) <;> first | ((refine run ?_); conv => whnf) | kernel_rfl) | exact eqs | (intro _; rfl))
    all_goals first | (refine ret_eq ?_ (by rfl); rfl) | (exfalso; simp_all)
instance {i p m : Int} : Con Sx0 11 [.int .i64 i, .int .i64 p, .int .i64 m] True (.tup [.int .i64 (nd36 i p m), .int .i64 (e36 i p m)]) := con0 (Nodes_call i p m)
theorem Edges_call (i p m : Int) : CallF Cx 12 [.int .i64 i, .int .i64 p, .int .i64 m] [] (.tup [.int .i64 (ed36 i p m), .int .i64 (e36 i p m)]) [] := by
  by_cases h : fitsP i p m
  · obtain ⟨n, rfl⟩ : ∃ n : Nat, i = n := ⟨i.toNat, by have := h.1; omega⟩
    have e1 : ed36 n p m = intoS p m (n + 1) := by unfold ed36; rw [if_pos h]; rfl
    have e2 : e36 n p m = 0 := if_pos h
    have hd : decide (fitsP n p m) = true := decide_eq_true h
    rw [e1, e2]
    refine sy_call (X := Sx0) (fun _ => false) [] [] (fn := Tryz.f12) Tryz.func12 rfl (by decide) rfl rfl ?_
    repeat' (first | ((refine run ?_); conv => whnf) | with_reducible refine split_nt (by assumption) ?_ | with_reducible refine split_nf (by assumption) ?_ | with_reducible refine split_ht (by assumption) ?_ | with_reducible refine split_hf (by assumption) ?_ | ((first | with_reducible refine split_neg (fun hc => ?_) (fun hc => ?_) | refine split (fun hc => ?_) (fun hc => ?_)) <;> (try simp only [bsl, true_implies, false_implies, Int.reduceEq, Int.reduceLT, Int.reduceLE, Nat.reduceLT, Nat.reduceEqDiff] at hc) <;> (try (exfalso; omega)) <;> (try exact (bool_tf hc (by assumption)).elim) <;> (try exact (bool_ft hc (by assumption)).elim)) | refine fact_in (fun hby => ?_) | refine un_rfl ?_ | refine stp ?_ | exact obs | with_reducible refine And.intro ?_ ?_ | refine nrm ?_ | apply row_eq | (apply cut_end <;> first | ((refine run ?_); conv => whnf) | exact obs) | (apply cut_drop <;> first | ((refine run ?_); conv => whnf) | exact obs) | (apply cuts_end <;> first | ((refine run ?_); conv => whnf) | exact obs) | (apply cuts_drop <;> first | ((refine run ?_); conv => whnf) | exact obs) | (apply wrap_in <;> first | ((refine run ?_); conv => whnf) | exact obs | exact eqs) | refine stq ?_ | (apply callP_skip <;> first | ((refine run ?_); conv => whnf) | assumption | (simp only [bsl, *]; done) | (simp [*]; done)) | ((refine open_in ?_ ?_) <;> first | ((refine run ?_); conv => whnf) | kernel_rfl) | exact eqs | (intro _; rfl))
    all_goals first | (refine ret_eq ?_ (by rfl); rfl) | (exfalso; simp_all)
  · have e1 : ed36 i p m = 0 := if_neg h
    have e2 : e36 i p m = 1 := if_neg h
    have hd : decide (fitsP i p m) = false := decide_eq_false h
    rw [e1, e2]
    refine sy_call (X := Sx0) (fun _ => false) [] [] (fn := Tryz.f12) Tryz.func12 rfl (by decide) rfl rfl ?_
    repeat' (first | ((refine run ?_); conv => whnf) | with_reducible refine split_nt (by assumption) ?_ | with_reducible refine split_nf (by assumption) ?_ | with_reducible refine split_ht (by assumption) ?_ | with_reducible refine split_hf (by assumption) ?_ | ((first | with_reducible refine split_neg (fun hc => ?_) (fun hc => ?_) | refine split (fun hc => ?_) (fun hc => ?_)) <;> (try simp only [bsl, true_implies, false_implies, Int.reduceEq, Int.reduceLT, Int.reduceLE, Nat.reduceLT, Nat.reduceEqDiff] at hc) <;> (try (exfalso; omega)) <;> (try exact (bool_tf hc (by assumption)).elim) <;> (try exact (bool_ft hc (by assumption)).elim)) | refine fact_in (fun hby => ?_) | refine un_rfl ?_ | refine stp ?_ | exact obs | with_reducible refine And.intro ?_ ?_ | refine nrm ?_ | apply row_eq | (apply cut_end <;> first | ((refine run ?_); conv => whnf) | exact obs) | (apply cut_drop <;> first | ((refine run ?_); conv => whnf) | exact obs) | (apply cuts_end <;> first | ((refine run ?_); conv => whnf) | exact obs) | (apply cuts_drop <;> first | ((refine run ?_); conv => whnf) | exact obs) | (apply wrap_in <;> first | ((refine run ?_); conv => whnf) | exact obs | exact eqs) | refine stq ?_ | (apply callP_skip <;> first | ((refine run ?_); conv => whnf) | assumption | (simp only [bsl, *]; done) | (simp [*]; done)) | ((refine open_in ?_ ?_) <;> first | ((refine run ?_); conv => whnf) | kernel_rfl) | exact eqs | (intro _; rfl))
    all_goals first | (refine ret_eq ?_ (by rfl); rfl) | (exfalso; simp_all)
instance {i p m : Int} : Con Sx0 12 [.int .i64 i, .int .i64 p, .int .i64 m] True (.tup [.int .i64 (ed36 i p m), .int .i64 (e36 i p m)]) := con0 (Edges_call i p m)
/-! Closed forms. -/
def tri : Nat → Int
  | 0 => 0
  | n + 1 => tri n + (n + 1)
def low : Nat → Int
  | 0 => 0
  | n + 1 => low n + n
theorem tri_two (n : Nat) : (n : Int) * (n + 1) = 2 * tri n := by
  induction n with
  | zero => simp [tri]
  | succ n ih =>
    simp only [tri, Int.natCast_add, Int.mul_add, Int.add_mul] at ih ⊢
    simp at ih ⊢
    omega
theorem low_two (n : Nat) : (n : Int) * (n - 1) = 2 * low n := by
  induction n with
  | zero => simp [low]
  | succ n ih =>
    simp only [low, Int.natCast_add, Int.mul_add, Int.add_mul, Int.mul_sub, Int.sub_mul] at ih ⊢
    simp at ih ⊢
    omega
theorem levS_closed (p m : Int) (n : Nat) : levS p m (n + 1) = n + 1 + (p + m) * tri n := by
  show sumU (fun j => levI j p m) (n + 1) = _
  induction n with
  | zero => simp [sumU, levI, tri]
  | succ n ih =>
    rw [sumU, ih]
    simp only [levI, tri, Int.natCast_add]
    generalize p + m = s
    simp only [Int.mul_add, Int.add_mul, Int.mul_one, Int.one_mul]
    rw [Int.mul_comm (n : Int) s]
    omega
theorem intoS_closed (p m : Int) (n : Nat) : intoS p m (n + 1) = n * (1 + p + 2 * m) + (p + m) * low n := by
  show sumU (fun j => intoI j p m) (n + 1) = _
  induction n with
  | zero => simp [sumU, intoI, low]
  | succ n ih =>
    rw [sumU, ih]
    have : intoI ((n + 1 : Nat) : Int) p m = n * (p + m) + 1 + p + 2 * m := by
      unfold intoI; rw [if_neg (by omega)]
      have : ((n + 1 : Nat) : Int) - 1 = n := by omega
      rw [this]
    rw [this]
    have e0 : ((n + 1 : Nat) : Int) = n + 1 := by omega
    have e1 : ((n : Int) + 1) * (1 + p + 2 * m) = n * (1 + p + 2 * m) + (1 + p + 2 * m) := by rw [Int.add_mul, Int.one_mul]
    have e2 : (p + m) * (low n + n) = (p + m) * low n + n * (p + m) := by rw [Int.mul_add, Int.mul_comm (p + m) n]
    simp only [low]
    rw [e0, e1, e2]
    omega
theorem form_facts {n : Nat} {p m : Int} (h : fitsP n p m) : ∃ q r : Int, (p + m) * n * (n + 1) = 2 * q ∧ levS p m (n + 1) = n + 1 + q ∧ (p + m) * n * (n - 1) = 2 * r ∧ intoS p m (n + 1) = n * (1 + p + 2 * m) + r ∧
    0 ≤ q ∧ q ≤ 300000 ∧ 0 ≤ r ∧ r ≤ 300000 ∧ 0 ≤ (p + m) * n ∧ (p + m) * n ≤ 8192 ∧ 0 ≤ (n : Int) * (1 + p + 2 * m) ∧ n * (1 + p + 2 * m) ≤ 12352 := by
  obtain ⟨h1, h2, h3, h4, h5, h6⟩ := h
  have b1 := mul_bd (show 0 ≤ p + m by omega) (show p + m ≤ 128 by omega) h1 h2
  have b2 := mul_bd (show 0 ≤ (p + m) * n by omega) (show (p + m) * n ≤ 8192 by omega) (show 0 ≤ (n : Int) + 1 by omega) (show (n : Int) + 1 ≤ 65 by omega)
  have b3 := mul_bd h1 h2 (show 0 ≤ 1 + p + 2 * m by omega) (show 1 + p + 2 * m ≤ 193 by omega)
  have c1 : (p + m) * n * (n + 1) = 2 * ((p + m) * tri n) := by rw [Int.mul_assoc, tri_two, Int.mul_left_comm]
  have c2 : (p + m) * n * (n - 1) = 2 * ((p + m) * low n) := by rw [Int.mul_assoc, low_two, Int.mul_left_comm]
  have b4 : 0 ≤ (p + m) * n * ((n : Int) - 1) ∧ (p + m) * n * ((n : Int) - 1) ≤ 8192 * 64 := by
    by_cases hn : (n : Int) = 0
    · rw [hn]; simp
    · exact mul_bd (show 0 ≤ (p + m) * n by omega) (show (p + m) * n ≤ 8192 by omega) (show 0 ≤ (n : Int) - 1 by omega) (show (n : Int) - 1 ≤ 64 by omega)
  exact ⟨(p + m) * tri n, (p + m) * low n, c1, levS_closed p m n, c2, intoS_closed p m n, by omega, by omega, by omega, by omega, b1.1, b1.2, b3.1, b3.2⟩
theorem mono_lev {i p m a b c : Int} (h : fitsP i p m) (hz : fitsP a b c) (h1 : i ≤ a) (h2 : p ≤ b) (h3 : m ≤ c) : levI i p m ≤ levI a b c := by
  have := Int.mul_le_mul h1 (show p + m ≤ b + c by omega) (by have := h.2.2.1; have := h.2.2.2.2.1; omega) (by have := hz.1; omega)
  unfold levI; omega
theorem mono_into {i p m a b c : Int} (h : fitsP i p m) (hz : fitsP a b c) (h1 : i ≤ a) (h2 : p ≤ b) (h3 : m ≤ c) : intoI i p m ≤ intoI a b c := by
  unfold intoI
  have := hz.2.2.1; have := hz.2.2.2.2.1; have := h.2.2.1; have := h.2.2.2.2.1
  split
  · split
    · omega
    · have := Int.mul_nonneg (show 0 ≤ a - 1 by omega) (show 0 ≤ b + c by omega)
      omega
  · split
    · omega
    · have := Int.mul_le_mul (show i - 1 ≤ a - 1 by omega) (show p + m ≤ b + c by omega) (by omega) (by omega)
      omega
theorem z_facts {i p m a b c : Int} (h : fitsP i p m) (h1 : i ≤ a) (h2 : p ≤ b) (h3 : m ≤ c) : (e36 a b c = 0 ∧ decide (fitsP a b c) = true ∧ lv36 i p m ≤ lv36 a b c ∧ in36 i p m ≤ in36 a b c) ∨ (e36 a b c = 1 ∧ decide (fitsP a b c) = false) := by
  by_cases hz : fitsP a b c
  · refine .inl ⟨if_pos hz, decide_eq_true hz, ?_, ?_⟩
    · unfold lv36; rw [if_pos h, if_pos hz]; exact mono_lev h hz h1 h2 h3
    · unfold in36; rw [if_pos h, if_pos hz]; exact mono_into h hz h1 h2 h3
  · exact .inr ⟨if_neg hz, decide_eq_false hz⟩
theorem lawFormulas (i p m : Int) : CallF Cx 3 [.int .i64 i, .int .i64 p, .int .i64 m] [] (.bool true) [] := by
  by_cases h : fitsP i p m
  · obtain ⟨n, rfl⟩ : ∃ n : Nat, i = n := ⟨i.toNat, by have := h.1; omega⟩
    have hd : decide (fitsP n p m) = true := decide_eq_true h
    have he : e36 n p m = 0 := if_pos h
    have hl : lv36 n p m = levI n p m := if_pos h
    have hi : in36 n p m = intoI n p m := if_pos h
    have hn : nd36 n p m = levS p m (n + 1) := by unfold nd36; rw [if_pos h]; rfl
    have hm : ed36 n p m = intoS p m (n + 1) := by unfold ed36; rw [if_pos h]; rfl
    obtain ⟨q, r, f1, f2, f3, f4, f5, f6, f7, f8, f9, f10, f11, f12⟩ := form_facts h
    have hf : ∀ i : Int, 0 ≤ i → i ≤ 64 → fitsP i p m := fun i a b => ⟨a, b, h.2.2⟩
    obtain ⟨g1, g2, g3, g4, g5, g6⟩ := h
    have h : fitsP n p m := ⟨g1, g2, g3, g4, g5, g6⟩
    have hbl := levI_bd h
    have hbi := intoI_bd h
    refine sy_call (X := Sx0) (fun _ => false) [] [] (fn := Tryz.f3) Tryz.func3 rfl (by decide) rfl rfl ?_
    repeat' (first | ((refine run ?_); conv => whnf) | with_reducible refine split_nt (by assumption) ?_ | with_reducible refine split_nf (by assumption) ?_ | with_reducible refine split_ht (by assumption) ?_ | with_reducible refine split_hf (by assumption) ?_ | ((first | with_reducible refine split_neg (fun hc => ?_) (fun hc => ?_) | refine split (fun hc => ?_) (fun hc => ?_)) <;> (try simp only [bsl, true_implies, false_implies, Int.reduceEq, Int.reduceLT, Int.reduceLE, Nat.reduceLT, Nat.reduceEqDiff] at hc) <;> (try (exfalso; omega)) <;> (try exact (bool_tf hc (by assumption)).elim) <;> (try exact (bool_ft hc (by assumption)).elim)) | refine fact_in (fun hby => ?_) | refine un_rfl ?_ | refine stp ?_ | exact obs | with_reducible refine And.intro ?_ ?_ | refine nrm ?_ | apply row_eq | (apply cut_end <;> first | ((refine run ?_); conv => whnf) | exact obs) | (apply cut_drop <;> first | ((refine run ?_); conv => whnf) | exact obs) | (apply cuts_end <;> first | ((refine run ?_); conv => whnf) | exact obs) | (apply cuts_drop <;> first | ((refine run ?_); conv => whnf) | exact obs) | (apply wrap_in <;> first | ((refine run ?_); conv => whnf) | exact obs | exact eqs) | refine stq ?_ | (apply callP_skip <;> first | ((refine run ?_); conv => whnf) | assumption | (simp only [bsl, *]; done) | (simp [*]; done)) | ((refine open_in ?_ ?_) <;> first | ((refine run ?_); conv => whnf) | kernel_rfl) | exact eqs | (intro _; rfl))
    refine loop_rule (α := Nat) [15, 16, 17] 0 (fun k => [.int .i64 (levS p m k), .int .i64 (intoS p m k), .int .i64 k]) (fun k => []) (fun k => k ≤ n + 1) (fun k => n + 1 - k) (0) (fun _ => rfl) (by decide) ?_
    ((refine run ?_); conv => whnf)
    refine goal_in ⟨?_, fit_eq ?_, sto_take (n := 0) (Nat.le_of_ble_eq_true rfl) ?_⟩ (fun k hinv => ?_)
    · exact Nat.zero_le _
    · rfl
    · rfl
    have hb := levS_bd (p := p) (m := m) (n := n) (by omega) hf hinv
    have hb' := intoS_bd (p := p) (m := m) (n := n) (by omega) hf hinv
    by_cases hlt : k < n + 1
    · have hfk : fitsP k p m := hf k (by omega) (by omega)
      have hb2 := levI_bd hfk
      have hb3 := intoI_bd hfk
      repeat' (first | ((refine run ?_); conv => whnf) | with_reducible refine split_nt (by assumption) ?_ | with_reducible refine split_nf (by assumption) ?_ | with_reducible refine split_ht (by assumption) ?_ | with_reducible refine split_hf (by assumption) ?_ | ((first | with_reducible refine split_neg (fun hc => ?_) (fun hc => ?_) | refine split (fun hc => ?_) (fun hc => ?_)) <;> (try simp only [bsl, true_implies, false_implies, Int.reduceEq, Int.reduceLT, Int.reduceLE, Nat.reduceLT, Nat.reduceEqDiff] at hc) <;> (try (exfalso; omega)) <;> (try exact (bool_tf hc (by assumption)).elim) <;> (try exact (bool_ft hc (by assumption)).elim)) | refine fact_in (fun hby => ?_) | refine un_rfl ?_ | refine stp ?_ | exact obs | with_reducible refine And.intro ?_ ?_ | refine nrm ?_ | apply row_eq | (apply cut_end <;> first | ((refine run ?_); conv => whnf) | exact obs) | (apply cut_drop <;> first | ((refine run ?_); conv => whnf) | exact obs) | (apply cuts_end <;> first | ((refine run ?_); conv => whnf) | exact obs) | (apply cuts_drop <;> first | ((refine run ?_); conv => whnf) | exact obs) | (apply wrap_in <;> first | ((refine run ?_); conv => whnf) | exact obs | exact eqs) | refine stq ?_ | (apply callP_skip <;> first | ((refine run ?_); conv => whnf) | assumption | (simp only [bsl, *]; done) | (simp [*]; done)) | ((refine open_in ?_ ?_) <;> first | ((refine run ?_); conv => whnf) | kernel_rfl) | exact eqs | (intro _; rfl))
      refine meet_eq (k + 1) ?_ ?_ (Nat.le_of_ble_eq_true rfl) ?_
      · exact ⟨by omega, by dsimp only; omega⟩
      · simp [sumU]
      · rfl
    · have : k = n + 1 := by omega
      subst this
      repeat' (first | ((refine run ?_); conv => whnf) | with_reducible refine split_nt (by assumption) ?_ | with_reducible refine split_nf (by assumption) ?_ | with_reducible refine split_ht (by assumption) ?_ | with_reducible refine split_hf (by assumption) ?_ | ((first | with_reducible refine split_neg (fun hc => ?_) (fun hc => ?_) | refine split (fun hc => ?_) (fun hc => ?_)) <;> (try simp only [bsl, true_implies, false_implies, Int.reduceEq, Int.reduceLT, Int.reduceLE, Nat.reduceLT, Nat.reduceEqDiff] at hc) <;> (try (exfalso; omega)) <;> (try exact (bool_tf hc (by assumption)).elim) <;> (try exact (bool_ft hc (by assumption)).elim)) | refine fact_in (fun hby => ?_) | refine un_rfl ?_ | refine stp ?_ | exact obs | with_reducible refine And.intro ?_ ?_ | refine nrm ?_ | apply row_eq | (apply cut_end <;> first | ((refine run ?_); conv => whnf) | exact obs) | (apply cut_drop <;> first | ((refine run ?_); conv => whnf) | exact obs) | (apply cuts_end <;> first | ((refine run ?_); conv => whnf) | exact obs) | (apply cuts_drop <;> first | ((refine run ?_); conv => whnf) | exact obs) | (apply wrap_in <;> first | ((refine run ?_); conv => whnf) | exact obs | exact eqs) | refine stq ?_ | (apply callP_skip <;> first | ((refine run ?_); conv => whnf) | assumption | (simp only [bsl, *]; done) | (simp [*]; done)) | ((refine open_in ?_ ?_) <;> first | ((refine run ?_); conv => whnf) | kernel_rfl) | exact eqs | (intro _; rfl))
      refine loop_rule (α := Nat) [199] 0 (fun k => [.int .i64 k]) (fun k => []) (fun k => k ≤ 3) (fun k => 3 - k) (0) (fun _ => rfl) (by decide) ?_
      ((refine run ?_); conv => whnf)
      refine goal_in ⟨?_, fit_eq ?_, sto_take (n := 0) (Nat.le_of_ble_eq_true rfl) ?_⟩ (fun k hinv => ?_)
      · exact Nat.zero_le _
      · rfl
      · rfl
      have hk : k = 0 ∨ k = 1 ∨ k = 2 ∨ k = 3 := by omega
      rcases hk with rfl | rfl | rfl | rfl
      · rcases z_facts (a := n + 1) (b := p) (c := m) h (by omega) (Int.le_refl _) (Int.le_refl _) with ⟨z1, z2, z3, z4⟩ | ⟨z1, z2⟩
        · repeat' (first | ((refine run ?_); conv => whnf) | with_reducible refine split_nt (by assumption) ?_ | with_reducible refine split_nf (by assumption) ?_ | with_reducible refine split_ht (by assumption) ?_ | with_reducible refine split_hf (by assumption) ?_ | ((first | with_reducible refine split_neg (fun hc => ?_) (fun hc => ?_) | refine split (fun hc => ?_) (fun hc => ?_)) <;> (try simp only [bsl, true_implies, false_implies, Int.reduceEq, Int.reduceLT, Int.reduceLE, Nat.reduceLT, Nat.reduceEqDiff] at hc) <;> (try (exfalso; omega)) <;> (try exact (bool_tf hc (by assumption)).elim) <;> (try exact (bool_ft hc (by assumption)).elim)) | refine fact_in (fun hby => ?_) | refine un_rfl ?_ | refine stp ?_ | exact obs | with_reducible refine And.intro ?_ ?_ | refine nrm ?_ | apply row_eq | (apply cut_end <;> first | ((refine run ?_); conv => whnf) | exact obs) | (apply cut_drop <;> first | ((refine run ?_); conv => whnf) | exact obs) | (apply cuts_end <;> first | ((refine run ?_); conv => whnf) | exact obs) | (apply cuts_drop <;> first | ((refine run ?_); conv => whnf) | exact obs) | (apply wrap_in <;> first | ((refine run ?_); conv => whnf) | exact obs | exact eqs) | refine stq ?_ | (apply callP_skip <;> first | ((refine run ?_); conv => whnf) | assumption | (simp only [bsl, *]; done) | (simp [*]; done)) | ((refine open_in ?_ ?_) <;> first | ((refine run ?_); conv => whnf) | kernel_rfl) | exact eqs | (intro _; rfl))
          · exfalso
            first
              | (simp [z1, z2] at hc; done)
              | (simp [z1, z2] at hc; omega)
          · refine meet_eq (1) ?_ ?_ (Nat.le_of_ble_eq_true rfl) ?_
            · exact ⟨by omega, by dsimp only; omega⟩
            · rfl
            · rfl
        · repeat' (first | ((refine run ?_); conv => whnf) | with_reducible refine split_nt (by assumption) ?_ | with_reducible refine split_nf (by assumption) ?_ | with_reducible refine split_ht (by assumption) ?_ | with_reducible refine split_hf (by assumption) ?_ | ((first | with_reducible refine split_neg (fun hc => ?_) (fun hc => ?_) | refine split (fun hc => ?_) (fun hc => ?_)) <;> (try simp only [bsl, true_implies, false_implies, Int.reduceEq, Int.reduceLT, Int.reduceLE, Nat.reduceLT, Nat.reduceEqDiff] at hc) <;> (try (exfalso; omega)) <;> (try exact (bool_tf hc (by assumption)).elim) <;> (try exact (bool_ft hc (by assumption)).elim)) | refine fact_in (fun hby => ?_) | refine un_rfl ?_ | refine stp ?_ | exact obs | with_reducible refine And.intro ?_ ?_ | refine nrm ?_ | apply row_eq | (apply cut_end <;> first | ((refine run ?_); conv => whnf) | exact obs) | (apply cut_drop <;> first | ((refine run ?_); conv => whnf) | exact obs) | (apply cuts_end <;> first | ((refine run ?_); conv => whnf) | exact obs) | (apply cuts_drop <;> first | ((refine run ?_); conv => whnf) | exact obs) | (apply wrap_in <;> first | ((refine run ?_); conv => whnf) | exact obs | exact eqs) | refine stq ?_ | (apply callP_skip <;> first | ((refine run ?_); conv => whnf) | assumption | (simp only [bsl, *]; done) | (simp [*]; done)) | ((refine open_in ?_ ?_) <;> first | ((refine run ?_); conv => whnf) | kernel_rfl) | exact eqs | (intro _; rfl))
          · exfalso
            first
              | (simp [z1, z2] at hc; done)
              | (simp [z1, z2] at hc; omega)
          · refine meet_eq (1) ?_ ?_ (Nat.le_of_ble_eq_true rfl) ?_
            · exact ⟨by omega, by dsimp only; omega⟩
            · rfl
            · rfl
      · rcases z_facts (a := n) (b := p + 1) (c := m) h (Int.le_refl _) (by omega) (Int.le_refl _) with ⟨z1, z2, z3, z4⟩ | ⟨z1, z2⟩
        · repeat' (first | ((refine run ?_); conv => whnf) | with_reducible refine split_nt (by assumption) ?_ | with_reducible refine split_nf (by assumption) ?_ | with_reducible refine split_ht (by assumption) ?_ | with_reducible refine split_hf (by assumption) ?_ | ((first | with_reducible refine split_neg (fun hc => ?_) (fun hc => ?_) | refine split (fun hc => ?_) (fun hc => ?_)) <;> (try simp only [bsl, true_implies, false_implies, Int.reduceEq, Int.reduceLT, Int.reduceLE, Nat.reduceLT, Nat.reduceEqDiff] at hc) <;> (try (exfalso; omega)) <;> (try exact (bool_tf hc (by assumption)).elim) <;> (try exact (bool_ft hc (by assumption)).elim)) | refine fact_in (fun hby => ?_) | refine un_rfl ?_ | refine stp ?_ | exact obs | with_reducible refine And.intro ?_ ?_ | refine nrm ?_ | apply row_eq | (apply cut_end <;> first | ((refine run ?_); conv => whnf) | exact obs) | (apply cut_drop <;> first | ((refine run ?_); conv => whnf) | exact obs) | (apply cuts_end <;> first | ((refine run ?_); conv => whnf) | exact obs) | (apply cuts_drop <;> first | ((refine run ?_); conv => whnf) | exact obs) | (apply wrap_in <;> first | ((refine run ?_); conv => whnf) | exact obs | exact eqs) | refine stq ?_ | (apply callP_skip <;> first | ((refine run ?_); conv => whnf) | assumption | (simp only [bsl, *]; done) | (simp [*]; done)) | ((refine open_in ?_ ?_) <;> first | ((refine run ?_); conv => whnf) | kernel_rfl) | exact eqs | (intro _; rfl))
          · exfalso
            first
              | (simp [z1, z2] at hc; done)
              | (simp [z1, z2] at hc; omega)
          · refine meet_eq (2) ?_ ?_ (Nat.le_of_ble_eq_true rfl) ?_
            · exact ⟨by omega, by dsimp only; omega⟩
            · rfl
            · rfl
        · repeat' (first | ((refine run ?_); conv => whnf) | with_reducible refine split_nt (by assumption) ?_ | with_reducible refine split_nf (by assumption) ?_ | with_reducible refine split_ht (by assumption) ?_ | with_reducible refine split_hf (by assumption) ?_ | ((first | with_reducible refine split_neg (fun hc => ?_) (fun hc => ?_) | refine split (fun hc => ?_) (fun hc => ?_)) <;> (try simp only [bsl, true_implies, false_implies, Int.reduceEq, Int.reduceLT, Int.reduceLE, Nat.reduceLT, Nat.reduceEqDiff] at hc) <;> (try (exfalso; omega)) <;> (try exact (bool_tf hc (by assumption)).elim) <;> (try exact (bool_ft hc (by assumption)).elim)) | refine fact_in (fun hby => ?_) | refine un_rfl ?_ | refine stp ?_ | exact obs | with_reducible refine And.intro ?_ ?_ | refine nrm ?_ | apply row_eq | (apply cut_end <;> first | ((refine run ?_); conv => whnf) | exact obs) | (apply cut_drop <;> first | ((refine run ?_); conv => whnf) | exact obs) | (apply cuts_end <;> first | ((refine run ?_); conv => whnf) | exact obs) | (apply cuts_drop <;> first | ((refine run ?_); conv => whnf) | exact obs) | (apply wrap_in <;> first | ((refine run ?_); conv => whnf) | exact obs | exact eqs) | refine stq ?_ | (apply callP_skip <;> first | ((refine run ?_); conv => whnf) | assumption | (simp only [bsl, *]; done) | (simp [*]; done)) | ((refine open_in ?_ ?_) <;> first | ((refine run ?_); conv => whnf) | kernel_rfl) | exact eqs | (intro _; rfl))
          · exfalso
            first
              | (simp [z1, z2] at hc; done)
              | (simp [z1, z2] at hc; omega)
          · refine meet_eq (2) ?_ ?_ (Nat.le_of_ble_eq_true rfl) ?_
            · exact ⟨by omega, by dsimp only; omega⟩
            · rfl
            · rfl
      · rcases z_facts (a := n) (b := p) (c := m + 1) h (Int.le_refl _) (Int.le_refl _) (by omega) with ⟨z1, z2, z3, z4⟩ | ⟨z1, z2⟩
        · repeat' (first | ((refine run ?_); conv => whnf) | with_reducible refine split_nt (by assumption) ?_ | with_reducible refine split_nf (by assumption) ?_ | with_reducible refine split_ht (by assumption) ?_ | with_reducible refine split_hf (by assumption) ?_ | ((first | with_reducible refine split_neg (fun hc => ?_) (fun hc => ?_) | refine split (fun hc => ?_) (fun hc => ?_)) <;> (try simp only [bsl, true_implies, false_implies, Int.reduceEq, Int.reduceLT, Int.reduceLE, Nat.reduceLT, Nat.reduceEqDiff] at hc) <;> (try (exfalso; omega)) <;> (try exact (bool_tf hc (by assumption)).elim) <;> (try exact (bool_ft hc (by assumption)).elim)) | refine fact_in (fun hby => ?_) | refine un_rfl ?_ | refine stp ?_ | exact obs | with_reducible refine And.intro ?_ ?_ | refine nrm ?_ | apply row_eq | (apply cut_end <;> first | ((refine run ?_); conv => whnf) | exact obs) | (apply cut_drop <;> first | ((refine run ?_); conv => whnf) | exact obs) | (apply cuts_end <;> first | ((refine run ?_); conv => whnf) | exact obs) | (apply cuts_drop <;> first | ((refine run ?_); conv => whnf) | exact obs) | (apply wrap_in <;> first | ((refine run ?_); conv => whnf) | exact obs | exact eqs) | refine stq ?_ | (apply callP_skip <;> first | ((refine run ?_); conv => whnf) | assumption | (simp only [bsl, *]; done) | (simp [*]; done)) | ((refine open_in ?_ ?_) <;> first | ((refine run ?_); conv => whnf) | kernel_rfl) | exact eqs | (intro _; rfl))
          · exfalso
            first
              | (simp [z1, z2] at hc; done)
              | (simp [z1, z2] at hc; omega)
          · refine meet_eq (3) ?_ ?_ (Nat.le_of_ble_eq_true rfl) ?_
            · exact ⟨by omega, by dsimp only; omega⟩
            · rfl
            · rfl
        · repeat' (first | ((refine run ?_); conv => whnf) | with_reducible refine split_nt (by assumption) ?_ | with_reducible refine split_nf (by assumption) ?_ | with_reducible refine split_ht (by assumption) ?_ | with_reducible refine split_hf (by assumption) ?_ | ((first | with_reducible refine split_neg (fun hc => ?_) (fun hc => ?_) | refine split (fun hc => ?_) (fun hc => ?_)) <;> (try simp only [bsl, true_implies, false_implies, Int.reduceEq, Int.reduceLT, Int.reduceLE, Nat.reduceLT, Nat.reduceEqDiff] at hc) <;> (try (exfalso; omega)) <;> (try exact (bool_tf hc (by assumption)).elim) <;> (try exact (bool_ft hc (by assumption)).elim)) | refine fact_in (fun hby => ?_) | refine un_rfl ?_ | refine stp ?_ | exact obs | with_reducible refine And.intro ?_ ?_ | refine nrm ?_ | apply row_eq | (apply cut_end <;> first | ((refine run ?_); conv => whnf) | exact obs) | (apply cut_drop <;> first | ((refine run ?_); conv => whnf) | exact obs) | (apply cuts_end <;> first | ((refine run ?_); conv => whnf) | exact obs) | (apply cuts_drop <;> first | ((refine run ?_); conv => whnf) | exact obs) | (apply wrap_in <;> first | ((refine run ?_); conv => whnf) | exact obs | exact eqs) | refine stq ?_ | (apply callP_skip <;> first | ((refine run ?_); conv => whnf) | assumption | (simp only [bsl, *]; done) | (simp [*]; done)) | ((refine open_in ?_ ?_) <;> first | ((refine run ?_); conv => whnf) | kernel_rfl) | exact eqs | (intro _; rfl))
          · exfalso
            first
              | (simp [z1, z2] at hc; done)
              | (simp [z1, z2] at hc; omega)
          · refine meet_eq (3) ?_ ?_ (Nat.le_of_ble_eq_true rfl) ?_
            · exact ⟨by omega, by dsimp only; omega⟩
            · rfl
            · rfl
      · repeat' (first | ((refine run ?_); conv => whnf) | with_reducible refine split_nt (by assumption) ?_ | with_reducible refine split_nf (by assumption) ?_ | with_reducible refine split_ht (by assumption) ?_ | with_reducible refine split_hf (by assumption) ?_ | ((first | with_reducible refine split_neg (fun hc => ?_) (fun hc => ?_) | refine split (fun hc => ?_) (fun hc => ?_)) <;> (try simp only [bsl, true_implies, false_implies, Int.reduceEq, Int.reduceLT, Int.reduceLE, Nat.reduceLT, Nat.reduceEqDiff] at hc) <;> (try (exfalso; omega)) <;> (try exact (bool_tf hc (by assumption)).elim) <;> (try exact (bool_ft hc (by assumption)).elim)) | refine fact_in (fun hby => ?_) | refine un_rfl ?_ | refine stp ?_ | exact obs | with_reducible refine And.intro ?_ ?_ | refine nrm ?_ | apply row_eq | (apply cut_end <;> first | ((refine run ?_); conv => whnf) | exact obs) | (apply cut_drop <;> first | ((refine run ?_); conv => whnf) | exact obs) | (apply cuts_end <;> first | ((refine run ?_); conv => whnf) | exact obs) | (apply cuts_drop <;> first | ((refine run ?_); conv => whnf) | exact obs) | (apply wrap_in <;> first | ((refine run ?_); conv => whnf) | exact obs | exact eqs) | refine stq ?_ | (apply callP_skip <;> first | ((refine run ?_); conv => whnf) | assumption | (simp only [bsl, *]; done) | (simp [*]; done)) | ((refine open_in ?_ ?_) <;> first | ((refine run ?_); conv => whnf) | kernel_rfl) | exact eqs | (intro _; rfl))
        refine ret_eq ?_ (by rfl); rfl
  · have hd : decide (fitsP i p m) = false := decide_eq_false h
    have he : e36 i p m = 1 := if_neg h
    have hl : lv36 i p m = 0 := if_neg h
    have hi : in36 i p m = 0 := if_neg h
    have hn : nd36 i p m = 0 := if_neg h
    have hm : ed36 i p m = 0 := if_neg h
    refine sy_call (X := Sx0) (fun _ => false) [] [] (fn := Tryz.f3) Tryz.func3 rfl (by decide) rfl rfl ?_
    repeat' (first | ((refine run ?_); conv => whnf) | with_reducible refine split_nt (by assumption) ?_ | with_reducible refine split_nf (by assumption) ?_ | with_reducible refine split_ht (by assumption) ?_ | with_reducible refine split_hf (by assumption) ?_ | ((first | with_reducible refine split_neg (fun hc => ?_) (fun hc => ?_) | refine split (fun hc => ?_) (fun hc => ?_)) <;> (try simp only [bsl, true_implies, false_implies, Int.reduceEq, Int.reduceLT, Int.reduceLE, Nat.reduceLT, Nat.reduceEqDiff] at hc) <;> (try (exfalso; omega)) <;> (try exact (bool_tf hc (by assumption)).elim) <;> (try exact (bool_ft hc (by assumption)).elim)) | refine fact_in (fun hby => ?_) | refine un_rfl ?_ | refine stp ?_ | exact obs | with_reducible refine And.intro ?_ ?_ | refine nrm ?_ | apply row_eq | (apply cut_end <;> first | ((refine run ?_); conv => whnf) | exact obs) | (apply cut_drop <;> first | ((refine run ?_); conv => whnf) | exact obs) | (apply cuts_end <;> first | ((refine run ?_); conv => whnf) | exact obs) | (apply cuts_drop <;> first | ((refine run ?_); conv => whnf) | exact obs) | (apply wrap_in <;> first | ((refine run ?_); conv => whnf) | exact obs | exact eqs) | refine stq ?_ | (apply callP_skip <;> first | ((refine run ?_); conv => whnf) | assumption | (simp only [bsl, *]; done) | (simp [*]; done)) | ((refine open_in ?_ ?_) <;> first | ((refine run ?_); conv => whnf) | kernel_rfl) | exact eqs | (intro _; rfl))
    refine ret_eq ?_ (by rfl); simp [he, hl, hi, hn, hm]
end Go.Proofs.YtepnbdacekkapaaGreatDoor.Ai
