/- Times: leap years, days, C.Of, Check, digits. Own work of this seat. -/
import Derived.Test.YtaajfbcopafkaaaGreatDoorItoa
import Derived.Test.YtaajfbcopafkaaaGreatDoorTimP
import Derived.Test.YtaajfbcopafkaaaGreatDoorTotal
namespace Go.Proofs.YtaajfbcopafkaaaGreatDoor.Ai
open Go
set_option linter.unusedSimpArgs false
set_option linter.unusedVariables false
set_option maxHeartbeats 4000000
set_option maxRecDepth 100000
theorem splitT {b : Bool} {p q : Prop} (h : b = true) (hk : Run p) : HSplit b p q := split (fun _ => hk) (fun h' => by rw [h] at h'; cases h')
theorem splitF {b : Bool} {p q : Prop} (h : b = false) (hk : Run q) : HSplit b p q := split (fun h' => by rw [h] at h'; cases h') (fun _ => hk)
theorem refLeap_call (y : Int) (h : 0 ≤ y ∧ y ≤ 9999) : CallF Cx 50 [.int .i64 y] [] (.bool (leapI y)) [] := by
  obtain ⟨h1, h2⟩ := h
  refine sy_call (X := Sx0) (fun _ => false) [] [] (fn := Tryz.f50) Tryz.func50 rfl (by decide) rfl rfl ?_
  repeat' (first | (apply run; conv => whnf) | (with_reducible first | refine snt ?_ | refine snf ?_ | refine sht ?_ | refine shf ?_) | ((first | with_reducible refine split_neg (fun hc => ?_) (fun hc => ?_) | refine split (fun hc => ?_) (fun hc => ?_)) <;> (try simp only [bsl, true_implies, false_implies, Int.reduceEq, Int.reduceLT, Int.reduceLE, Nat.reduceLT, Nat.reduceEqDiff] at hc) <;> try first | (exfalso; omega) | exact btf hc | exact bft hc) | refine fact_in (fun hby => ?_) | refine un_rfl ?_ | refine stp ?_ | exact obs | with_reducible refine And.intro ?_ ?_ | refine nrm ?_ | apply row_eq | refine cte ?_ | refine ctd ?_ | refine cse ?_ | refine csd ?_ | refine wrp ?_ | refine stq ?_ | refine cps ?_ | refine opn ?_ | exact eqs | (intro _; rfl))
  all_goals (refine ret_eq ?_ (by rfl); simp [leapI, *])
instance {y : Int} : Con Sx0 50 [.int .i64 y] (0 ≤ y ∧ y ≤ 9999) (.bool (leapI y)) := con (refLeap_call y)
theorem leap_call (y : Int) (h : 0 ≤ y ∧ y ≤ 9999) : CallF Cx 90 [.int .i64 y] [] (.bool (leapI y)) [] := by
  obtain ⟨h1, h2⟩ := h
  refine sy_call (X := Sx0) (fun _ => false) [] [] (fn := Tryz.f90) Tryz.func90 rfl (by decide) rfl rfl ?_
  repeat' (first | (apply run; conv => whnf) | (with_reducible first | refine snt ?_ | refine snf ?_ | refine sht ?_ | refine shf ?_) | ((first | with_reducible refine split_neg (fun hc => ?_) (fun hc => ?_) | refine split (fun hc => ?_) (fun hc => ?_)) <;> (try simp only [bsl, true_implies, false_implies, Int.reduceEq, Int.reduceLT, Int.reduceLE, Nat.reduceLT, Nat.reduceEqDiff] at hc) <;> try first | (exfalso; omega) | exact btf hc | exact bft hc) | refine fact_in (fun hby => ?_) | refine un_rfl ?_ | refine stp ?_ | exact obs | with_reducible refine And.intro ?_ ?_ | refine nrm ?_ | apply row_eq | refine cte ?_ | refine ctd ?_ | refine cse ?_ | refine csd ?_ | refine wrp ?_ | refine stq ?_ | refine cps ?_ | refine opn ?_ | exact eqs | (intro _; rfl))
  all_goals (refine ret_eq ?_ (by rfl); simp [leapI, *])
instance {y : Int} : Con Sx0 90 [.int .i64 y] (0 ≤ y ∧ y ≤ 9999) (.bool (leapI y)) := con (leap_call y)
theorem refDays_call (y m : Int) (h : (0 ≤ y ∧ y ≤ 9999) ∧ 1 ≤ m ∧ m ≤ 12) : CallF Cx 19 [.int .i64 y, .int .i64 m] [] (.int .i64 (daysI y m)) [] := by
  obtain ⟨h0, h1, h2⟩ := h
  refine sy_call (X := Sx0) (fun _ => false) [] [] (fn := Tryz.f19) Tryz.func19 rfl (by decide) rfl rfl ?_
  repeat' (first | (apply run; conv => whnf) | (with_reducible first | refine snt ?_ | refine snf ?_ | refine sht ?_ | refine shf ?_) | ((first | with_reducible refine split_neg (fun hc => ?_) (fun hc => ?_) | refine split (fun hc => ?_) (fun hc => ?_)) <;> (try simp only [bsl, true_implies, false_implies, Int.reduceEq, Int.reduceLT, Int.reduceLE, Nat.reduceLT, Nat.reduceEqDiff] at hc) <;> try first | (exfalso; omega) | exact btf hc | exact bft hc) | refine fact_in (fun hby => ?_) | refine un_rfl ?_ | refine stp ?_ | exact obs | with_reducible refine And.intro ?_ ?_ | refine nrm ?_ | apply row_eq | refine cte ?_ | refine ctd ?_ | refine cse ?_ | refine csd ?_ | refine wrp ?_ | refine stq ?_ | refine cps ?_ | refine opn ?_ | exact eqs | (intro _; rfl))
  all_goals (refine ret_eq ?_ (by rfl); simp [daysI, *])
instance {y m : Int} : Con Sx0 19 [.int .i64 y, .int .i64 m] ((0 ≤ y ∧ y ≤ 9999) ∧ 1 ≤ m ∧ m ≤ 12) (.int .i64 (daysI y m)) := con (refDays_call y m)
theorem days_call (y m : Int) (h : (0 ≤ y ∧ y ≤ 9999) ∧ 1 ≤ m ∧ m ≤ 12) : CallF Cx 51 [.int .i64 y, .int .i64 m] [] (.int .i64 (daysI y m)) [] := by
  obtain ⟨h0, h1, h2⟩ := h
  have hdl : daysOf.length = 12 := rfl
  have hm : m = 1 ∨ m = 2 ∨ m = 3 ∨ m = 4 ∨ m = 5 ∨ m = 6 ∨ m = 7 ∨ m = 8 ∨ m = 9 ∨ m = 10 ∨ m = 11 ∨ m = 12 := by omega
  rcases hm with rfl | rfl | rfl | rfl | rfl | rfl | rfl | rfl | rfl | rfl | rfl | rfl
  all_goals
    refine sy_call (X := Sx0) (fun _ => false) [] [] (fn := Tryz.f51) Tryz.func51 rfl (by decide) rfl rfl ?_
    repeat' (first | (apply run; conv => whnf) | (with_reducible first | refine snt ?_ | refine snf ?_ | refine sht ?_ | refine shf ?_) | ((first | with_reducible refine split_neg (fun hc => ?_) (fun hc => ?_) | refine split (fun hc => ?_) (fun hc => ?_)) <;> (try simp only [bsl, true_implies, false_implies, Int.reduceEq, Int.reduceLT, Int.reduceLE, Nat.reduceLT, Nat.reduceEqDiff] at hc) <;> try first | (exfalso; omega) | exact btf hc | exact bft hc) | refine fact_in (fun hby => ?_) | refine un_rfl ?_ | refine stp ?_ | exact obs | with_reducible refine And.intro ?_ ?_ | refine nrm ?_ | apply row_eq | refine cte ?_ | refine ctd ?_ | refine cse ?_ | refine csd ?_ | refine wrp ?_ | refine stq ?_ | refine cps ?_ | refine opn ?_ | exact eqs | (intro _; rfl))
    all_goals (refine ret_eq ?_ (by rfl); first | rfl | (simp [daysI, *]; done) | (simp [daysI, *]; rfl))
instance {y m : Int} : Con Sx0 51 [.int .i64 y, .int .i64 m] ((0 ≤ y ∧ y ≤ 9999) ∧ 1 ≤ m ∧ m ≤ 12) (.int .i64 (daysI y m)) := con (days_call y m)
def Tim.av (t : Tim) : AVal := .agg [.int .i64 t.y, .int .i64 t.mo, .int .i64 t.d, .int .i64 t.h, .int .i64 t.mi, .int .i64 t.s]
def timOf (y mo d h mi s : Int) : Tim := ⟨y % 10000, 1 + mo % 12, 1 + d % daysI (y % 10000) (1 + mo % 12), h % 24, mi % 60, s % 60⟩
theorem timOf_ok {y mo d h mi s : Int} (hd : 0 ≤ d) : (timOf y mo d h mi s).ok := by
  have hb := daysI_bd (y % 10000) (1 + mo % 12)
  unfold timOf Tim.ok
  dsimp only
  have h1 := Int.emod_nonneg d (show daysI (y % 10000) (1 + mo % 12) ≠ 0 by omega)
  have h2 := Int.emod_lt_of_pos d (show 0 < daysI (y % 10000) (1 + mo % 12) by omega)
  omega
theorem TOf_call (y mo d h mi s : Nat) (h1 : y ≤ 65535) (h2 : mo ≤ 255) (h3 : d ≤ 255) (h4 : h ≤ 255) (h5 : mi ≤ 255) (h6 : s ≤ 255) : CallF Cx 5 [.agg [.int .u16 y, .int .u8 mo, .int .u8 d, .int .u8 h, .int .u8 mi, .int .u8 s]] [] (timOf y mo d h mi s).av [] := by
  have hb := daysI_bd ((y : Int) % 10000) (1 + (mo : Int) % 12)
  have e1 := Int.emod_nonneg (d : Int) (show daysI ((y : Int) % 10000) (1 + (mo : Int) % 12) ≠ 0 by omega)
  have e2 := Int.emod_lt_of_pos (d : Int) (show 0 < daysI ((y : Int) % 10000) (1 + (mo : Int) % 12) by omega)
  refine sy_call (X := Sx0) (fun _ => false) [] [] (fn := Tryz.f5) Tryz.func5 rfl (by decide) rfl rfl ?_
  repeat' (first | (apply run; conv => whnf) | (with_reducible first | refine snt ?_ | refine snf ?_ | refine sht ?_ | refine shf ?_) | ((first | with_reducible refine split_neg (fun hc => ?_) (fun hc => ?_) | refine split (fun hc => ?_) (fun hc => ?_)) <;> (try simp only [bsl, true_implies, false_implies, Int.reduceEq, Int.reduceLT, Int.reduceLE, Nat.reduceLT, Nat.reduceEqDiff] at hc) <;> try first | (exfalso; omega) | exact btf hc | exact bft hc) | refine fact_in (fun hby => ?_) | refine un_rfl ?_ | refine stp ?_ | exact obs | with_reducible refine And.intro ?_ ?_ | refine nrm ?_ | apply row_eq | refine cte ?_ | refine ctd ?_ | refine cse ?_ | refine csd ?_ | refine wrp ?_ | refine stq ?_ | refine cps ?_ | refine opn ?_ | exact eqs | (intro _; rfl))
  refine ret_eq ?_ (by rfl); rfl
theorem timCheck_call (t : Tim) (h : t.ok) : CallF Cx 20 [.agg [.int .i64 t.y, .int .i64 t.mo, .int .i64 t.d, .int .i64 t.h, .int .i64 t.mi, .int .i64 t.s]] [] (.int .i64 0) [] := by
  obtain ⟨y, mo, d, h, mi, s⟩ := t
  obtain ⟨a1, a2, a3, a4, a5, a6⟩ := h
  dsimp only at a1 a2 a3 a4 a5 a6 ⊢
  have hb := daysI_bd y mo
  refine sy_call (X := Sx0) (fun _ => false) [] [] (fn := Tryz.f20) Tryz.func20 rfl (by decide) rfl rfl ?_
  repeat' (first | (apply run; conv => whnf) | (with_reducible first | refine snt ?_ | refine snf ?_ | refine sht ?_ | refine shf ?_) | ((first | with_reducible refine split_neg (fun hc => ?_) (fun hc => ?_) | refine split (fun hc => ?_) (fun hc => ?_)) <;> (try simp only [bsl, true_implies, false_implies, Int.reduceEq, Int.reduceLT, Int.reduceLE, Nat.reduceLT, Nat.reduceEqDiff] at hc) <;> try first | (exfalso; omega) | exact btf hc | exact bft hc) | refine fact_in (fun hby => ?_) | refine un_rfl ?_ | refine stp ?_ | exact obs | with_reducible refine And.intro ?_ ?_ | refine nrm ?_ | apply row_eq | refine cte ?_ | refine ctd ?_ | refine cse ?_ | refine csd ?_ | refine wrp ?_ | refine stq ?_ | refine cps ?_ | refine opn ?_ | exact eqs | (intro _; rfl))
  all_goals first
    | (exfalso; omega)
    | (refine ret_eq ?_ (by rfl); rfl)
theorem digits2_call (n : Int) (h : 0 ≤ n ∧ n ≤ 99) : CallF Cx 21 [.int .i64 n, .int .i64 2] [] (.str (dig2 n)) [] := by
  by_cases h1 : n < 10
  · have e := itoa_one (n := n) (by omega)
    have c : Con Sx0 52 [.int .i64 n] True (.str [dgt n]) := con0 (by rw [← e]; exact itoa_call n (by omega))
    refine sy_call (X := Sx0) (fun _ => false) [] [] (fn := Tryz.f21) Tryz.func21 rfl (by decide) rfl rfl ?_
    repeat' (first | (apply run; conv => whnf) | (refine splitT ?_ ?_; focus (simp; done)) | (refine splitF ?_ ?_; focus (simp; done)) | (with_reducible first | refine snt ?_ | refine snf ?_ | refine sht ?_ | refine shf ?_) | ((first | with_reducible refine split_neg (fun hc => ?_) (fun hc => ?_) | refine split (fun hc => ?_) (fun hc => ?_)) <;> (try simp only [bsl, true_implies, false_implies, Int.reduceEq, Int.reduceLT, Int.reduceLE, Nat.reduceLT, Nat.reduceEqDiff] at hc) <;> try first | (exfalso; omega) | exact btf hc | exact bft hc) | refine loop_round ?_ | refine fact_in (fun hby => ?_) | refine un_rfl ?_ | refine stp ?_ | exact obs | with_reducible refine And.intro ?_ ?_ | refine nrm ?_ | apply row_eq | refine cte ?_ | refine ctd ?_ | refine cse ?_ | refine csd ?_ | refine wrp ?_ | refine stq ?_ | refine cps ?_ | refine opn ?_ | exact eqs | (intro _; rfl))
    refine ret_eq ?_ (by rfl)
    simp only [dig2, dgt]
    rw [show n / 10 = 0 by omega, show n % 10 = n by omega]; rfl
  · have e := itoa_two (n := n) (by omega)
    have c : Con Sx0 52 [.int .i64 n] True (.str [dgt (n / 10), dgt (n % 10)]) := con0 (by rw [show [dgt (n / 10), dgt (n % 10)] = Lib.itoa n from e.symm]; exact itoa_call n (by omega))
    refine sy_call (X := Sx0) (fun _ => false) [] [] (fn := Tryz.f21) Tryz.func21 rfl (by decide) rfl rfl ?_
    repeat' (first | (apply run; conv => whnf) | (refine splitT ?_ ?_; focus (simp; done)) | (refine splitF ?_ ?_; focus (simp; done)) | (with_reducible first | refine snt ?_ | refine snf ?_ | refine sht ?_ | refine shf ?_) | ((first | with_reducible refine split_neg (fun hc => ?_) (fun hc => ?_) | refine split (fun hc => ?_) (fun hc => ?_)) <;> (try simp only [bsl, true_implies, false_implies, Int.reduceEq, Int.reduceLT, Int.reduceLE, Nat.reduceLT, Nat.reduceEqDiff] at hc) <;> try first | (exfalso; omega) | exact btf hc | exact bft hc) | refine loop_round ?_ | refine fact_in (fun hby => ?_) | refine un_rfl ?_ | refine stp ?_ | exact obs | with_reducible refine And.intro ?_ ?_ | refine nrm ?_ | apply row_eq | refine cte ?_ | refine ctd ?_ | refine cse ?_ | refine csd ?_ | refine wrp ?_ | refine stq ?_ | refine cps ?_ | refine opn ?_ | exact eqs | (intro _; rfl))
    refine ret_eq ?_ (by rfl); rfl
instance {n : Int} : Con Sx0 21 [.int .i64 n, .int .i64 2] (0 ≤ n ∧ n ≤ 99) (.str (dig2 n)) := con (digits2_call n)
theorem digits4_call (n : Int) (h : 0 ≤ n ∧ n ≤ 9999) : CallF Cx 21 [.int .i64 n, .int .i64 4] [] (.str (dig4 n)) [] := by
  by_cases h1 : n < 10
  · have e := itoa_one (n := n) (by omega)
    have c : Con Sx0 52 [.int .i64 n] True (.str [dgt n]) := con0 (by rw [← e]; exact itoa_call n (by omega))
    refine sy_call (X := Sx0) (fun _ => false) [] [] (fn := Tryz.f21) Tryz.func21 rfl (by decide) rfl rfl ?_
    repeat' (first | (apply run; conv => whnf) | (refine splitT ?_ ?_; focus (simp; done)) | (refine splitF ?_ ?_; focus (simp; done)) | (with_reducible first | refine snt ?_ | refine snf ?_ | refine sht ?_ | refine shf ?_) | ((first | with_reducible refine split_neg (fun hc => ?_) (fun hc => ?_) | refine split (fun hc => ?_) (fun hc => ?_)) <;> (try simp only [bsl, true_implies, false_implies, Int.reduceEq, Int.reduceLT, Int.reduceLE, Nat.reduceLT, Nat.reduceEqDiff] at hc) <;> try first | (exfalso; omega) | exact btf hc | exact bft hc) | refine loop_round ?_ | refine fact_in (fun hby => ?_) | refine un_rfl ?_ | refine stp ?_ | exact obs | with_reducible refine And.intro ?_ ?_ | refine nrm ?_ | apply row_eq | refine cte ?_ | refine ctd ?_ | refine cse ?_ | refine csd ?_ | refine wrp ?_ | refine stq ?_ | refine cps ?_ | refine opn ?_ | exact eqs | (intro _; rfl))
    refine ret_eq ?_ (by rfl)
    simp only [dig4, dgt]
    rw [show n / 1000 = 0 by omega, show n / 100 % 10 = 0 by omega, show n / 10 % 10 = 0 by omega, show n % 10 = n by omega]; rfl
  · by_cases h2 : n < 100
    · have e := itoa_two (n := n) (by omega)
      have c : Con Sx0 52 [.int .i64 n] True (.str [dgt (n / 10), dgt (n % 10)]) := con0 (by rw [show [dgt (n / 10), dgt (n % 10)] = Lib.itoa n from e.symm]; exact itoa_call n (by omega))
      refine sy_call (X := Sx0) (fun _ => false) [] [] (fn := Tryz.f21) Tryz.func21 rfl (by decide) rfl rfl ?_
      repeat' (first | (apply run; conv => whnf) | (refine splitT ?_ ?_; focus (simp; done)) | (refine splitF ?_ ?_; focus (simp; done)) | (with_reducible first | refine snt ?_ | refine snf ?_ | refine sht ?_ | refine shf ?_) | ((first | with_reducible refine split_neg (fun hc => ?_) (fun hc => ?_) | refine split (fun hc => ?_) (fun hc => ?_)) <;> (try simp only [bsl, true_implies, false_implies, Int.reduceEq, Int.reduceLT, Int.reduceLE, Nat.reduceLT, Nat.reduceEqDiff] at hc) <;> try first | (exfalso; omega) | exact btf hc | exact bft hc) | refine loop_round ?_ | refine fact_in (fun hby => ?_) | refine un_rfl ?_ | refine stp ?_ | exact obs | with_reducible refine And.intro ?_ ?_ | refine nrm ?_ | apply row_eq | refine cte ?_ | refine ctd ?_ | refine cse ?_ | refine csd ?_ | refine wrp ?_ | refine stq ?_ | refine cps ?_ | refine opn ?_ | exact eqs | (intro _; rfl))
      refine ret_eq ?_ (by rfl)
      simp only [dig4, dgt]
      rw [show n / 1000 = 0 by omega, show n / 100 % 10 = 0 by omega, show n / 10 % 10 = n / 10 by omega]; rfl
    · by_cases h3 : n < 1000
      · have e := itoa_three (n := n) (by omega)
        have c : Con Sx0 52 [.int .i64 n] True (.str [dgt (n / 100), dgt (n / 10 % 10), dgt (n % 10)]) := con0 (by rw [← e]; exact itoa_call n (by omega))
        refine sy_call (X := Sx0) (fun _ => false) [] [] (fn := Tryz.f21) Tryz.func21 rfl (by decide) rfl rfl ?_
        repeat' (first | (apply run; conv => whnf) | (refine splitT ?_ ?_; focus (simp; done)) | (refine splitF ?_ ?_; focus (simp; done)) | (with_reducible first | refine snt ?_ | refine snf ?_ | refine sht ?_ | refine shf ?_) | ((first | with_reducible refine split_neg (fun hc => ?_) (fun hc => ?_) | refine split (fun hc => ?_) (fun hc => ?_)) <;> (try simp only [bsl, true_implies, false_implies, Int.reduceEq, Int.reduceLT, Int.reduceLE, Nat.reduceLT, Nat.reduceEqDiff] at hc) <;> try first | (exfalso; omega) | exact btf hc | exact bft hc) | refine loop_round ?_ | refine fact_in (fun hby => ?_) | refine un_rfl ?_ | refine stp ?_ | exact obs | with_reducible refine And.intro ?_ ?_ | refine nrm ?_ | apply row_eq | refine cte ?_ | refine ctd ?_ | refine cse ?_ | refine csd ?_ | refine wrp ?_ | refine stq ?_ | refine cps ?_ | refine opn ?_ | exact eqs | (intro _; rfl))
        refine ret_eq ?_ (by rfl)
        simp only [dig4, dgt]
        rw [show n / 1000 = 0 by omega, show n / 100 % 10 = n / 100 by omega]; rfl
      · have e := itoa_four (n := n) (by omega)
        have c : Con Sx0 52 [.int .i64 n] True (.str [dgt (n / 1000), dgt (n / 100 % 10), dgt (n / 10 % 10), dgt (n % 10)]) := con0 (by rw [show [dgt (n / 1000), dgt (n / 100 % 10), dgt (n / 10 % 10), dgt (n % 10)] = Lib.itoa n from e.symm]; exact itoa_call n (by omega))
        refine sy_call (X := Sx0) (fun _ => false) [] [] (fn := Tryz.f21) Tryz.func21 rfl (by decide) rfl rfl ?_
        repeat' (first | (apply run; conv => whnf) | (refine splitT ?_ ?_; focus (simp; done)) | (refine splitF ?_ ?_; focus (simp; done)) | (with_reducible first | refine snt ?_ | refine snf ?_ | refine sht ?_ | refine shf ?_) | ((first | with_reducible refine split_neg (fun hc => ?_) (fun hc => ?_) | refine split (fun hc => ?_) (fun hc => ?_)) <;> (try simp only [bsl, true_implies, false_implies, Int.reduceEq, Int.reduceLT, Int.reduceLE, Nat.reduceLT, Nat.reduceEqDiff] at hc) <;> try first | (exfalso; omega) | exact btf hc | exact bft hc) | refine loop_round ?_ | refine fact_in (fun hby => ?_) | refine un_rfl ?_ | refine stp ?_ | exact obs | with_reducible refine And.intro ?_ ?_ | refine nrm ?_ | apply row_eq | refine cte ?_ | refine ctd ?_ | refine cse ?_ | refine csd ?_ | refine wrp ?_ | refine stq ?_ | refine cps ?_ | refine opn ?_ | exact eqs | (intro _; rfl))
        refine ret_eq ?_ (by rfl); rfl
instance {n : Int} : Con Sx0 21 [.int .i64 n, .int .i64 4] (0 ≤ n ∧ n ≤ 9999) (.str (dig4 n)) := con (digits4_call n)
end Go.Proofs.YtaajfbcopafkaaaGreatDoor.Ai
