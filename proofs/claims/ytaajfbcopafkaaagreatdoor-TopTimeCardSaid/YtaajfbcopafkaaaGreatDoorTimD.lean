/- TopTime: what the texts of Of say for each time; the value of a time's element. Own work of this seat. -/
import Derived.Test.YtaajfbcopafkaaaGreatDoorTimC
import Derived.Test.YtaajfbcopafkaaaGreatDoorTimO1
import Derived.Test.YtaajfbcopafkaaaGreatDoorTimO2
import Derived.Test.YtaajfbcopafkaaaGreatDoorTimO4
namespace Go.Proofs.YtaajfbcopafkaaaGreatDoor.Ai
open Go
set_option linter.unusedSimpArgs false
set_option linter.unusedVariables false
set_option maxHeartbeats 4000000
set_option maxRecDepth 100000
theorem con5 {g : FuncId} {k : Int} {rows : List (List AVal)} {cap : Option Nat} {r : AVal} (h : CallF Cx g [.agg [.int .u8 0, .bool false, .int .u32 k, .slc 1 rows cap, .slc 5 [] (some 0)]] [] r []) : Con Sx0 g [.agg [.int .u8 0, .bool false, .int .u32 k, .slc 1 rows cap, .slc 0 [] (some 0)]] True r :=
  ⟨fun _ => ⟨[.agg [.int .u8 0, .bool false, .int .u32 k, .slc 1 rows cap, .slc 5 [] (some 0)]], PLs.list ⟨ple_agg ⟨.refl _, .refl _, .refl _, .refl _, ple_nil (.inr rfl), trivial⟩, trivial⟩, h⟩⟩
theorem con55 {g : FuncId} {k l : Int} {rows rows' : List (List AVal)} {cap cap' : Option Nat} {r : AVal} (h : CallF Cx g [.agg [.int .u8 0, .bool false, .int .u32 k, .slc 1 rows cap, .slc 5 [] (some 0)], .agg [.int .u8 0, .bool false, .int .u32 l, .slc 1 rows' cap', .slc 5 [] (some 0)]] [] r []) :
    Con Sx0 g [.agg [.int .u8 0, .bool false, .int .u32 k, .slc 1 rows cap, .slc 0 [] (some 0)], .agg [.int .u8 0, .bool false, .int .u32 l, .slc 1 rows' cap', .slc 0 [] (some 0)]] True r :=
  ⟨fun _ => ⟨[.agg [.int .u8 0, .bool false, .int .u32 k, .slc 1 rows cap, .slc 5 [] (some 0)], .agg [.int .u8 0, .bool false, .int .u32 l, .slc 1 rows' cap', .slc 5 [] (some 0)]],
    PLs.list ⟨ple_agg ⟨.refl _, .refl _, .refl _, .refl _, ple_nil (.inr rfl), trivial⟩, ple_agg ⟨.refl _, .refl _, .refl _, .refl _, ple_nil (.inr rfl), trivial⟩, trivial⟩, h⟩⟩
theorem isD_dgt {n : Int} (h : 0 ≤ n ∧ n ≤ 9) : isD (dgt n) := by
  have := dgt_nat h
  unfold isD
  omega
theorem num2_dgt {n m : Int} (h : 0 ≤ n ∧ n ≤ 9) (k : 0 ≤ m ∧ m ≤ 9) : num2 (dgt n) (dgt m) = 10 * n + m := by
  have h1 := dgt_nat h
  have h2 := dgt_nat k
  unfold num2
  omega
theorem num4_dgt {a b c d : Int} (h1 : 0 ≤ a ∧ a ≤ 9) (h2 : 0 ≤ b ∧ b ≤ 9) (h3 : 0 ≤ c ∧ c ≤ 9) (h4 : 0 ≤ d ∧ d ≤ 9) : num4 (dgt a) (dgt b) (dgt c) (dgt d) = 10 * (10 * (10 * a + b) + c) + d := by
  have h1 := dgt_nat h1
  have h2 := dgt_nat h2
  have h3 := dgt_nat h3
  have h4 := dgt_nat h4
  unfold num4
  omega
theorem two_dgt {n : Int} (h : 0 ≤ n ∧ n ≤ 99) : num2 (dgt (n / 10)) (dgt (n % 10)) = n ∧ isD (dgt (n / 10)) ∧ isD (dgt (n % 10)) := by
  refine ⟨?_, isD_dgt (by omega), isD_dgt (by omega)⟩
  rw [num2_dgt (by omega) (by omega)]
  omega
theorem timOf_call (t : Tim) (h : t.ok) (cap : Option Nat) : CallF Cx 31 [.agg [.int .u8 0, .bool false, .int .u32 t.tag, .slc 1 (t.bytes.map bytesRow) cap, .slc 5 [] (some 0)]] [] (.tup [t.av, .int .i64 0]) [] := by
  have hok := h
  obtain ⟨y, mo, d, hh, mi, s⟩ := t
  obtain ⟨a1, a2, a3, a4, a5, a6⟩ := h
  dsimp only at a1 a2 a3 a4 a5 a6
  have hb := daysI_bd y mo
  obtain ⟨q2, m1, m2⟩ := two_dgt (n := mo) (by omega)
  obtain ⟨q3, m3, m4⟩ := two_dgt (n := d) (by omega)
  obtain ⟨q4, m5, m6⟩ := two_dgt (n := hh) (by omega)
  obtain ⟨q5, m7, m8⟩ := two_dgt (n := mi) (by omega)
  obtain ⟨q6, m9, m0⟩ := two_dgt (n := s) (by omega)
  obtain ⟨q1, n1, n2⟩ := two_dgt (n := y % 100) (by omega)
  by_cases hu : 1950 ≤ y ∧ y ≤ 2049
  · have e : Tim.utc ⟨y, mo, d, hh, mi, s⟩ = true := by simp [Tim.utc, hu]
    have et : Tim.tag ⟨y, mo, d, hh, mi, s⟩ = 23 := by simp [Tim.tag, e]
    have eb : Tim.bytes ⟨y, mo, d, hh, mi, s⟩ = [dgt (y % 100 / 10), dgt (y % 100 % 10), dgt (mo / 10), dgt (mo % 10), dgt (d / 10), dgt (d % 10), dgt (hh / 10), dgt (hh % 10), dgt (mi / 10), dgt (mi % 10), dgt (s / 10), dgt (s % 10), 90] := by
      unfold Tim.bytes Tim.rest
      rw [if_pos e]
      rfl
    rw [et, eb]
    by_cases hc : y < 2000
    · have k := timOf_1 (dgt (y % 100 / 10)) (dgt (y % 100 % 10)) (dgt (mo / 10)) (dgt (mo % 10)) (dgt (d / 10)) (dgt (d % 10)) (dgt (hh / 10)) (dgt (hh % 10)) (dgt (mi / 10)) (dgt (mi % 10)) (dgt (s / 10)) (dgt (s % 10)) ⟨n1, n2, m1, m2, m3, m4, m5, m6, m7, m8, m9, m0⟩
      rw [q1, q2, q3, q4, q5, q6, show y % 100 + 1900 = y by omega] at k
      exact k (by omega) hok cap
    · have k := timOf_2 (dgt (y % 100 / 10)) (dgt (y % 100 % 10)) (dgt (mo / 10)) (dgt (mo % 10)) (dgt (d / 10)) (dgt (d % 10)) (dgt (hh / 10)) (dgt (hh % 10)) (dgt (mi / 10)) (dgt (mi % 10)) (dgt (s / 10)) (dgt (s % 10)) ⟨n1, n2, m1, m2, m3, m4, m5, m6, m7, m8, m9, m0⟩
      rw [q1, q2, q3, q4, q5, q6, show y % 100 + 1900 + 100 = y by omega] at k
      exact k (by omega) hok cap
  · have e : ¬ Tim.utc ⟨y, mo, d, hh, mi, s⟩ = true := by simp [Tim.utc]; omega
    have et : Tim.tag ⟨y, mo, d, hh, mi, s⟩ = 24 := by simp [Tim.tag, e]
    have eb : Tim.bytes ⟨y, mo, d, hh, mi, s⟩ = [dgt (y / 1000), dgt (y / 100 % 10), dgt (y / 10 % 10), dgt (y % 10), dgt (mo / 10), dgt (mo % 10), dgt (d / 10), dgt (d % 10), dgt (hh / 10), dgt (hh % 10), dgt (mi / 10), dgt (mi % 10), dgt (s / 10), dgt (s % 10), 90] := by
      unfold Tim.bytes Tim.rest
      rw [if_neg e]
      rfl
    rw [et, eb]
    have k := timOf_4 (dgt (y / 1000)) (dgt (y / 100 % 10)) (dgt (y / 10 % 10)) (dgt (y % 10)) (dgt (mo / 10)) (dgt (mo % 10)) (dgt (d / 10)) (dgt (d % 10)) (dgt (hh / 10)) (dgt (hh % 10)) (dgt (mi / 10)) (dgt (mi % 10)) (dgt (s / 10)) (dgt (s % 10)) ⟨isD_dgt (by omega), isD_dgt (by omega), isD_dgt (by omega), isD_dgt (by omega), m1, m2, m3, m4, m5, m6, m7, m8, m9, m0⟩
    rw [num4_dgt (by omega) (by omega) (by omega) (by omega), q2, q3, q4, q5, q6, show 10 * (10 * (10 * (y / 1000) + y / 100 % 10) + y / 10 % 10) + y % 10 = y by omega] at k
    exact k (by omega) hok cap
theorem tim_len (t : Tim) : t.utc = true ∧ t.tag = 23 ∧ t.bytes.length = 13 ∨ t.utc = false ∧ t.tag = 24 ∧ t.bytes.length = 15 := by
  cases e : t.utc with
  | true => exact .inl ⟨rfl, by simp [Tim.tag, e], by simp [Tim.bytes, Tim.rest, e, dig2]⟩
  | false => exact .inr ⟨rfl, by simp [Tim.tag, e], by simp [Tim.bytes, Tim.rest, e, dig2, dig4]⟩
instance : Inl Sx0 24 (Tryz.f24.body.getD .skip) Tryz.f24.results.toList Tryz.f24.ntmps := inl Tryz.func24 rfl (by decide) rfl rfl
instance : Inl Sx0 54 (Tryz.f54.body.getD .skip) Tryz.f54.results.toList Tryz.f54.ntmps := inl Tryz.func54 rfl (by decide) rfl rfl
theorem elCheck_call (k : Int) (rows : List (List AVal)) (cap : Option Nat) (hk : k = 23 ∨ k = 24) : CallF Cx 23 [.agg [.int .u8 0, .bool false, .int .u32 k, .slc 1 rows cap, .slc 5 [] (some 0)]] [] (.int .i64 0) [] := by
  rcases hk with rfl | rfl
  all_goals
    refine sy_call (X := Sx0) (fun _ => false) [] [] (fn := Tryz.f23) Tryz.func23 rfl (by decide) rfl rfl ?_
    repeat' (first | (apply run; conv => whnf) | (with_reducible first | refine snt ?_ | refine snf ?_ | refine sht ?_ | refine shf ?_) | ((first | with_reducible refine split_neg (fun hc => ?_) (fun hc => ?_) | refine split (fun hc => ?_) (fun hc => ?_)) <;> (try simp only [bsl, true_implies, false_implies, Int.reduceEq, Int.reduceLT, Int.reduceLE, Nat.reduceLT, Nat.reduceEqDiff] at hc) <;> try first | (exfalso; omega) | exact btf hc | exact bft hc) | refine loop_round ?_ | refine fact_in (fun hby => ?_) | refine un_rfl ?_ | refine stp ?_ | exact obs | with_reducible refine And.intro ?_ ?_ | refine nrm ?_ | apply row_eq | refine cte ?_ | refine ctd ?_ | refine cse ?_ | refine csd ?_ | refine wrp ?_ | refine stq ?_ | refine cps ?_ | refine opn ?_ | exact eqs | (intro _; rfl))
    refine ret_eq ?_ (by rfl); rfl
instance {rows : List (List AVal)} {cap : Option Nat} : Con Sx0 23 [.agg [.int .u8 0, .bool false, .int .u32 23, .slc 1 rows cap, .slc 5 [] (some 0)]] True (.int .i64 0) := con0 (elCheck_call 23 rows cap (.inl rfl))
instance {rows : List (List AVal)} {cap : Option Nat} : Con Sx0 23 [.agg [.int .u8 0, .bool false, .int .u32 24, .slc 1 rows cap, .slc 5 [] (some 0)]] True (.int .i64 0) := con0 (elCheck_call 24 rows cap (.inr rfl))
theorem Value_call (t : Tim) (h : t.ok) (cap : Option Nat) : CallF Cx 7 [.agg [.int .u8 0, .bool false, .int .u32 t.tag, .slc 1 (t.bytes.map bytesRow) cap, .slc 5 [] (some 0)]] [] (.str t.text) [] := by
  have c1 := timOf_call t h cap
  have c2 := timText_call t h
  have hl := tim_len t
  generalize t.bytes = b at *
  generalize t.text = tx at *
  generalize t.tag = k at *
  generalize t.utc = u at *
  obtain ⟨y, mo, d, hh, mi, s⟩ := t
  unfold Tim.av at c1 c2
  dsimp only at c1 c2
  have d1 := @con0 Sx0 _ _ _ c1
  have d2 := @con0 Sx0 _ _ _ c2
  clear c1 c2 h
  rcases hl with ⟨_, rfl, hl⟩ | ⟨_, rfl, hl⟩
  all_goals
    refine sy_call (X := Sx0) (fun _ => false) [] [] (fn := Tryz.f7) Tryz.func7 rfl (by decide) rfl rfl ?_
    repeat' (first | (apply run; conv => whnf) | (with_reducible first | refine snt ?_ | refine snf ?_ | refine sht ?_ | refine shf ?_) | ((first | with_reducible refine split_neg (fun hc => ?_) (fun hc => ?_) | refine split (fun hc => ?_) (fun hc => ?_)) <;> (try simp only [bsl, true_implies, false_implies, Int.reduceEq, Int.reduceLT, Int.reduceLE, Nat.reduceLT, Nat.reduceEqDiff] at hc) <;> try first | (exfalso; omega) | exact btf hc | exact bft hc) | refine loop_round ?_ | refine fact_in (fun hby => ?_) | refine un_rfl ?_ | refine stp ?_ | exact obs | with_reducible refine And.intro ?_ ?_ | refine nrm ?_ | apply row_eq | refine cte ?_ | refine ctd ?_ | refine cse ?_ | refine csd ?_ | refine wrp ?_ | refine stq ?_ | refine cps ?_ | refine opn ?_ | exact eqs | (intro _; rfl))
    refine ret_eq ?_ (by rfl); rfl
end Go.Proofs.YtaajfbcopafkaaaGreatDoor.Ai
