/- Small functions of chapter 9. Own work of this seat. -/
import Derived.Test.YtaajfbcopafkaaaGreatDoorRefA
namespace Go.Proofs.YtaajfbcopafkaaaGreatDoor.Ai
open Go
set_option linter.unusedSimpArgs false
set_option linter.unusedVariables false
set_option maxHeartbeats 4000000
set_option maxRecDepth 100000
def i64Row (n : Int) : List AVal := [.int .i64 n]
def u32Row (n : Int) : List AVal := [.int .u32 n]
def kindNo : List Int := [12, 19, 22, 26, 30]
theorem number_call (i : Nat) (hi : i < 5) : CallF Cx 40 [.int .i64 (i : Int)] [] (.int .u32 (kindNo.getD i 0)) [] := by
 have h5 : i = 0 ∨ i = 1 ∨ i = 2 ∨ i = 3 ∨ i = 4 := by omega
 rcases h5 with rfl | rfl | rfl | rfl | rfl
 all_goals
  refine sy_call (X := Sx0) (fun _ => false) [] [] (fn := Tryz.f40) Tryz.func40 rfl (by decide) rfl rfl ?_
  repeat' (first | (apply run; conv => whnf) | (with_reducible first | refine snt ?_ | refine snf ?_ | refine sht ?_ | refine shf ?_) | ((first | with_reducible refine split_neg (fun hc => ?_) (fun hc => ?_) | refine split (fun hc => ?_) (fun hc => ?_)) <;> (try simp only [bsl, true_implies, false_implies, Int.reduceEq, Int.reduceLT, Int.reduceLE, Nat.reduceLT, Nat.reduceEqDiff] at hc) <;> try first | (exfalso; omega) | exact btf hc | exact bft hc) | refine fact_in (fun hby => ?_) | refine un_rfl ?_ | refine stp ?_ | exact obs | with_reducible refine And.intro ?_ ?_ | refine nrm ?_ | apply row_eq | refine cte ?_ | refine ctd ?_ | refine cse ?_ | refine csd ?_ | refine wrp ?_ | refine stq ?_ | refine cps ?_ | refine opn ?_ | exact eqs | (intro _; rfl))
  all_goals (refine ret_eq ?_ (by rfl); rfl)
theorem between_call (a b : Int) : CallF Cx 127 [.int .i32 a, .int .i32 b] [] (.func 184 [] [.rptr [.int .i32 a], .rptr [.int .i32 b]]) [] := by
 refine sy_call (X := Sx0) (fun _ => false) [] [] (fn := Tryz.f127) Tryz.func127 rfl (by decide) rfl rfl ?_
 repeat' (first | (apply run; conv => whnf) | (with_reducible first | refine snt ?_ | refine snf ?_ | refine sht ?_ | refine shf ?_) | ((first | with_reducible refine split_neg (fun hc => ?_) (fun hc => ?_) | refine split (fun hc => ?_) (fun hc => ?_)) <;> (try simp only [bsl, true_implies, false_implies, Int.reduceEq, Int.reduceLT, Int.reduceLE, Nat.reduceLT, Nat.reduceEqDiff] at hc) <;> try first | (exfalso; omega) | exact btf hc | exact bft hc) | refine fact_in (fun hby => ?_) | refine un_rfl ?_ | refine stp ?_ | exact obs | with_reducible refine And.intro ?_ ?_ | refine nrm ?_ | apply row_eq | refine cte ?_ | refine ctd ?_ | refine cse ?_ | refine csd ?_ | refine wrp ?_ | refine stq ?_ | refine cps ?_ | refine opn ?_ | exact eqs | (intro _; rfl))
 all_goals (refine ret_eq ?_ (by rfl); rfl)
instance {a b : Int} : Con Sx0 127 [.int .i32 a, .int .i32 b] True (.func 184 [] [.rptr [.int .i32 a], .rptr [.int .i32 b]]) := con0 (between_call a b)
def validR (c : Int) : Bool := decide (0 ≤ c ∧ c < 55296 ∨ 57343 < c ∧ c ≤ 1114111)
theorem validRune_call (c : Int) : CallF Cx 89 [.int .i32 c] [] (.bool (validR c)) [] := by
 refine sy_call (X := Sx0) (fun _ => false) [] [] (fn := Tryz.f89) Tryz.func89 rfl (by decide) rfl rfl ?_
 repeat' (first | (apply run; conv => whnf) | (with_reducible first | refine snt ?_ | refine snf ?_ | refine sht ?_ | refine shf ?_) | ((first | with_reducible refine split_neg (fun hc => ?_) (fun hc => ?_) | refine split (fun hc => ?_) (fun hc => ?_)) <;> (try simp only [bsl, true_implies, false_implies, Int.reduceEq, Int.reduceLT, Int.reduceLE, Nat.reduceLT, Nat.reduceEqDiff] at hc) <;> try first | (exfalso; omega) | exact btf hc | exact bft hc) | refine fact_in (fun hby => ?_) | refine un_rfl ?_ | refine stp ?_ | exact obs | with_reducible refine And.intro ?_ ?_ | refine nrm ?_ | apply row_eq | refine cte ?_ | refine ctd ?_ | refine cse ?_ | refine csd ?_ | refine wrp ?_ | refine stq ?_ | refine cps ?_ | refine opn ?_ | exact eqs | (intro _; rfl))
 all_goals (refine ret_eq ?_ (by rfl); simp [validR]; omega)
instance {c : Int} : Con Sx0 89 [.int .i32 c] True (.bool (validR c)) := con0 (validRune_call c)
theorem between1_call (a b c : Int) : CallF Cx 184 [.int .i32 c, .rptr [.int .i32 a], .rptr [.int .i32 b]] [] (.bool (decide (a ≤ c ∧ c ≤ b))) [] := by
 refine sy_call (X := Sx0) (fun _ => false) [] [] (fn := Tryz.f184) Tryz.func184 rfl (by decide) rfl rfl ?_
 repeat' (first | (apply run; conv => whnf) | (with_reducible first | refine snt ?_ | refine snf ?_ | refine sht ?_ | refine shf ?_) | ((first | with_reducible refine split_neg (fun hc => ?_) (fun hc => ?_) | refine split (fun hc => ?_) (fun hc => ?_)) <;> (try simp only [bsl, true_implies, false_implies, Int.reduceEq, Int.reduceLT, Int.reduceLE, Nat.reduceLT, Nat.reduceEqDiff] at hc) <;> try first | (exfalso; omega) | exact btf hc | exact bft hc) | refine fact_in (fun hby => ?_) | refine un_rfl ?_ | refine stp ?_ | exact obs | with_reducible refine And.intro ?_ ?_ | refine nrm ?_ | apply row_eq | refine cte ?_ | refine ctd ?_ | refine cse ?_ | refine csd ?_ | refine wrp ?_ | refine stq ?_ | refine cps ?_ | refine opn ?_ | exact eqs | (intro _; rfl))
 all_goals (refine ret_eq ?_ (by rfl); simp [*])
instance {a b c : Int} : Con Sx0 184 [.int .i32 c, .rptr [.int .i32 a], .rptr [.int .i32 b]] True (.bool (decide (a ≤ c ∧ c ≤ b))) := con0 (between1_call a b c)
theorem find1_call (n m : Int) (fi gi : FuncId) (fb fc gb gc : List AVal) (h1 : norefL fb = true) (h2 : norefL fc = true) (h3 : norefL gb = true) (h4 : norefL gc = true) : CallF Cx 85 [.agg [.int .u32 m, .func fi fb fc, .func gi gb gc], .rptr [.int .u32 n]] [] (.bool (decide (m = n))) [] := by
 refine sy_call (X := Sx0) (fun _ => false) [] [] (fn := Tryz.f85) Tryz.func85 rfl (by decide) rfl rfl ?_
 repeat' (first | (apply run; conv => whnf) | (with_reducible first | refine snt ?_ | refine snf ?_ | refine sht ?_ | refine shf ?_) | ((first | with_reducible refine split_neg (fun hc => ?_) (fun hc => ?_) | refine split (fun hc => ?_) (fun hc => ?_)) <;> (try simp only [bsl, true_implies, false_implies, Int.reduceEq, Int.reduceLT, Int.reduceLE, Nat.reduceLT, Nat.reduceEqDiff] at hc) <;> try first | (exfalso; omega) | exact btf hc | exact bft hc) | refine fact_in (fun hby => ?_) | refine un_rfl ?_ | refine stp ?_ | exact obs | with_reducible refine And.intro ?_ ?_ | refine nrm ?_ | apply row_eq | refine cte ?_ | refine ctd ?_ | refine cse ?_ | refine csd ?_ | refine wrp ?_ | refine stq ?_ | refine cps ?_ | refine opn ?_ | exact eqs | (intro _; rfl))
 all_goals (refine ret_eq ?_ (by rfl); simp [*])
end Go.Proofs.YtaajfbcopafkaaaGreatDoor.Ai
