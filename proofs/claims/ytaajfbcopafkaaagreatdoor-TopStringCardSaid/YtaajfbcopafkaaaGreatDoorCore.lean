/- charstrings.Of, Length, Compare, Convert, Kinds. Own work of this seat. -/
import Derived.Test.YtaajfbcopafkaaaGreatDoorGet
namespace Go.Proofs.YtaajfbcopafkaaaGreatDoor.Ai
open Go
set_option linter.unusedSimpArgs false
set_option linter.unusedVariables false
set_option maxHeartbeats 4000000
set_option maxRecDepth 100000
attribute [local irreducible] decodeL
def ofE (cl : Int) (co : Bool) (n : Int) (b : List UInt8) (m : Nat) : Int := if kindI n = 0 ∨ ¬ (cl = 0 ∧ co = false) then 9 else if 0 < m then 1 else getE n b
theorem Of_call (cl : Int) (co : Bool) (n : Int) (b : List UInt8) (cap cap' : Option Nat) (rows : List (List AVal)) (hb : b.length ≤ 200000) :
  CallF Cx 17 [.agg [.int .u8 cl, .bool co, .int .u32 n, .slc 1 (b.map bytesRow) cap, .slc 5 rows cap']] [] (.tup [.agg [.int .u32 (if ofE cl co n b rows.length = 0 then n else 0), .str (if ofE cl co n b rows.length = 0 then getT n b else [])], .int .i64 (ofE cl co n b rows.length)]) [] := by
 by_cases hk : kindI n = 0
 ·have e : ofE cl co n b rows.length = 9 := by simp [ofE, hk]
  rw [e]
  refine sy_call (X := Sx0) (fun _ => false) [] [] (fn := Tryz.f17) Tryz.func17 rfl (by decide) rfl rfl ?_
  repeat' (first | (apply run; conv => whnf) | (with_reducible first | refine snt ?_ | refine snf ?_ | refine sht ?_ | refine shf ?_) | ((first | with_reducible refine split_neg (fun hc => ?_) (fun hc => ?_) | refine split (fun hc => ?_) (fun hc => ?_)) <;> (try simp only [bsl, true_implies, false_implies, Int.reduceEq, Int.reduceLT, Int.reduceLE, Nat.reduceLT, Nat.reduceEqDiff] at hc) <;> try first | (exfalso; omega) | exact btf hc | exact bft hc) | refine fact_in (fun hby => ?_) | refine un_rfl ?_ | refine stp ?_ | exact obs | with_reducible refine And.intro ?_ ?_ | refine nrm ?_ | apply row_eq | refine cte ?_ | refine ctd ?_ | refine cse ?_ | refine csd ?_ | refine wrp ?_ | refine stq ?_ | refine cps ?_ | refine opn ?_ | exact eqs | (intro _; rfl))
  refine ret_eq ?_ (by rfl); rfl
 ·have key : ∀ e : Int, e ≠ 0 → ofE cl co n b rows.length = e → AVal.tup [.agg [.int .u32 0, .str []], .int .i64 e] = .tup [.agg [.int .u32 (if ofE cl co n b rows.length = 0 then n else 0), .str (if ofE cl co n b rows.length = 0 then getT n b else [])], .int .i64 (ofE cl co n b rows.length)] := by
    intro e he h
    simp [h, he]
  have key2 : (cl = 0 ∧ co = false) → ¬ 0 < (rows.length : Int) → AVal.tup [.agg [.int .u32 (if getE n b = 0 then n else 0), .str (getT n b)], .int .i64 (getE n b)] = .tup [.agg [.int .u32 (if ofE cl co n b rows.length = 0 then n else 0), .str (if ofE cl co n b rows.length = 0 then getT n b else [])], .int .i64 (ofE cl co n b rows.length)] := by
   intro h1 h2
   have e : ofE cl co n b rows.length = getE n b := by simp only [ofE]; rw [if_neg (by simp [hk, h1]), if_neg (by omega)]
   rw [e]
   by_cases h : getE n b = 0
   ·rw [if_pos h, if_pos h]
   ·rw [if_neg h, if_neg h, getT, if_neg h]
  rcases kind_cases n with rfl | rfl | rfl | rfl | rfl | h0
  all_goals try (exact absurd h0 hk)
  all_goals
   refine sy_call (X := Sx0) (fun _ => false) [] [] (fn := Tryz.f17) Tryz.func17 rfl (by decide) rfl rfl ?_
   repeat' (first | (apply run; conv => whnf) | (with_reducible first | refine snt ?_ | refine snf ?_ | refine sht ?_ | refine shf ?_) | ((first | with_reducible refine split_neg (fun hc => ?_) (fun hc => ?_) | refine split (fun hc => ?_) (fun hc => ?_)) <;> (try simp only [bsl, true_implies, false_implies, Int.reduceEq, Int.reduceLT, Int.reduceLE, Nat.reduceLT, Nat.reduceEqDiff] at hc) <;> try first | (exfalso; omega) | exact btf hc | exact bft hc) | refine fact_in (fun hby => ?_) | refine un_rfl ?_ | refine stp ?_ | exact obs | with_reducible refine And.intro ?_ ?_ | refine nrm ?_ | apply row_eq | refine cte ?_ | refine ctd ?_ | refine cse ?_ | refine csd ?_ | refine wrp ?_ | refine stq ?_ | refine cps ?_ | refine opn ?_ | exact eqs | (intro _; rfl))
  all_goals first
   | (refine ret_eq ?_ (by rfl); exact key 9 (by decide) (by simp only [ofE]; rw [if_pos (.inr (by rintro ⟨h1, h2⟩; first | exact hc h1 h2 | simp_all))]))
   | (refine ret_eq ?_ (by rfl); exact key 1 (by decide) (by simp only [ofE]; rw [if_neg (by simp_all), if_pos (by omega)]))
   | (refine ret_eq ?_ (by rfl); exact key2 (by assumption) (by assumption))
def cntI (k : Int) (s : List UInt8) : Int := if checkI k s = 0 then (decT s).length else 0
theorem runeCount_call (s : List UInt8) (hs : (decS s).isSome = true) (hl : s.length ≤ 1000000) : CallF Cx 49 [.str s] [] (.int .i64 (decT s).length) [] := by
 have hsome := hs
 refine sy_call (X := Sx0) (fun _ => false) [] [] (fn := Tryz.f49) Tryz.func49 rfl (by decide) rfl rfl ?_
 repeat' (first | (apply run; conv => whnf) | (with_reducible first | refine snt ?_ | refine snf ?_ | refine sht ?_ | refine shf ?_) | ((first | with_reducible refine split_neg (fun hc => ?_) (fun hc => ?_) | refine split (fun hc => ?_) (fun hc => ?_)) <;> (try simp only [bsl, true_implies, false_implies, Int.reduceEq, Int.reduceLT, Int.reduceLE, Nat.reduceLT, Nat.reduceEqDiff] at hc) <;> try first | (exfalso; omega) | exact btf hc | exact bft hc) | refine fact_in (fun hby => ?_) | refine un_rfl ?_ | refine stp ?_ | exact obs | with_reducible refine And.intro ?_ ?_ | refine nrm ?_ | apply row_eq | refine cte ?_ | refine ctd ?_ | refine cse ?_ | refine csd ?_ | refine wrp ?_ | refine stq ?_ | refine cps ?_ | refine opn ?_ | exact eqs | (intro _; rfl))
 refine loop_rule (α := Nat × List Int × Nat) [2] 1 (fun x => [.int .i64 x.2.1.length]) (fun x => [.iter s x.1]) (fun x => x.1 ≤ s.length ∧ s.length ≤ x.1 + x.2.2 ∧ x.2.1.length ≤ x.1 ∧ decS s = (decL s x.2.2 x.1).map (x.2.1 ++ ·)) (fun x => s.length - x.1) ((0, [], s.length)) (fun _ => rfl) (by decide) ?_
 ((refine run ?_); conv => whnf)
 refine goal_in ⟨?_, fit_eq ?_, sto_take (n := 1) (Nat.le_of_ble_eq_true rfl) ?_⟩ (fun x hinv => ?_)
 ·refine ⟨Nat.zero_le _, by dsimp only; omega, by simp, ?_⟩
  simp [decS]
 ·rfl
 ·rfl
 obtain ⟨i, acc, f⟩ := x
 obtain ⟨hi, hf, ha, hd⟩ := hinv
 dsimp only at hi hf hd ha
 by_cases hlt : i < s.length
 ·obtain ⟨c, n, f, rfl, hat, hdec, c1, c2, c3, n1, n2, hf', hd'⟩ := decS_step hd hsome hlt hf
  have ec : ((decodeL s i).1 : Int) = c := by rw [hdec]; dsimp only; omega
  have en : (decodeL s i).2 = n := by rw [hdec]
  repeat' (first | (apply run; conv => whnf) | (with_reducible first | refine snt ?_ | refine snf ?_ | refine sht ?_ | refine shf ?_) | ((first | with_reducible refine split_neg (fun hc => ?_) (fun hc => ?_) | refine split (fun hc => ?_) (fun hc => ?_)) <;> (try simp only [bsl, true_implies, false_implies, Int.reduceEq, Int.reduceLT, Int.reduceLE, Nat.reduceLT, Nat.reduceEqDiff] at hc) <;> try first | (exfalso; omega) | exact btf hc | exact bft hc) | refine fact_in (fun hby => ?_) | refine un_rfl ?_ | refine stp ?_ | exact obs | with_reducible refine And.intro ?_ ?_ | refine nrm ?_ | apply row_eq | refine cte ?_ | refine ctd ?_ | refine cse ?_ | refine csd ?_ | refine wrp ?_ | refine stq ?_ | refine cps ?_ | refine opn ?_ | exact eqs | (intro _; rfl))
  refine meet_eq ((i + n, acc ++ [c], f)) ?_ ?_ (Nat.le_of_ble_eq_true rfl) ?_
  ·exact ⟨⟨n2, hf', by simp; omega, hd'⟩, by dsimp only; omega⟩
  ·simp
  ·simp [en]
 ·repeat' (first | (apply run; conv => whnf) | (with_reducible first | refine snt ?_ | refine snf ?_ | refine sht ?_ | refine shf ?_) | ((first | with_reducible refine split_neg (fun hc => ?_) (fun hc => ?_) | refine split (fun hc => ?_) (fun hc => ?_)) <;> (try simp only [bsl, true_implies, false_implies, Int.reduceEq, Int.reduceLT, Int.reduceLE, Nat.reduceLT, Nat.reduceEqDiff] at hc) <;> try first | (exfalso; omega) | exact btf hc | exact bft hc) | refine fact_in (fun hby => ?_) | refine un_rfl ?_ | refine stp ?_ | exact obs | with_reducible refine And.intro ?_ ?_ | refine nrm ?_ | apply row_eq | refine cte ?_ | refine ctd ?_ | refine cse ?_ | refine csd ?_ | refine wrp ?_ | refine stq ?_ | refine cps ?_ | refine opn ?_ | exact eqs | (intro _; rfl))
  refine ret_eq ?_ (by rfl)
  rw [decT_of (decS_end hd hlt)]
instance {s : List UInt8} : Con Sx0 49 [.str s] ((decS s).isSome = true ∧ s.length ≤ 1000000) (.int .i64 (decT s).length) := con fun h => runeCount_call s h.1 h.2
theorem Length_call (k : Int) (s : List UInt8) (hs : s.length ≤ 1000000) : CallF Cx 18 [.agg [.int .u32 k, .str s]] [] (.int .i64 (cntI k s)) [] := by
 by_cases h : checkI k s = 0
 ·obtain ⟨h1, h2, hsome, h4⟩ := checkI_dec h
  refine sy_call (X := Sx0) (fun _ => false) [] [] (fn := Tryz.f18) Tryz.func18 rfl (by decide) rfl rfl ?_
  repeat' (first | (apply run; conv => whnf) | (with_reducible first | refine snt ?_ | refine snf ?_ | refine sht ?_ | refine shf ?_) | ((first | with_reducible refine split_neg (fun hc => ?_) (fun hc => ?_) | refine split (fun hc => ?_) (fun hc => ?_)) <;> (try simp only [bsl, true_implies, false_implies, Int.reduceEq, Int.reduceLT, Int.reduceLE, Nat.reduceLT, Nat.reduceEqDiff] at hc) <;> try first | (exfalso; omega) | exact btf hc | exact bft hc) | refine fact_in (fun hby => ?_) | refine un_rfl ?_ | refine stp ?_ | exact obs | with_reducible refine And.intro ?_ ?_ | refine nrm ?_ | apply row_eq | refine cte ?_ | refine ctd ?_ | refine cse ?_ | refine csd ?_ | refine wrp ?_ | refine stq ?_ | refine cps ?_ | refine opn ?_ | exact eqs | (intro _; rfl))
  refine ret_eq ?_ (by rfl); simp [cntI, h]
 ·refine sy_call (X := Sx0) (fun _ => false) [] [] (fn := Tryz.f18) Tryz.func18 rfl (by decide) rfl rfl ?_
  repeat' (first | (apply run; conv => whnf) | (with_reducible first | refine snt ?_ | refine snf ?_ | refine sht ?_ | refine shf ?_) | ((first | with_reducible refine split_neg (fun hc => ?_) (fun hc => ?_) | refine split (fun hc => ?_) (fun hc => ?_)) <;> (try simp only [bsl, true_implies, false_implies, Int.reduceEq, Int.reduceLT, Int.reduceLE, Nat.reduceLT, Nat.reduceEqDiff] at hc) <;> try first | (exfalso; omega) | exact btf hc | exact bft hc) | refine fact_in (fun hby => ?_) | refine un_rfl ?_ | refine stp ?_ | exact obs | with_reducible refine And.intro ?_ ?_ | refine nrm ?_ | apply row_eq | refine cte ?_ | refine ctd ?_ | refine cse ?_ | refine csd ?_ | refine wrp ?_ | refine stq ?_ | refine cps ?_ | refine opn ?_ | exact eqs | (intro _; rfl))
  refine ret_eq ?_ (by rfl); simp [cntI, h]
def convE (k : Int) (s : List UInt8) (m : Int) : Int := if checkI k s = 0 then checkI m s else checkI k s
theorem Convert_call (k m : Int) (s : List UInt8) (hs : s.length ≤ 1000000) : CallF Cx 13 [.agg [.int .u32 k, .str s], .int .u32 m] [] (.tup [.agg [.int .u32 (if convE k s m = 0 then m else 0), .str (if convE k s m = 0 then s else [])], .int .i64 (convE k s m)]) [] := by
 refine sy_call (X := Sx0) (fun _ => false) [] [] (fn := Tryz.f13) Tryz.func13 rfl (by decide) rfl rfl ?_
 repeat' (first | (apply run; conv => whnf) | (with_reducible first | refine snt ?_ | refine snf ?_ | refine sht ?_ | refine shf ?_) | ((first | with_reducible refine split_neg (fun hc => ?_) (fun hc => ?_) | refine split (fun hc => ?_) (fun hc => ?_)) <;> (try simp only [bsl, true_implies, false_implies, Int.reduceEq, Int.reduceLT, Int.reduceLE, Nat.reduceLT, Nat.reduceEqDiff] at hc) <;> try first | (exfalso; omega) | exact btf hc | exact bft hc) | refine fact_in (fun hby => ?_) | refine un_rfl ?_ | refine stp ?_ | exact obs | with_reducible refine And.intro ?_ ?_ | refine nrm ?_ | apply row_eq | refine cte ?_ | refine ctd ?_ | refine cse ?_ | refine csd ?_ | refine wrp ?_ | refine stq ?_ | refine cps ?_ | refine opn ?_ | exact eqs | (intro _; rfl))
 all_goals (refine ret_eq ?_ (by rfl); simp [convE, *])
end Go.Proofs.YtaajfbcopafkaaaGreatDoor.Ai
