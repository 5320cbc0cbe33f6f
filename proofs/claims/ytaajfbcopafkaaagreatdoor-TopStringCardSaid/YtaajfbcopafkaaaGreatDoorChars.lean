/- charstrings.Put, Element, characters. Own work of this seat. -/
import Derived.Test.YtaajfbcopafkaaaGreatDoorPut
namespace Go.Proofs.YtaajfbcopafkaaaGreatDoor.Ai
open Go
set_option linter.unusedSimpArgs false
set_option linter.unusedVariables false
set_option maxHeartbeats 4000000
set_option maxRecDepth 100000
attribute [local irreducible] decodeL
def putR (k : Int) (s : List UInt8) : List UInt8 := if checkI k s = 0 then putI k s else []
theorem Put_call (k : Int) (s : List UInt8) (hs : s.length ≤ 1000000) : CallF Cx 44 [.agg [.int .u32 k, .str s]] [] (.tup [.slc 1 ((putR k s).map bytesRow) (some (putR k s).length), .int .i64 (checkI k s)]) [] := by
 by_cases h : checkI k s = 0
 ·have e : putR k s = putI k s := by simp [putR, h]
  rw [e, h]
  rcases kind_cases k with rfl | rfl | rfl | rfl | rfl | h0
  ·have := put12 s hs h
   rwa [show putI 12 s = s from rfl]
  ·exact put19 s hs h
  ·exact put22 s hs h
  ·exact put26 s hs h
  ·exact put30 s hs h
  ·simp [checkI, h0] at h
 ·have e : putR k s = [] := by simp [putR, h]
  rw [e]
  have i1 := con0 (X := Sx0) (check_bad k s hs h)
  have hd : decide (checkI k s = 0) = false := decide_eq_false h
  refine sy_call (X := Sx0) (fun _ => false) [] [] (fn := Tryz.f44) Tryz.func44 rfl (by decide) rfl rfl ?_
  repeat' (first | (apply run; conv => whnf) | (with_reducible first | refine snt ?_ | refine snf ?_ | refine sht ?_ | refine shf ?_) | ((first | with_reducible refine split_neg (fun hc => ?_) (fun hc => ?_) | refine split (fun hc => ?_) (fun hc => ?_)) <;> (try simp only [bsl, true_implies, false_implies, Int.reduceEq, Int.reduceLT, Int.reduceLE, Nat.reduceLT, Nat.reduceEqDiff] at hc) <;> try first | (exfalso; omega) | exact btf hc | exact bft hc) | refine fact_in (fun hby => ?_) | refine un_rfl ?_ | refine stp ?_ | exact obs | with_reducible refine And.intro ?_ ?_ | refine nrm ?_ | apply row_eq | refine cte ?_ | refine ctd ?_ | refine cse ?_ | refine csd ?_ | refine wrp ?_ | refine stq ?_ | refine cps ?_ | refine opn ?_ | exact eqs | (intro _; rfl))
  refine ret_le (ple_tup ⟨ple_nil (.inr rfl), .refl _, trivial⟩) (by rfl)
instance {k : Int} {s : List UInt8} : Con Sx0 44 [.agg [.int .u32 k, .str s]] (s.length ≤ 1000000) (.tup [.slc 1 ((putR k s).map bytesRow) (some (putR k s).length), .int .i64 (checkI k s)]) := con (Put_call k s)
theorem Element_call (k : Int) (s : List UInt8) (hs : s.length ≤ 1000000) : CallF Cx 14 [.agg [.int .u32 k, .str s]] [] (.tup [.agg [.int .u8 0, .bool false, .int .u32 (if checkI k s = 0 then k else 0), .slc 1 ((putR k s).map bytesRow) (some (putR k s).length), .slc 0 [] (some 0)], .int .i64 (checkI k s)]) [] := by
 refine sy_call (X := Sx0) (fun _ => false) [] [] (fn := Tryz.f14) Tryz.func14 rfl (by decide) rfl rfl ?_
 repeat' (first | (apply run; conv => whnf) | (with_reducible first | refine snt ?_ | refine snf ?_ | refine sht ?_ | refine shf ?_) | ((first | with_reducible refine split_neg (fun hc => ?_) (fun hc => ?_) | refine split (fun hc => ?_) (fun hc => ?_)) <;> (try simp only [bsl, true_implies, false_implies, Int.reduceEq, Int.reduceLT, Int.reduceLE, Nat.reduceLT, Nat.reduceEqDiff] at hc) <;> try first | (exfalso; omega) | exact btf hc | exact bft hc) | refine fact_in (fun hby => ?_) | refine un_rfl ?_ | refine stp ?_ | exact obs | with_reducible refine And.intro ?_ ?_ | refine nrm ?_ | apply row_eq | refine cte ?_ | refine ctd ?_ | refine cse ?_ | refine csd ?_ | refine wrp ?_ | refine stq ?_ | refine cps ?_ | refine opn ?_ | exact eqs | (intro _; rfl))
 ·have e : putR k s = [] := by simp [putR, hc]
  rw [e, if_neg hc]
  refine ret_le (ple_tup ⟨ple_agg ⟨.refl _, .refl _, .refl _, ple_nil (.inr rfl), .refl _, trivial⟩, .refl _, trivial⟩) (by rfl)
 ·refine ret_eq ?_ (by rfl)
  rw [if_pos hc, hc]
def charsL (k : Int) (b : List UInt8) : List Int := if k = 12 then runesL b b.length 0 else if k = 30 then pairs b else b.map fun x => (x.toNat : Int)
def charsB (k : Int) (b : List UInt8) : Bool := if k = 12 then (decS b).isSome else if k = 30 then decide (b.length % 2 = 0) else true
theorem characters_call (k : Int) (b : List UInt8) (cap : Option Nat) (hb : b.length ≤ 1000000) : CallF Cx 86 [.int .u32 k, .slc 1 (b.map bytesRow) cap] [] (.tup [.slc 1 ((charsL k b).map runeRow) none, .bool (charsB k b)]) [] := by
 refine sy_call (X := Sx0) (fun _ => false) [] [(6, 21, 1)] (fn := Tryz.f86) Tryz.func86 rfl (by decide) rfl rfl ?_
 repeat' (first | (apply run; conv => whnf) | (with_reducible first | refine snt ?_ | refine snf ?_ | refine sht ?_ | refine shf ?_) | ((first | with_reducible refine split_neg (fun hc => ?_) (fun hc => ?_) | refine split (fun hc => ?_) (fun hc => ?_)) <;> (try simp only [bsl, true_implies, false_implies, Int.reduceEq, Int.reduceLT, Int.reduceLE, Nat.reduceLT, Nat.reduceEqDiff] at hc) <;> try first | (exfalso; omega) | exact btf hc | exact bft hc) | refine bytes_map ?_ | refine fact_in (fun hby => ?_) | refine un_rfl ?_ | refine stp ?_ | exact obs | with_reducible refine And.intro ?_ ?_ | refine nrm ?_ | apply row_eq | refine cte ?_ | refine ctd ?_ | refine cse ?_ | refine csd ?_ | refine wrp ?_ | refine stq ?_ | refine cps ?_ | refine opn ?_ | exact eqs | (intro _; rfl))
 ·refine ret_eq ?_ (by rfl)
  simp [charsL, charsB, *]
 ·have h30 : k = 30 := by assumption
  have hpl := pairs_len b
  refine loop_rule (α := Nat) [6, 7] 1 (fun i => [.bsl 0 i, .int .i64 (2 * (i : Int))]) (fun i => [.mk 21 1 (((pairs b).take i).map runeRow)]) (fun i => 2 * i ≤ b.length) (fun i => b.length - 2 * i) (0) (fun _ => rfl) (by decide) ?_
  ((refine run ?_); conv => whnf)
  refine goal_in ⟨?_, fit_eq ?_, sto_take (n := 1) (Nat.le_of_ble_eq_true rfl) ?_⟩ (fun i hinv => ?_)
  ·exact Nat.zero_le _
  ·rfl
  ·rfl
  by_cases hi : 2 * i + 1 < b.length
  ·have hn := nth_pairs (b := b) (i := i) (by omega)
   have ht := take_nth (l := pairs b) (i := i) (by omega)
   have e1 : (2 * (i : Int)).toNat = 2 * i := by omega
   have e2 : (2 * (i : Int) + 1).toNat = 2 * i + 1 := by omega
   repeat' (first | (apply run; conv => whnf) | (with_reducible first | refine snt ?_ | refine snf ?_ | refine sht ?_ | refine shf ?_) | ((first | with_reducible refine split_neg (fun hc => ?_) (fun hc => ?_) | refine split (fun hc => ?_) (fun hc => ?_)) <;> (try simp only [bsl, true_implies, false_implies, Int.reduceEq, Int.reduceLT, Int.reduceLE, Nat.reduceLT, Nat.reduceEqDiff] at hc) <;> try first | (exfalso; omega) | exact btf hc | exact bft hc) | apply shl_in | apply bits_or 8 | refine fact_in (fun hby => ?_) | refine un_rfl ?_ | refine stp ?_ | exact obs | with_reducible refine And.intro ?_ ?_ | refine nrm ?_ | apply row_eq | refine cte ?_ | refine ctd ?_ | refine cse ?_ | refine csd ?_ | refine wrp ?_ | refine stq ?_ | refine cps ?_ | refine opn ?_ | exact eqs | (intro _; rfl))
   rw [e1, e2]
   refine meet_eq (i + 1) ?_ ?_ (Nat.le_of_ble_eq_true rfl) ?_
   ·exact ⟨by dsimp only; omega, by dsimp only; omega⟩
   ·simp [List.length_take]; omega
   ·rw [ht, hn]; simp [runeRow, Int.mul_comm]
  ·repeat' (first | (apply run; conv => whnf) | (with_reducible first | refine snt ?_ | refine snf ?_ | refine sht ?_ | refine shf ?_) | ((first | with_reducible refine split_neg (fun hc => ?_) (fun hc => ?_) | refine split (fun hc => ?_) (fun hc => ?_)) <;> (try simp only [bsl, true_implies, false_implies, Int.reduceEq, Int.reduceLT, Int.reduceLE, Nat.reduceLT, Nat.reduceEqDiff] at hc) <;> try first | (exfalso; omega) | exact btf hc | exact bft hc) | refine fact_in (fun hby => ?_) | refine un_rfl ?_ | refine stp ?_ | exact obs | with_reducible refine And.intro ?_ ?_ | refine nrm ?_ | apply row_eq | refine cte ?_ | refine ctd ?_ | refine cse ?_ | refine csd ?_ | refine wrp ?_ | refine stq ?_ | refine cps ?_ | refine opn ?_ | exact eqs | (intro _; rfl))
   have e : i = (pairs b).length := by omega
   have e2 : (decide ((b.length : Int) % 2 = 0)) = charsB k b := by simp [charsB, h30]; omega
   have e3 : charsL k b = pairs b := by simp [charsL, h30]
   rw [e, e2, e3, List.take_length]
   exact ret_le (ple_tup ⟨ple_cap, .refl _, trivial⟩) (by rfl)
 ·refine loop_rule (α := Nat) [6, 50] 1 (fun i => [.bsl 0 i, .int .i64 i]) (fun i => [.mk 21 1 (((b.map fun x => (x.toNat : Int)).take i).map runeRow)]) (fun i => i ≤ b.length) (fun i => b.length - i) (0) (fun _ => rfl) (by decide) ?_
  ((refine run ?_); conv => whnf)
  refine goal_in ⟨?_, fit_eq ?_, sto_take (n := 1) (Nat.le_of_ble_eq_true rfl) ?_⟩ (fun i hinv => ?_)
  ·exact Nat.zero_le _
  ·rfl
  ·rfl
  by_cases hi : i < b.length
  ·have ht := take_nth (l := b.map fun x => (x.toNat : Int)) (i := i) (by simpa using hi)
   have hn : nth (b.map fun x => (x.toNat : Int)) i = (nth b i).toNat := nth_map hi
   repeat' (first | (apply run; conv => whnf) | (with_reducible first | refine snt ?_ | refine snf ?_ | refine sht ?_ | refine shf ?_) | ((first | with_reducible refine split_neg (fun hc => ?_) (fun hc => ?_) | refine split (fun hc => ?_) (fun hc => ?_)) <;> (try simp only [bsl, true_implies, false_implies, Int.reduceEq, Int.reduceLT, Int.reduceLE, Nat.reduceLT, Nat.reduceEqDiff] at hc) <;> try first | (exfalso; omega) | exact btf hc | exact bft hc) | refine fact_in (fun hby => ?_) | refine un_rfl ?_ | refine stp ?_ | exact obs | with_reducible refine And.intro ?_ ?_ | refine nrm ?_ | apply row_eq | refine cte ?_ | refine ctd ?_ | refine cse ?_ | refine csd ?_ | refine wrp ?_ | refine stq ?_ | refine cps ?_ | refine opn ?_ | exact eqs | (intro _; rfl))
   refine meet_eq (i + 1) ?_ ?_ (Nat.le_of_ble_eq_true rfl) ?_
   ·exact ⟨by dsimp only; omega, by dsimp only; omega⟩
   ·simp [List.length_take]; omega
   ·rw [ht, hn]; simp [runeRow]
  ·repeat' (first | (apply run; conv => whnf) | (with_reducible first | refine snt ?_ | refine snf ?_ | refine sht ?_ | refine shf ?_) | ((first | with_reducible refine split_neg (fun hc => ?_) (fun hc => ?_) | refine split (fun hc => ?_) (fun hc => ?_)) <;> (try simp only [bsl, true_implies, false_implies, Int.reduceEq, Int.reduceLT, Int.reduceLE, Nat.reduceLT, Nat.reduceEqDiff] at hc) <;> try first | (exfalso; omega) | exact btf hc | exact bft hc) | refine fact_in (fun hby => ?_) | refine un_rfl ?_ | refine stp ?_ | exact obs | with_reducible refine And.intro ?_ ?_ | refine nrm ?_ | apply row_eq | refine cte ?_ | refine ctd ?_ | refine cse ?_ | refine csd ?_ | refine wrp ?_ | refine stq ?_ | refine cps ?_ | refine opn ?_ | exact eqs | (intro _; rfl))
   have e : i = (b.map fun x => (x.toNat : Int)).length := by simp; omega
   have e2 : charsB k b = true := by simp [charsB, *]
   have e3 : charsL k b = b.map fun x => (x.toNat : Int) := by simp [charsL, *]
   rw [e, e2, e3, List.take_length]
   exact ret_le (ple_tup ⟨ple_cap, .refl _, trivial⟩) (by rfl)
instance {k : Int} {b : List UInt8} {cap : Option Nat} : Con Sx0 86 [.int .u32 k, .slc 1 (b.map bytesRow) cap] (b.length ≤ 1000000) (.tup [.slc 1 ((charsL k b).map runeRow) none, .bool (charsB k b)]) := con (characters_call k b cap)
end Go.Proofs.YtaajfbcopafkaaaGreatDoor.Ai
