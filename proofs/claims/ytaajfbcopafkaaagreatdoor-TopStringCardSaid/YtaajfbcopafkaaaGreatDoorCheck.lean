/- charstrings.check. Own work of this seat (printed by a program in part). -/
import Derived.Test.YtaajfbcopafkaaaGreatDoorAll
namespace Go.Proofs.YtaajfbcopafkaaaGreatDoor.Ai
open Go
set_option linter.unusedSimpArgs false
set_option linter.unusedVariables false
set_option maxHeartbeats 4000000
set_option maxRecDepth 100000
theorem allP12 (s : List UInt8) : allB (btwP 1 1114111) s = allB (hasB 12) s := allB_has (k := 12) (by decide)
theorem check12 (s : List UInt8) (hs : s.length ≤ 1000000) :
  (checkI 12 s = 0 → CallF Cx 80 [.agg [.int .u32 12, .str s]] [] (.tup [.agg k12, .int .i64 0]) []) ∧ (checkI 12 s ≠ 0 → CallF Cx 80 [.agg [.int .u32 12, .str s]] [] (.tup [.agg k0, .int .i64 (checkI 12 s)]) []) := by
 have hk : kindI 12 = 1 := rfl
 have hP := allP12 s
 by_cases h1 : 65536 < s.length
 ·have e : checkI 12 s = 3 := by simp [checkI, hk, h1]
  rw [e]
  refine ⟨fun h => by simp at h, fun _ => ?_⟩
  refine sy_call (X := Sx0) (fun _ => false) [] [] (fn := Tryz.f80) Tryz.func80 rfl (by decide) rfl rfl ?_
  repeat' (first | (apply run; conv => whnf) | (with_reducible first | refine snt ?_ | refine snf ?_ | refine sht ?_ | refine shf ?_) | ((first | with_reducible refine split_neg (fun hc => ?_) (fun hc => ?_) | refine split (fun hc => ?_) (fun hc => ?_)) <;> (try simp only [bsl, true_implies, false_implies, Int.reduceEq, Int.reduceLT, Int.reduceLE, Nat.reduceLT, Nat.reduceEqDiff] at hc) <;> try first | (exfalso; omega) | exact btf hc | exact bft hc) | refine fact_in (fun hby => ?_) | refine un_rfl ?_ | refine stp ?_ | exact obs | with_reducible refine And.intro ?_ ?_ | refine nrm ?_ | apply row_eq | refine cte ?_ | refine ctd ?_ | refine cse ?_ | refine csd ?_ | refine wrp ?_ | refine stq ?_ | refine cps ?_ | refine opn ?_ | exact eqs | (intro _; rfl))
  refine ret_eq ?_ (by rfl); rfl
 ·cases h2 : allB (hasB 12) s with
  | false =>
   have e : checkI 12 s = 11 := by
    unfold allB at h2
    simp only [checkI, hk, if_neg h1, h2]; rfl
   rw [e]
   rw [h2] at hP
   refine ⟨fun h => by simp at h, fun _ => ?_⟩
   refine sy_call (X := Sx0) (fun _ => false) [] [] (fn := Tryz.f80) Tryz.func80 rfl (by decide) rfl rfl ?_
   repeat' (first | (apply run; conv => whnf) | (with_reducible first | refine snt ?_ | refine snf ?_ | refine sht ?_ | refine shf ?_) | ((first | with_reducible refine split_neg (fun hc => ?_) (fun hc => ?_) | refine split (fun hc => ?_) (fun hc => ?_)) <;> (try simp only [bsl, true_implies, false_implies, Int.reduceEq, Int.reduceLT, Int.reduceLE, Nat.reduceLT, Nat.reduceEqDiff] at hc) <;> try first | (exfalso; omega) | exact btf hc | exact bft hc) | refine fact_in (fun hby => ?_) | refine un_rfl ?_ | refine stp ?_ | exact obs | with_reducible refine And.intro ?_ ?_ | refine nrm ?_ | apply row_eq | refine cte ?_ | refine ctd ?_ | refine cse ?_ | refine csd ?_ | refine wrp ?_ | refine stq ?_ | refine cps ?_ | refine opn ?_ | exact eqs | (intro _; rfl))
   refine ret_eq ?_ (by rfl); rfl
  | true =>
   have e : checkI 12 s = 0 := by
    unfold allB at h2
    simp only [checkI, hk, if_neg h1, h2]; rfl
   rw [h2] at hP
   refine ⟨fun _ => ?_, fun h => absurd e h⟩
   refine sy_call (X := Sx0) (fun _ => false) [] [] (fn := Tryz.f80) Tryz.func80 rfl (by decide) rfl rfl ?_
   repeat' (first | (apply run; conv => whnf) | (with_reducible first | refine snt ?_ | refine snf ?_ | refine sht ?_ | refine shf ?_) | ((first | with_reducible refine split_neg (fun hc => ?_) (fun hc => ?_) | refine split (fun hc => ?_) (fun hc => ?_)) <;> (try simp only [bsl, true_implies, false_implies, Int.reduceEq, Int.reduceLT, Int.reduceLE, Nat.reduceLT, Nat.reduceEqDiff] at hc) <;> try first | (exfalso; omega) | exact btf hc | exact bft hc) | refine fact_in (fun hby => ?_) | refine un_rfl ?_ | refine stp ?_ | exact obs | with_reducible refine And.intro ?_ ?_ | refine nrm ?_ | apply row_eq | refine cte ?_ | refine ctd ?_ | refine cse ?_ | refine csd ?_ | refine wrp ?_ | refine stq ?_ | refine cps ?_ | refine opn ?_ | exact eqs | (intro _; rfl))
   refine ret_eq ?_ (by rfl); rfl
theorem allP19 (s : List UInt8) : allB (hasP) s = allB (hasB 19) s := allB_has (k := 19) (by decide)
theorem check19 (s : List UInt8) (hs : s.length ≤ 1000000) :
  (checkI 19 s = 0 → CallF Cx 80 [.agg [.int .u32 19, .str s]] [] (.tup [.agg k19, .int .i64 0]) []) ∧ (checkI 19 s ≠ 0 → CallF Cx 80 [.agg [.int .u32 19, .str s]] [] (.tup [.agg k0, .int .i64 (checkI 19 s)]) []) := by
 have hk : kindI 19 = 1 := rfl
 have hP := allP19 s
 by_cases h1 : 65536 < s.length
 ·have e : checkI 19 s = 3 := by simp [checkI, hk, h1]
  rw [e]
  refine ⟨fun h => by simp at h, fun _ => ?_⟩
  refine sy_call (X := Sx0) (fun _ => false) [] [] (fn := Tryz.f80) Tryz.func80 rfl (by decide) rfl rfl ?_
  repeat' (first | (apply run; conv => whnf) | (with_reducible first | refine snt ?_ | refine snf ?_ | refine sht ?_ | refine shf ?_) | ((first | with_reducible refine split_neg (fun hc => ?_) (fun hc => ?_) | refine split (fun hc => ?_) (fun hc => ?_)) <;> (try simp only [bsl, true_implies, false_implies, Int.reduceEq, Int.reduceLT, Int.reduceLE, Nat.reduceLT, Nat.reduceEqDiff] at hc) <;> try first | (exfalso; omega) | exact btf hc | exact bft hc) | refine fact_in (fun hby => ?_) | refine un_rfl ?_ | refine stp ?_ | exact obs | with_reducible refine And.intro ?_ ?_ | refine nrm ?_ | apply row_eq | refine cte ?_ | refine ctd ?_ | refine cse ?_ | refine csd ?_ | refine wrp ?_ | refine stq ?_ | refine cps ?_ | refine opn ?_ | exact eqs | (intro _; rfl))
  refine ret_eq ?_ (by rfl); rfl
 ·cases h2 : allB (hasB 19) s with
  | false =>
   have e : checkI 19 s = 11 := by
    unfold allB at h2
    simp only [checkI, hk, if_neg h1, h2]; rfl
   rw [e]
   rw [h2] at hP
   refine ⟨fun h => by simp at h, fun _ => ?_⟩
   refine sy_call (X := Sx0) (fun _ => false) [] [] (fn := Tryz.f80) Tryz.func80 rfl (by decide) rfl rfl ?_
   repeat' (first | (apply run; conv => whnf) | (with_reducible first | refine snt ?_ | refine snf ?_ | refine sht ?_ | refine shf ?_) | ((first | with_reducible refine split_neg (fun hc => ?_) (fun hc => ?_) | refine split (fun hc => ?_) (fun hc => ?_)) <;> (try simp only [bsl, true_implies, false_implies, Int.reduceEq, Int.reduceLT, Int.reduceLE, Nat.reduceLT, Nat.reduceEqDiff] at hc) <;> try first | (exfalso; omega) | exact btf hc | exact bft hc) | refine fact_in (fun hby => ?_) | refine un_rfl ?_ | refine stp ?_ | exact obs | with_reducible refine And.intro ?_ ?_ | refine nrm ?_ | apply row_eq | refine cte ?_ | refine ctd ?_ | refine cse ?_ | refine csd ?_ | refine wrp ?_ | refine stq ?_ | refine cps ?_ | refine opn ?_ | exact eqs | (intro _; rfl))
   refine ret_eq ?_ (by rfl); rfl
  | true =>
   have e : checkI 19 s = 0 := by
    unfold allB at h2
    simp only [checkI, hk, if_neg h1, h2]; rfl
   rw [h2] at hP
   refine ⟨fun _ => ?_, fun h => absurd e h⟩
   refine sy_call (X := Sx0) (fun _ => false) [] [] (fn := Tryz.f80) Tryz.func80 rfl (by decide) rfl rfl ?_
   repeat' (first | (apply run; conv => whnf) | (with_reducible first | refine snt ?_ | refine snf ?_ | refine sht ?_ | refine shf ?_) | ((first | with_reducible refine split_neg (fun hc => ?_) (fun hc => ?_) | refine split (fun hc => ?_) (fun hc => ?_)) <;> (try simp only [bsl, true_implies, false_implies, Int.reduceEq, Int.reduceLT, Int.reduceLE, Nat.reduceLT, Nat.reduceEqDiff] at hc) <;> try first | (exfalso; omega) | exact btf hc | exact bft hc) | refine fact_in (fun hby => ?_) | refine un_rfl ?_ | refine stp ?_ | exact obs | with_reducible refine And.intro ?_ ?_ | refine nrm ?_ | apply row_eq | refine cte ?_ | refine ctd ?_ | refine cse ?_ | refine csd ?_ | refine wrp ?_ | refine stq ?_ | refine cps ?_ | refine opn ?_ | exact eqs | (intro _; rfl))
   refine ret_eq ?_ (by rfl); rfl
theorem allP22 (s : List UInt8) : allB (btwP 1 127) s = allB (hasB 22) s := allB_has (k := 22) (by decide)
theorem check22 (s : List UInt8) (hs : s.length ≤ 1000000) :
  (checkI 22 s = 0 → CallF Cx 80 [.agg [.int .u32 22, .str s]] [] (.tup [.agg k22, .int .i64 0]) []) ∧ (checkI 22 s ≠ 0 → CallF Cx 80 [.agg [.int .u32 22, .str s]] [] (.tup [.agg k0, .int .i64 (checkI 22 s)]) []) := by
 have hk : kindI 22 = 1 := rfl
 have hP := allP22 s
 by_cases h1 : 65536 < s.length
 ·have e : checkI 22 s = 3 := by simp [checkI, hk, h1]
  rw [e]
  refine ⟨fun h => by simp at h, fun _ => ?_⟩
  refine sy_call (X := Sx0) (fun _ => false) [] [] (fn := Tryz.f80) Tryz.func80 rfl (by decide) rfl rfl ?_
  repeat' (first | (apply run; conv => whnf) | (with_reducible first | refine snt ?_ | refine snf ?_ | refine sht ?_ | refine shf ?_) | ((first | with_reducible refine split_neg (fun hc => ?_) (fun hc => ?_) | refine split (fun hc => ?_) (fun hc => ?_)) <;> (try simp only [bsl, true_implies, false_implies, Int.reduceEq, Int.reduceLT, Int.reduceLE, Nat.reduceLT, Nat.reduceEqDiff] at hc) <;> try first | (exfalso; omega) | exact btf hc | exact bft hc) | refine fact_in (fun hby => ?_) | refine un_rfl ?_ | refine stp ?_ | exact obs | with_reducible refine And.intro ?_ ?_ | refine nrm ?_ | apply row_eq | refine cte ?_ | refine ctd ?_ | refine cse ?_ | refine csd ?_ | refine wrp ?_ | refine stq ?_ | refine cps ?_ | refine opn ?_ | exact eqs | (intro _; rfl))
  refine ret_eq ?_ (by rfl); rfl
 ·cases h2 : allB (hasB 22) s with
  | false =>
   have e : checkI 22 s = 11 := by
    unfold allB at h2
    simp only [checkI, hk, if_neg h1, h2]; rfl
   rw [e]
   rw [h2] at hP
   refine ⟨fun h => by simp at h, fun _ => ?_⟩
   refine sy_call (X := Sx0) (fun _ => false) [] [] (fn := Tryz.f80) Tryz.func80 rfl (by decide) rfl rfl ?_
   repeat' (first | (apply run; conv => whnf) | (with_reducible first | refine snt ?_ | refine snf ?_ | refine sht ?_ | refine shf ?_) | ((first | with_reducible refine split_neg (fun hc => ?_) (fun hc => ?_) | refine split (fun hc => ?_) (fun hc => ?_)) <;> (try simp only [bsl, true_implies, false_implies, Int.reduceEq, Int.reduceLT, Int.reduceLE, Nat.reduceLT, Nat.reduceEqDiff] at hc) <;> try first | (exfalso; omega) | exact btf hc | exact bft hc) | refine fact_in (fun hby => ?_) | refine un_rfl ?_ | refine stp ?_ | exact obs | with_reducible refine And.intro ?_ ?_ | refine nrm ?_ | apply row_eq | refine cte ?_ | refine ctd ?_ | refine cse ?_ | refine csd ?_ | refine wrp ?_ | refine stq ?_ | refine cps ?_ | refine opn ?_ | exact eqs | (intro _; rfl))
   refine ret_eq ?_ (by rfl); rfl
  | true =>
   have e : checkI 22 s = 0 := by
    unfold allB at h2
    simp only [checkI, hk, if_neg h1, h2]; rfl
   rw [h2] at hP
   refine ⟨fun _ => ?_, fun h => absurd e h⟩
   refine sy_call (X := Sx0) (fun _ => false) [] [] (fn := Tryz.f80) Tryz.func80 rfl (by decide) rfl rfl ?_
   repeat' (first | (apply run; conv => whnf) | (with_reducible first | refine snt ?_ | refine snf ?_ | refine sht ?_ | refine shf ?_) | ((first | with_reducible refine split_neg (fun hc => ?_) (fun hc => ?_) | refine split (fun hc => ?_) (fun hc => ?_)) <;> (try simp only [bsl, true_implies, false_implies, Int.reduceEq, Int.reduceLT, Int.reduceLE, Nat.reduceLT, Nat.reduceEqDiff] at hc) <;> try first | (exfalso; omega) | exact btf hc | exact bft hc) | refine fact_in (fun hby => ?_) | refine un_rfl ?_ | refine stp ?_ | exact obs | with_reducible refine And.intro ?_ ?_ | refine nrm ?_ | apply row_eq | refine cte ?_ | refine ctd ?_ | refine cse ?_ | refine csd ?_ | refine wrp ?_ | refine stq ?_ | refine cps ?_ | refine opn ?_ | exact eqs | (intro _; rfl))
   refine ret_eq ?_ (by rfl); rfl
theorem allP26 (s : List UInt8) : allB (btwP 32 126) s = allB (hasB 26) s := allB_has (k := 26) (by decide)
theorem check26 (s : List UInt8) (hs : s.length ≤ 1000000) :
  (checkI 26 s = 0 → CallF Cx 80 [.agg [.int .u32 26, .str s]] [] (.tup [.agg k26, .int .i64 0]) []) ∧ (checkI 26 s ≠ 0 → CallF Cx 80 [.agg [.int .u32 26, .str s]] [] (.tup [.agg k0, .int .i64 (checkI 26 s)]) []) := by
 have hk : kindI 26 = 1 := rfl
 have hP := allP26 s
 by_cases h1 : 65536 < s.length
 ·have e : checkI 26 s = 3 := by simp [checkI, hk, h1]
  rw [e]
  refine ⟨fun h => by simp at h, fun _ => ?_⟩
  refine sy_call (X := Sx0) (fun _ => false) [] [] (fn := Tryz.f80) Tryz.func80 rfl (by decide) rfl rfl ?_
  repeat' (first | (apply run; conv => whnf) | (with_reducible first | refine snt ?_ | refine snf ?_ | refine sht ?_ | refine shf ?_) | ((first | with_reducible refine split_neg (fun hc => ?_) (fun hc => ?_) | refine split (fun hc => ?_) (fun hc => ?_)) <;> (try simp only [bsl, true_implies, false_implies, Int.reduceEq, Int.reduceLT, Int.reduceLE, Nat.reduceLT, Nat.reduceEqDiff] at hc) <;> try first | (exfalso; omega) | exact btf hc | exact bft hc) | refine fact_in (fun hby => ?_) | refine un_rfl ?_ | refine stp ?_ | exact obs | with_reducible refine And.intro ?_ ?_ | refine nrm ?_ | apply row_eq | refine cte ?_ | refine ctd ?_ | refine cse ?_ | refine csd ?_ | refine wrp ?_ | refine stq ?_ | refine cps ?_ | refine opn ?_ | exact eqs | (intro _; rfl))
  refine ret_eq ?_ (by rfl); rfl
 ·cases h2 : allB (hasB 26) s with
  | false =>
   have e : checkI 26 s = 11 := by
    unfold allB at h2
    simp only [checkI, hk, if_neg h1, h2]; rfl
   rw [e]
   rw [h2] at hP
   refine ⟨fun h => by simp at h, fun _ => ?_⟩
   refine sy_call (X := Sx0) (fun _ => false) [] [] (fn := Tryz.f80) Tryz.func80 rfl (by decide) rfl rfl ?_
   repeat' (first | (apply run; conv => whnf) | (with_reducible first | refine snt ?_ | refine snf ?_ | refine sht ?_ | refine shf ?_) | ((first | with_reducible refine split_neg (fun hc => ?_) (fun hc => ?_) | refine split (fun hc => ?_) (fun hc => ?_)) <;> (try simp only [bsl, true_implies, false_implies, Int.reduceEq, Int.reduceLT, Int.reduceLE, Nat.reduceLT, Nat.reduceEqDiff] at hc) <;> try first | (exfalso; omega) | exact btf hc | exact bft hc) | refine fact_in (fun hby => ?_) | refine un_rfl ?_ | refine stp ?_ | exact obs | with_reducible refine And.intro ?_ ?_ | refine nrm ?_ | apply row_eq | refine cte ?_ | refine ctd ?_ | refine cse ?_ | refine csd ?_ | refine wrp ?_ | refine stq ?_ | refine cps ?_ | refine opn ?_ | exact eqs | (intro _; rfl))
   refine ret_eq ?_ (by rfl); rfl
  | true =>
   have e : checkI 26 s = 0 := by
    unfold allB at h2
    simp only [checkI, hk, if_neg h1, h2]; rfl
   rw [h2] at hP
   refine ⟨fun _ => ?_, fun h => absurd e h⟩
   refine sy_call (X := Sx0) (fun _ => false) [] [] (fn := Tryz.f80) Tryz.func80 rfl (by decide) rfl rfl ?_
   repeat' (first | (apply run; conv => whnf) | (with_reducible first | refine snt ?_ | refine snf ?_ | refine sht ?_ | refine shf ?_) | ((first | with_reducible refine split_neg (fun hc => ?_) (fun hc => ?_) | refine split (fun hc => ?_) (fun hc => ?_)) <;> (try simp only [bsl, true_implies, false_implies, Int.reduceEq, Int.reduceLT, Int.reduceLE, Nat.reduceLT, Nat.reduceEqDiff] at hc) <;> try first | (exfalso; omega) | exact btf hc | exact bft hc) | refine fact_in (fun hby => ?_) | refine un_rfl ?_ | refine stp ?_ | exact obs | with_reducible refine And.intro ?_ ?_ | refine nrm ?_ | apply row_eq | refine cte ?_ | refine ctd ?_ | refine cse ?_ | refine csd ?_ | refine wrp ?_ | refine stq ?_ | refine cps ?_ | refine opn ?_ | exact eqs | (intro _; rfl))
   refine ret_eq ?_ (by rfl); rfl
theorem allP30 (s : List UInt8) : allB (btwP 1 65535) s = allB (hasB 30) s := allB_has (k := 30) (by decide)
theorem check30 (s : List UInt8) (hs : s.length ≤ 1000000) :
  (checkI 30 s = 0 → CallF Cx 80 [.agg [.int .u32 30, .str s]] [] (.tup [.agg k30, .int .i64 0]) []) ∧ (checkI 30 s ≠ 0 → CallF Cx 80 [.agg [.int .u32 30, .str s]] [] (.tup [.agg k0, .int .i64 (checkI 30 s)]) []) := by
 have hk : kindI 30 = 1 := rfl
 have hP := allP30 s
 by_cases h1 : 65536 < s.length
 ·have e : checkI 30 s = 3 := by simp [checkI, hk, h1]
  rw [e]
  refine ⟨fun h => by simp at h, fun _ => ?_⟩
  refine sy_call (X := Sx0) (fun _ => false) [] [] (fn := Tryz.f80) Tryz.func80 rfl (by decide) rfl rfl ?_
  repeat' (first | (apply run; conv => whnf) | (with_reducible first | refine snt ?_ | refine snf ?_ | refine sht ?_ | refine shf ?_) | ((first | with_reducible refine split_neg (fun hc => ?_) (fun hc => ?_) | refine split (fun hc => ?_) (fun hc => ?_)) <;> (try simp only [bsl, true_implies, false_implies, Int.reduceEq, Int.reduceLT, Int.reduceLE, Nat.reduceLT, Nat.reduceEqDiff] at hc) <;> try first | (exfalso; omega) | exact btf hc | exact bft hc) | refine fact_in (fun hby => ?_) | refine un_rfl ?_ | refine stp ?_ | exact obs | with_reducible refine And.intro ?_ ?_ | refine nrm ?_ | apply row_eq | refine cte ?_ | refine ctd ?_ | refine cse ?_ | refine csd ?_ | refine wrp ?_ | refine stq ?_ | refine cps ?_ | refine opn ?_ | exact eqs | (intro _; rfl))
  refine ret_eq ?_ (by rfl); rfl
 ·cases h2 : allB (hasB 30) s with
  | false =>
   have e : checkI 30 s = 11 := by
    unfold allB at h2
    simp only [checkI, hk, if_neg h1, h2]; rfl
   rw [e]
   rw [h2] at hP
   refine ⟨fun h => by simp at h, fun _ => ?_⟩
   refine sy_call (X := Sx0) (fun _ => false) [] [] (fn := Tryz.f80) Tryz.func80 rfl (by decide) rfl rfl ?_
   repeat' (first | (apply run; conv => whnf) | (with_reducible first | refine snt ?_ | refine snf ?_ | refine sht ?_ | refine shf ?_) | ((first | with_reducible refine split_neg (fun hc => ?_) (fun hc => ?_) | refine split (fun hc => ?_) (fun hc => ?_)) <;> (try simp only [bsl, true_implies, false_implies, Int.reduceEq, Int.reduceLT, Int.reduceLE, Nat.reduceLT, Nat.reduceEqDiff] at hc) <;> try first | (exfalso; omega) | exact btf hc | exact bft hc) | refine fact_in (fun hby => ?_) | refine un_rfl ?_ | refine stp ?_ | exact obs | with_reducible refine And.intro ?_ ?_ | refine nrm ?_ | apply row_eq | refine cte ?_ | refine ctd ?_ | refine cse ?_ | refine csd ?_ | refine wrp ?_ | refine stq ?_ | refine cps ?_ | refine opn ?_ | exact eqs | (intro _; rfl))
   refine ret_eq ?_ (by rfl); rfl
  | true =>
   have e : checkI 30 s = 0 := by
    unfold allB at h2
    simp only [checkI, hk, if_neg h1, h2]; rfl
   rw [h2] at hP
   refine ⟨fun _ => ?_, fun h => absurd e h⟩
   refine sy_call (X := Sx0) (fun _ => false) [] [] (fn := Tryz.f80) Tryz.func80 rfl (by decide) rfl rfl ?_
   repeat' (first | (apply run; conv => whnf) | (with_reducible first | refine snt ?_ | refine snf ?_ | refine sht ?_ | refine shf ?_) | ((first | with_reducible refine split_neg (fun hc => ?_) (fun hc => ?_) | refine split (fun hc => ?_) (fun hc => ?_)) <;> (try simp only [bsl, true_implies, false_implies, Int.reduceEq, Int.reduceLT, Int.reduceLE, Nat.reduceLT, Nat.reduceEqDiff] at hc) <;> try first | (exfalso; omega) | exact btf hc | exact bft hc) | refine fact_in (fun hby => ?_) | refine un_rfl ?_ | refine stp ?_ | exact obs | with_reducible refine And.intro ?_ ?_ | refine nrm ?_ | apply row_eq | refine cte ?_ | refine ctd ?_ | refine cse ?_ | refine csd ?_ | refine wrp ?_ | refine stq ?_ | refine cps ?_ | refine opn ?_ | exact eqs | (intro _; rfl))
   refine ret_eq ?_ (by rfl); rfl
theorem check_bad (k : Int) (s : List UInt8) (hs : s.length ≤ 1000000) (h : checkI k s ≠ 0) : CallF Cx 80 [.agg [.int .u32 k, .str s]] [] (.tup [.agg k0, .int .i64 (checkI k s)]) [] := by
 rcases kind_cases k with rfl | rfl | rfl | rfl | rfl | h0
 ·exact (check12 s hs).2 h
 ·exact (check19 s hs).2 h
 ·exact (check22 s hs).2 h
 ·exact (check26 s hs).2 h
 ·exact (check30 s hs).2 h
 ·have e : checkI k s = 9 := by simp [checkI, h0]
  rw [e]
  refine sy_call (X := Sx0) (fun _ => false) [] [] (fn := Tryz.f80) Tryz.func80 rfl (by decide) rfl rfl ?_
  repeat' (first | (apply run; conv => whnf) | (with_reducible first | refine snt ?_ | refine snf ?_ | refine sht ?_ | refine shf ?_) | ((first | with_reducible refine split_neg (fun hc => ?_) (fun hc => ?_) | refine split (fun hc => ?_) (fun hc => ?_)) <;> (try simp only [bsl, true_implies, false_implies, Int.reduceEq, Int.reduceLT, Int.reduceLE, Nat.reduceLT, Nat.reduceEqDiff] at hc) <;> try first | (exfalso; omega) | exact btf hc | exact bft hc) | refine fact_in (fun hby => ?_) | refine un_rfl ?_ | refine stp ?_ | exact obs | with_reducible refine And.intro ?_ ?_ | refine nrm ?_ | apply row_eq | refine cte ?_ | refine ctd ?_ | refine cse ?_ | refine csd ?_ | refine wrp ?_ | refine stq ?_ | refine cps ?_ | refine opn ?_ | exact eqs | (intro _; rfl))
  refine ret_eq ?_ (by rfl); rfl
theorem Check_call (k : Int) (s : List UInt8) (hs : s.length ≤ 1000000) : CallF Cx 43 [.agg [.int .u32 k, .str s]] [] (.int .i64 (checkI k s)) [] := by
 by_cases h : checkI k s = 0
 ·rcases kind_cases k with rfl | rfl | rfl | rfl | rfl | h0
  ·have i1 := con0 (X := Sx0) ((check12 s hs).1 h)
   rw [h]
   refine sy_call (X := Sx0) (fun _ => false) [] [] (fn := Tryz.f43) Tryz.func43 rfl (by decide) rfl rfl ?_
   repeat' (first | (apply run; conv => whnf) | (with_reducible first | refine snt ?_ | refine snf ?_ | refine sht ?_ | refine shf ?_) | ((first | with_reducible refine split_neg (fun hc => ?_) (fun hc => ?_) | refine split (fun hc => ?_) (fun hc => ?_)) <;> (try simp only [bsl, true_implies, false_implies, Int.reduceEq, Int.reduceLT, Int.reduceLE, Nat.reduceLT, Nat.reduceEqDiff] at hc) <;> try first | (exfalso; omega) | exact btf hc | exact bft hc) | refine fact_in (fun hby => ?_) | refine un_rfl ?_ | refine stp ?_ | exact obs | with_reducible refine And.intro ?_ ?_ | refine nrm ?_ | apply row_eq | refine cte ?_ | refine ctd ?_ | refine cse ?_ | refine csd ?_ | refine wrp ?_ | refine stq ?_ | refine cps ?_ | refine opn ?_ | exact eqs | (intro _; rfl))
   refine ret_eq ?_ (by rfl); rfl
  ·have i1 := con0 (X := Sx0) ((check19 s hs).1 h)
   rw [h]
   refine sy_call (X := Sx0) (fun _ => false) [] [] (fn := Tryz.f43) Tryz.func43 rfl (by decide) rfl rfl ?_
   repeat' (first | (apply run; conv => whnf) | (with_reducible first | refine snt ?_ | refine snf ?_ | refine sht ?_ | refine shf ?_) | ((first | with_reducible refine split_neg (fun hc => ?_) (fun hc => ?_) | refine split (fun hc => ?_) (fun hc => ?_)) <;> (try simp only [bsl, true_implies, false_implies, Int.reduceEq, Int.reduceLT, Int.reduceLE, Nat.reduceLT, Nat.reduceEqDiff] at hc) <;> try first | (exfalso; omega) | exact btf hc | exact bft hc) | refine fact_in (fun hby => ?_) | refine un_rfl ?_ | refine stp ?_ | exact obs | with_reducible refine And.intro ?_ ?_ | refine nrm ?_ | apply row_eq | refine cte ?_ | refine ctd ?_ | refine cse ?_ | refine csd ?_ | refine wrp ?_ | refine stq ?_ | refine cps ?_ | refine opn ?_ | exact eqs | (intro _; rfl))
   refine ret_eq ?_ (by rfl); rfl
  ·have i1 := con0 (X := Sx0) ((check22 s hs).1 h)
   rw [h]
   refine sy_call (X := Sx0) (fun _ => false) [] [] (fn := Tryz.f43) Tryz.func43 rfl (by decide) rfl rfl ?_
   repeat' (first | (apply run; conv => whnf) | (with_reducible first | refine snt ?_ | refine snf ?_ | refine sht ?_ | refine shf ?_) | ((first | with_reducible refine split_neg (fun hc => ?_) (fun hc => ?_) | refine split (fun hc => ?_) (fun hc => ?_)) <;> (try simp only [bsl, true_implies, false_implies, Int.reduceEq, Int.reduceLT, Int.reduceLE, Nat.reduceLT, Nat.reduceEqDiff] at hc) <;> try first | (exfalso; omega) | exact btf hc | exact bft hc) | refine fact_in (fun hby => ?_) | refine un_rfl ?_ | refine stp ?_ | exact obs | with_reducible refine And.intro ?_ ?_ | refine nrm ?_ | apply row_eq | refine cte ?_ | refine ctd ?_ | refine cse ?_ | refine csd ?_ | refine wrp ?_ | refine stq ?_ | refine cps ?_ | refine opn ?_ | exact eqs | (intro _; rfl))
   refine ret_eq ?_ (by rfl); rfl
  ·have i1 := con0 (X := Sx0) ((check26 s hs).1 h)
   rw [h]
   refine sy_call (X := Sx0) (fun _ => false) [] [] (fn := Tryz.f43) Tryz.func43 rfl (by decide) rfl rfl ?_
   repeat' (first | (apply run; conv => whnf) | (with_reducible first | refine snt ?_ | refine snf ?_ | refine sht ?_ | refine shf ?_) | ((first | with_reducible refine split_neg (fun hc => ?_) (fun hc => ?_) | refine split (fun hc => ?_) (fun hc => ?_)) <;> (try simp only [bsl, true_implies, false_implies, Int.reduceEq, Int.reduceLT, Int.reduceLE, Nat.reduceLT, Nat.reduceEqDiff] at hc) <;> try first | (exfalso; omega) | exact btf hc | exact bft hc) | refine fact_in (fun hby => ?_) | refine un_rfl ?_ | refine stp ?_ | exact obs | with_reducible refine And.intro ?_ ?_ | refine nrm ?_ | apply row_eq | refine cte ?_ | refine ctd ?_ | refine cse ?_ | refine csd ?_ | refine wrp ?_ | refine stq ?_ | refine cps ?_ | refine opn ?_ | exact eqs | (intro _; rfl))
   refine ret_eq ?_ (by rfl); rfl
  ·have i1 := con0 (X := Sx0) ((check30 s hs).1 h)
   rw [h]
   refine sy_call (X := Sx0) (fun _ => false) [] [] (fn := Tryz.f43) Tryz.func43 rfl (by decide) rfl rfl ?_
   repeat' (first | (apply run; conv => whnf) | (with_reducible first | refine snt ?_ | refine snf ?_ | refine sht ?_ | refine shf ?_) | ((first | with_reducible refine split_neg (fun hc => ?_) (fun hc => ?_) | refine split (fun hc => ?_) (fun hc => ?_)) <;> (try simp only [bsl, true_implies, false_implies, Int.reduceEq, Int.reduceLT, Int.reduceLE, Nat.reduceLT, Nat.reduceEqDiff] at hc) <;> try first | (exfalso; omega) | exact btf hc | exact bft hc) | refine fact_in (fun hby => ?_) | refine un_rfl ?_ | refine stp ?_ | exact obs | with_reducible refine And.intro ?_ ?_ | refine nrm ?_ | apply row_eq | refine cte ?_ | refine ctd ?_ | refine cse ?_ | refine csd ?_ | refine wrp ?_ | refine stq ?_ | refine cps ?_ | refine opn ?_ | exact eqs | (intro _; rfl))
   refine ret_eq ?_ (by rfl); rfl
  ·simp [checkI, h0] at h
 ·have i1 := con0 (X := Sx0) (check_bad k s hs h)
  refine sy_call (X := Sx0) (fun _ => false) [] [] (fn := Tryz.f43) Tryz.func43 rfl (by decide) rfl rfl ?_
  repeat' (first | (apply run; conv => whnf) | (with_reducible first | refine snt ?_ | refine snf ?_ | refine sht ?_ | refine shf ?_) | ((first | with_reducible refine split_neg (fun hc => ?_) (fun hc => ?_) | refine split (fun hc => ?_) (fun hc => ?_)) <;> (try simp only [bsl, true_implies, false_implies, Int.reduceEq, Int.reduceLT, Int.reduceLE, Nat.reduceLT, Nat.reduceEqDiff] at hc) <;> try first | (exfalso; omega) | exact btf hc | exact bft hc) | refine fact_in (fun hby => ?_) | refine un_rfl ?_ | refine stp ?_ | exact obs | with_reducible refine And.intro ?_ ?_ | refine nrm ?_ | apply row_eq | refine cte ?_ | refine ctd ?_ | refine cse ?_ | refine csd ?_ | refine wrp ?_ | refine stq ?_ | refine cps ?_ | refine opn ?_ | exact eqs | (intro _; rfl))
  refine ret_eq ?_ (by rfl); rfl
instance {k : Int} {s : List UInt8} : Con Sx0 43 [.agg [.int .u32 k, .str s]] (s.length ≤ 1000000) (.int .i64 (checkI k s)) := con (Check_call k s)
end Go.Proofs.YtaajfbcopafkaaaGreatDoor.Ai
