/- The kinds of character strings. Own work of this seat. -/
import Derived.Test.YtaajfbcopafkaaaGreatDoorValid
namespace Go.Proofs.YtaajfbcopafkaaaGreatDoor.Ai
open Go
set_option linter.unusedSimpArgs false
set_option linter.unusedVariables false
set_option maxHeartbeats 4000000
set_option maxRecDepth 100000
abbrev btw (a b : Int) : AVal := .func 184 [] [.rptr [.int .i32 a], .rptr [.int .i32 b]]
abbrev fnV (f : FuncId) : AVal := .func f [] []
abbrev k12 : List AVal := [.int .u32 12, btw 1 1114111, fnV 128]
abbrev k19 : List AVal := [.int .u32 19, fnV 129, fnV 130]
abbrev k22 : List AVal := [.int .u32 22, btw 1 127, fnV 130]
abbrev k26 : List AVal := [.int .u32 26, btw 32 126, fnV 130]
abbrev k30 : List AVal := [.int .u32 30, btw 1 65535, fnV 131]
abbrev kRows : List (List AVal) := [k12, k19, k22, k26, k30]
abbrev k0 : List AVal := [.int .u32 0, .nilfunc, .nilfunc]
theorem kinds_call : CallF Cx 83 [] [] (.slc 3 kRows (some 5)) [] := by
 refine sy_call (X := Sx0) (fun _ => false) [] [] (fn := Tryz.f83) Tryz.func83 rfl (by decide) rfl rfl ?_
 repeat' (first | (apply run; conv => whnf) | (with_reducible first | refine snt ?_ | refine snf ?_ | refine sht ?_ | refine shf ?_) | ((first | with_reducible refine split_neg (fun hc => ?_) (fun hc => ?_) | refine split (fun hc => ?_) (fun hc => ?_)) <;> (try simp only [bsl, true_implies, false_implies, Int.reduceEq, Int.reduceLT, Int.reduceLE, Nat.reduceLT, Nat.reduceEqDiff] at hc) <;> try first | (exfalso; omega) | exact btf hc | exact bft hc) | refine fact_in (fun hby => ?_) | refine un_rfl ?_ | refine stp ?_ | exact obs | with_reducible refine And.intro ?_ ?_ | refine nrm ?_ | apply row_eq | refine cte ?_ | refine ctd ?_ | refine cse ?_ | refine csd ?_ | refine wrp ?_ | refine stq ?_ | refine cps ?_ | refine opn ?_ | exact eqs | (intro _; rfl))
 refine ret_eq ?_ (by rfl); rfl
instance : Con Sx0 83 [] True (.slc 3 kRows (some 5)) := con0 kinds_call
instance {n m : Int} {fi gi : FuncId} {fb fc gb gc : List AVal} : Con Sx0 85 [.agg [.int .u32 m, .func fi fb fc, .func gi gb gc], .rptr [.int .u32 n]] ((norefL fb && norefL fc && norefL gb && norefL gc) = true) (.bool (decide (m = n))) :=
 con fun h => by
  simp only [Bool.and_eq_true] at h
  exact find1_call n m fi gi fb fc gb gc h.1.1.1 h.1.1.2 h.1.2 h.2
def idxKind (n : Int) : Int := if n = 12 then 0 else if n = 19 then 1 else if n = 22 then 2 else if n = 26 then 3 else if n = 30 then 4 else -1
theorem indexKind_call (n : Int) : CallF Cx 84 [.slc 3 kRows (some 5), .func 85 [] [.rptr [.int .u32 n]]] [] (.int .i64 (idxKind n)) [] := by
 refine sy_call (X := Sx0) (fun _ => false) [] [] (fn := Tryz.f84) Tryz.func84 rfl (by decide) rfl rfl ?_
 repeat' (first | (apply run; conv => whnf) | (with_reducible first | refine snt ?_ | refine snf ?_ | refine sht ?_ | refine shf ?_) | ((first | with_reducible refine split_neg (fun hc => ?_) (fun hc => ?_) | refine split (fun hc => ?_) (fun hc => ?_)) <;> (try simp only [bsl, true_implies, false_implies, Int.reduceEq, Int.reduceLT, Int.reduceLE, Nat.reduceLT, Nat.reduceEqDiff] at hc) <;> try first | (exfalso; omega) | exact btf hc | exact bft hc) | refine fact_in (fun hby => ?_) | refine un_rfl ?_ | refine stp ?_ | exact obs | with_reducible refine And.intro ?_ ?_ | refine nrm ?_ | apply row_eq | refine cte ?_ | refine ctd ?_ | refine cse ?_ | refine csd ?_ | refine wrp ?_ | refine stq ?_ | refine cps ?_ | refine opn ?_ | exact eqs | (intro _; rfl))
 refine loop_rule (α := Nat) [8] 0 (fun i => [.int .i64 i]) (fun i => []) (fun i => i ≤ 5 ∧ (0 < i → n ≠ 12) ∧ (1 < i → n ≠ 19) ∧ (2 < i → n ≠ 22) ∧ (3 < i → n ≠ 26) ∧ (4 < i → n ≠ 30)) (fun i => 5 - i) (0) (fun _ => rfl) (by decide) ?_
 ((refine run ?_); conv => whnf)
 refine goal_in ⟨?_, fit_eq ?_, sto_take (n := 0) (Nat.le_of_ble_eq_true rfl) ?_⟩ (fun i hinv => ?_)
 ·simp
 ·rfl
 ·rfl
 obtain ⟨hi, h0, h1, h2, h3, h4⟩ := hinv
 have hi : i = 0 ∨ i = 1 ∨ i = 2 ∨ i = 3 ∨ i = 4 ∨ i = 5 := by omega
 rcases hi with rfl | rfl | rfl | rfl | rfl | rfl
 ·repeat' (first | (apply run; conv => whnf) | (with_reducible first | refine snt ?_ | refine snf ?_ | refine sht ?_ | refine shf ?_) | ((first | with_reducible refine split_neg (fun hc => ?_) (fun hc => ?_) | refine split (fun hc => ?_) (fun hc => ?_)) <;> (try simp only [bsl, true_implies, false_implies, Int.reduceEq, Int.reduceLT, Int.reduceLE, Nat.reduceLT, Nat.reduceEqDiff] at hc) <;> try first | (exfalso; omega) | exact btf hc | exact bft hc) | refine fact_in (fun hby => ?_) | refine un_rfl ?_ | refine stp ?_ | exact obs | with_reducible refine And.intro ?_ ?_ | refine nrm ?_ | apply row_eq | refine cte ?_ | refine ctd ?_ | refine cse ?_ | refine csd ?_ | refine wrp ?_ | refine stq ?_ | refine cps ?_ | refine opn ?_ | exact eqs | (intro _; rfl))
  ·subst hc; refine ret_eq ?_ (by rfl); rfl
  ·refine meet_eq (1) ?_ ?_ (Nat.le_of_ble_eq_true rfl) ?_
   ·refine ⟨⟨by omega, ?_, ?_, ?_, ?_, ?_⟩, by decide⟩ <;> omega
   ·rfl
   ·rfl
 ·repeat' (first | (apply run; conv => whnf) | (with_reducible first | refine snt ?_ | refine snf ?_ | refine sht ?_ | refine shf ?_) | ((first | with_reducible refine split_neg (fun hc => ?_) (fun hc => ?_) | refine split (fun hc => ?_) (fun hc => ?_)) <;> (try simp only [bsl, true_implies, false_implies, Int.reduceEq, Int.reduceLT, Int.reduceLE, Nat.reduceLT, Nat.reduceEqDiff] at hc) <;> try first | (exfalso; omega) | exact btf hc | exact bft hc) | refine fact_in (fun hby => ?_) | refine un_rfl ?_ | refine stp ?_ | exact obs | with_reducible refine And.intro ?_ ?_ | refine nrm ?_ | apply row_eq | refine cte ?_ | refine ctd ?_ | refine cse ?_ | refine csd ?_ | refine wrp ?_ | refine stq ?_ | refine cps ?_ | refine opn ?_ | exact eqs | (intro _; rfl))
  ·subst hc; refine ret_eq ?_ (by rfl); rfl
  ·refine meet_eq (2) ?_ ?_ (Nat.le_of_ble_eq_true rfl) ?_
   ·refine ⟨⟨by omega, ?_, ?_, ?_, ?_, ?_⟩, by decide⟩ <;> omega
   ·rfl
   ·rfl
 ·repeat' (first | (apply run; conv => whnf) | (with_reducible first | refine snt ?_ | refine snf ?_ | refine sht ?_ | refine shf ?_) | ((first | with_reducible refine split_neg (fun hc => ?_) (fun hc => ?_) | refine split (fun hc => ?_) (fun hc => ?_)) <;> (try simp only [bsl, true_implies, false_implies, Int.reduceEq, Int.reduceLT, Int.reduceLE, Nat.reduceLT, Nat.reduceEqDiff] at hc) <;> try first | (exfalso; omega) | exact btf hc | exact bft hc) | refine fact_in (fun hby => ?_) | refine un_rfl ?_ | refine stp ?_ | exact obs | with_reducible refine And.intro ?_ ?_ | refine nrm ?_ | apply row_eq | refine cte ?_ | refine ctd ?_ | refine cse ?_ | refine csd ?_ | refine wrp ?_ | refine stq ?_ | refine cps ?_ | refine opn ?_ | exact eqs | (intro _; rfl))
  ·subst hc; refine ret_eq ?_ (by rfl); rfl
  ·refine meet_eq (3) ?_ ?_ (Nat.le_of_ble_eq_true rfl) ?_
   ·refine ⟨⟨by omega, ?_, ?_, ?_, ?_, ?_⟩, by decide⟩ <;> omega
   ·rfl
   ·rfl
 ·repeat' (first | (apply run; conv => whnf) | (with_reducible first | refine snt ?_ | refine snf ?_ | refine sht ?_ | refine shf ?_) | ((first | with_reducible refine split_neg (fun hc => ?_) (fun hc => ?_) | refine split (fun hc => ?_) (fun hc => ?_)) <;> (try simp only [bsl, true_implies, false_implies, Int.reduceEq, Int.reduceLT, Int.reduceLE, Nat.reduceLT, Nat.reduceEqDiff] at hc) <;> try first | (exfalso; omega) | exact btf hc | exact bft hc) | refine fact_in (fun hby => ?_) | refine un_rfl ?_ | refine stp ?_ | exact obs | with_reducible refine And.intro ?_ ?_ | refine nrm ?_ | apply row_eq | refine cte ?_ | refine ctd ?_ | refine cse ?_ | refine csd ?_ | refine wrp ?_ | refine stq ?_ | refine cps ?_ | refine opn ?_ | exact eqs | (intro _; rfl))
  ·subst hc; refine ret_eq ?_ (by rfl); rfl
  ·refine meet_eq (4) ?_ ?_ (Nat.le_of_ble_eq_true rfl) ?_
   ·refine ⟨⟨by omega, ?_, ?_, ?_, ?_, ?_⟩, by decide⟩ <;> omega
   ·rfl
   ·rfl
 ·repeat' (first | (apply run; conv => whnf) | (with_reducible first | refine snt ?_ | refine snf ?_ | refine sht ?_ | refine shf ?_) | ((first | with_reducible refine split_neg (fun hc => ?_) (fun hc => ?_) | refine split (fun hc => ?_) (fun hc => ?_)) <;> (try simp only [bsl, true_implies, false_implies, Int.reduceEq, Int.reduceLT, Int.reduceLE, Nat.reduceLT, Nat.reduceEqDiff] at hc) <;> try first | (exfalso; omega) | exact btf hc | exact bft hc) | refine fact_in (fun hby => ?_) | refine un_rfl ?_ | refine stp ?_ | exact obs | with_reducible refine And.intro ?_ ?_ | refine nrm ?_ | apply row_eq | refine cte ?_ | refine ctd ?_ | refine cse ?_ | refine csd ?_ | refine wrp ?_ | refine stq ?_ | refine cps ?_ | refine opn ?_ | exact eqs | (intro _; rfl))
  ·subst hc; refine ret_eq ?_ (by rfl); rfl
  ·refine meet_eq (5) ?_ ?_ (Nat.le_of_ble_eq_true rfl) ?_
   ·refine ⟨⟨by omega, ?_, ?_, ?_, ?_, ?_⟩, by decide⟩ <;> omega
   ·rfl
   ·rfl
 ·repeat' (first | (apply run; conv => whnf) | (with_reducible first | refine snt ?_ | refine snf ?_ | refine sht ?_ | refine shf ?_) | ((first | with_reducible refine split_neg (fun hc => ?_) (fun hc => ?_) | refine split (fun hc => ?_) (fun hc => ?_)) <;> (try simp only [bsl, true_implies, false_implies, Int.reduceEq, Int.reduceLT, Int.reduceLE, Nat.reduceLT, Nat.reduceEqDiff] at hc) <;> try first | (exfalso; omega) | exact btf hc | exact bft hc) | refine fact_in (fun hby => ?_) | refine un_rfl ?_ | refine stp ?_ | exact obs | with_reducible refine And.intro ?_ ?_ | refine nrm ?_ | apply row_eq | refine cte ?_ | refine ctd ?_ | refine cse ?_ | refine csd ?_ | refine wrp ?_ | refine stq ?_ | refine cps ?_ | refine opn ?_ | exact eqs | (intro _; rfl))
  refine ret_eq ?_ (by rfl)
  have e0 := h0 (by omega); have e1 := h1 (by omega); have e2 := h2 (by omega); have e3 := h3 (by omega); have e4 := h4 (by omega)
  simp [idxKind, e0, e1, e2, e3, e4]
instance {n : Int} : Con Sx0 84 [.slc 3 kRows (some 5), .func 85 [] [.rptr [.int .u32 n]]] True (.int .i64 (idxKind n)) := con0 (indexKind_call n)
theorem kind_cases (n : Int) : n = 12 ∨ n = 19 ∨ n = 22 ∨ n = 26 ∨ n = 30 ∨ kindI n = 0 := by
 by_cases h : n = 12 ∨ n = 19 ∨ n = 22 ∨ n = 26 ∨ n = 30
 ·omega
 ·exact .inr (.inr (.inr (.inr (.inr (by unfold kindI; rw [if_neg h])))))
theorem find12 : CallF Cx 47 [.int .u32 12] [] (.tup [.agg k12, .bool true]) [] := by
 have hi : idxKind 12 = 0 := rfl
 refine sy_call (X := Sx0) (fun _ => false) [] [] (fn := Tryz.f47) Tryz.func47 rfl (by decide) rfl rfl ?_
 repeat' (first | (apply run; conv => whnf) | (with_reducible first | refine snt ?_ | refine snf ?_ | refine sht ?_ | refine shf ?_) | ((first | with_reducible refine split_neg (fun hc => ?_) (fun hc => ?_) | refine split (fun hc => ?_) (fun hc => ?_)) <;> (try simp only [bsl, true_implies, false_implies, Int.reduceEq, Int.reduceLT, Int.reduceLE, Nat.reduceLT, Nat.reduceEqDiff] at hc) <;> try first | (exfalso; omega) | exact btf hc | exact bft hc) | refine fact_in (fun hby => ?_) | refine un_rfl ?_ | refine stp ?_ | exact obs | with_reducible refine And.intro ?_ ?_ | refine nrm ?_ | apply row_eq | refine cte ?_ | refine ctd ?_ | refine cse ?_ | refine csd ?_ | refine wrp ?_ | refine stq ?_ | refine cps ?_ | refine opn ?_ | exact eqs | (intro _; rfl))
 refine ret_eq ?_ (by rfl); rfl
instance : Con Sx0 47 [.int .u32 12] True (.tup [.agg k12, .bool true]) := con0 find12
theorem find19 : CallF Cx 47 [.int .u32 19] [] (.tup [.agg k19, .bool true]) [] := by
 have hi : idxKind 19 = 1 := rfl
 refine sy_call (X := Sx0) (fun _ => false) [] [] (fn := Tryz.f47) Tryz.func47 rfl (by decide) rfl rfl ?_
 repeat' (first | (apply run; conv => whnf) | (with_reducible first | refine snt ?_ | refine snf ?_ | refine sht ?_ | refine shf ?_) | ((first | with_reducible refine split_neg (fun hc => ?_) (fun hc => ?_) | refine split (fun hc => ?_) (fun hc => ?_)) <;> (try simp only [bsl, true_implies, false_implies, Int.reduceEq, Int.reduceLT, Int.reduceLE, Nat.reduceLT, Nat.reduceEqDiff] at hc) <;> try first | (exfalso; omega) | exact btf hc | exact bft hc) | refine fact_in (fun hby => ?_) | refine un_rfl ?_ | refine stp ?_ | exact obs | with_reducible refine And.intro ?_ ?_ | refine nrm ?_ | apply row_eq | refine cte ?_ | refine ctd ?_ | refine cse ?_ | refine csd ?_ | refine wrp ?_ | refine stq ?_ | refine cps ?_ | refine opn ?_ | exact eqs | (intro _; rfl))
 refine ret_eq ?_ (by rfl); rfl
instance : Con Sx0 47 [.int .u32 19] True (.tup [.agg k19, .bool true]) := con0 find19
theorem find22 : CallF Cx 47 [.int .u32 22] [] (.tup [.agg k22, .bool true]) [] := by
 have hi : idxKind 22 = 2 := rfl
 refine sy_call (X := Sx0) (fun _ => false) [] [] (fn := Tryz.f47) Tryz.func47 rfl (by decide) rfl rfl ?_
 repeat' (first | (apply run; conv => whnf) | (with_reducible first | refine snt ?_ | refine snf ?_ | refine sht ?_ | refine shf ?_) | ((first | with_reducible refine split_neg (fun hc => ?_) (fun hc => ?_) | refine split (fun hc => ?_) (fun hc => ?_)) <;> (try simp only [bsl, true_implies, false_implies, Int.reduceEq, Int.reduceLT, Int.reduceLE, Nat.reduceLT, Nat.reduceEqDiff] at hc) <;> try first | (exfalso; omega) | exact btf hc | exact bft hc) | refine fact_in (fun hby => ?_) | refine un_rfl ?_ | refine stp ?_ | exact obs | with_reducible refine And.intro ?_ ?_ | refine nrm ?_ | apply row_eq | refine cte ?_ | refine ctd ?_ | refine cse ?_ | refine csd ?_ | refine wrp ?_ | refine stq ?_ | refine cps ?_ | refine opn ?_ | exact eqs | (intro _; rfl))
 refine ret_eq ?_ (by rfl); rfl
instance : Con Sx0 47 [.int .u32 22] True (.tup [.agg k22, .bool true]) := con0 find22
theorem find26 : CallF Cx 47 [.int .u32 26] [] (.tup [.agg k26, .bool true]) [] := by
 have hi : idxKind 26 = 3 := rfl
 refine sy_call (X := Sx0) (fun _ => false) [] [] (fn := Tryz.f47) Tryz.func47 rfl (by decide) rfl rfl ?_
 repeat' (first | (apply run; conv => whnf) | (with_reducible first | refine snt ?_ | refine snf ?_ | refine sht ?_ | refine shf ?_) | ((first | with_reducible refine split_neg (fun hc => ?_) (fun hc => ?_) | refine split (fun hc => ?_) (fun hc => ?_)) <;> (try simp only [bsl, true_implies, false_implies, Int.reduceEq, Int.reduceLT, Int.reduceLE, Nat.reduceLT, Nat.reduceEqDiff] at hc) <;> try first | (exfalso; omega) | exact btf hc | exact bft hc) | refine fact_in (fun hby => ?_) | refine un_rfl ?_ | refine stp ?_ | exact obs | with_reducible refine And.intro ?_ ?_ | refine nrm ?_ | apply row_eq | refine cte ?_ | refine ctd ?_ | refine cse ?_ | refine csd ?_ | refine wrp ?_ | refine stq ?_ | refine cps ?_ | refine opn ?_ | exact eqs | (intro _; rfl))
 refine ret_eq ?_ (by rfl); rfl
instance : Con Sx0 47 [.int .u32 26] True (.tup [.agg k26, .bool true]) := con0 find26
theorem find30 : CallF Cx 47 [.int .u32 30] [] (.tup [.agg k30, .bool true]) [] := by
 have hi : idxKind 30 = 4 := rfl
 refine sy_call (X := Sx0) (fun _ => false) [] [] (fn := Tryz.f47) Tryz.func47 rfl (by decide) rfl rfl ?_
 repeat' (first | (apply run; conv => whnf) | (with_reducible first | refine snt ?_ | refine snf ?_ | refine sht ?_ | refine shf ?_) | ((first | with_reducible refine split_neg (fun hc => ?_) (fun hc => ?_) | refine split (fun hc => ?_) (fun hc => ?_)) <;> (try simp only [bsl, true_implies, false_implies, Int.reduceEq, Int.reduceLT, Int.reduceLE, Nat.reduceLT, Nat.reduceEqDiff] at hc) <;> try first | (exfalso; omega) | exact btf hc | exact bft hc) | refine fact_in (fun hby => ?_) | refine un_rfl ?_ | refine stp ?_ | exact obs | with_reducible refine And.intro ?_ ?_ | refine nrm ?_ | apply row_eq | refine cte ?_ | refine ctd ?_ | refine cse ?_ | refine csd ?_ | refine wrp ?_ | refine stq ?_ | refine cps ?_ | refine opn ?_ | exact eqs | (intro _; rfl))
 refine ret_eq ?_ (by rfl); rfl
instance : Con Sx0 47 [.int .u32 30] True (.tup [.agg k30, .bool true]) := con0 find30
theorem find0 (n : Int) (h : kindI n = 0) : CallF Cx 47 [.int .u32 n] [] (.tup [.agg k0, .bool false]) [] := by
 have hi : idxKind n = -1 := by
  unfold kindI at h
  unfold idxKind
  split at h
  ·cases h
  ·repeat' split
   all_goals omega
 refine sy_call (X := Sx0) (fun _ => false) [] [] (fn := Tryz.f47) Tryz.func47 rfl (by decide) rfl rfl ?_
 repeat' (first | (apply run; conv => whnf) | (with_reducible first | refine snt ?_ | refine snf ?_ | refine sht ?_ | refine shf ?_) | ((first | with_reducible refine split_neg (fun hc => ?_) (fun hc => ?_) | refine split (fun hc => ?_) (fun hc => ?_)) <;> (try simp only [bsl, true_implies, false_implies, Int.reduceEq, Int.reduceLT, Int.reduceLE, Nat.reduceLT, Nat.reduceEqDiff] at hc) <;> try first | (exfalso; omega) | exact btf hc | exact bft hc) | refine fact_in (fun hby => ?_) | refine un_rfl ?_ | refine stp ?_ | exact obs | with_reducible refine And.intro ?_ ?_ | refine nrm ?_ | apply row_eq | refine cte ?_ | refine ctd ?_ | refine cse ?_ | refine csd ?_ | refine wrp ?_ | refine stq ?_ | refine cps ?_ | refine opn ?_ | exact eqs | (intro _; rfl))
 refine ret_eq ?_ (by rfl); rfl
instance (priority := low) {n : Int} : Con Sx0 47 [.int .u32 n] (kindI n = 0) (.tup [.agg k0, .bool false]) := con (find0 n)
/-! The model's decoder, and the reference's. -/
theorem get_nth (s : List UInt8) (j : Nat) : (ByteArray.mk s.toArray).get! j = nth s j := by
 show s.toArray[j]! = nth s j
 unfold nth
 rw [List.getD_eq_getElem?_getD]
 simp [Array.getElem!_eq_getD, Array.getD_eq_getD_getElem?]
theorem contF_succ {s : List UInt8} {i k : Nat} {c0 c : Int} (h : contF s i c0 (k + 1) = some c) : ∃ c', contF s i c0 k = some c' ∧ 128 ≤ byI s (i + (k + 1)) ∧ byI s (i + (k + 1)) ≤ 191 ∧ c = 64 * c' + byI s (i + (k + 1)) - 128 := by
 simp only [contF] at h
 obtain ⟨c', h1, h2⟩ := Option.bind_eq_some_iff.1 h
 split at h2
 ·cases h2
 ·simp only [Option.some.injEq] at h2
  exact ⟨c', h1, by omega, by omega, h2.symm⟩
theorem decAt_decode {s : List UInt8} {i : Nat} {c : Int} {n : Nat} (h : decAt s i = some (c, n)) : decodeL s i = (c.toNat, n) ∧ 0 ≤ c ∧ c ≤ 1114111 ∧ ¬ (55296 ≤ c ∧ c < 57344) ∧ 0 < n ∧ i + n ≤ s.length := by
 unfold decAt at h
 obtain ⟨⟨more, c0, least⟩, h1, h⟩ := Option.bind_eq_some_iff.1 h
 dsimp only at h
 split at h
 ·rename_i hlt
  obtain ⟨c', h2, h⟩ := Option.bind_eq_some_iff.1 h
  split at h
  ·cases h
  ·rename_i hbad
   simp only [Option.some.injEq, Prod.mk.injEq] at h
   obtain ⟨rfl, rfl⟩ := h
   simp only [badC, decide_eq_true_eq] at hbad
   have hb := byI_bd s i
   have hby : ∀ k, byI s k = ((nth s k).toNat : Int) := fun _ => rfl
   have hsz : (ByteArray.mk s.toArray).size = s.length := by simp [ByteArray.size]
   have n0 := (nth s i).toNat_lt
   unfold decodeL Utf8.decode
   simp only [get_nth, hsz, Nat.add_zero]
   unfold cls at h1
   split at h1
   ·cases h1
    simp only [contF, Option.some.injEq] at h2
    subst h2
    simp only [hby] at *
    rw [if_pos (by omega)]
    exact ⟨by simp, by omega, by omega, by omega, by omega, by omega⟩
   ·split at h1
    ·cases h1
     obtain ⟨c1, a1, a2, a3, a4⟩ := contF_succ h2
     simp only [contF, Option.some.injEq] at a1
     have n1 := (nth s (i + 1)).toNat_lt
     simp only [hby, Nat.zero_add] at *
     rw [if_neg (by omega), if_pos (by simp; omega), if_pos (by omega)]
     exact ⟨Prod.ext (by dsimp only; omega) rfl, by omega, by omega, by omega, by omega, by omega⟩
    ·split at h1
     ·cases h1
      obtain ⟨c2, b1, b2, b3, b4⟩ := contF_succ h2
      obtain ⟨c1, a1, a2, a3, a4⟩ := contF_succ b1
      simp only [contF, Option.some.injEq] at a1
      have n1 := (nth s (i + 1)).toNat_lt
      have n2 := (nth s (i + 2)).toNat_lt
      have e2 : i + (1 + 1) = i + 2 := by omega
      simp only [hby, Nat.zero_add, e2] at *
      have hv : Utf8.valid (((nth s i).toNat % 16 * 4096 + (nth s (i + 1)).toNat % 64 * 64 + (nth s (i + 2)).toNat % 64 : Nat) : Int) = true := by
       simp only [Utf8.valid, Bool.or_eq_true, Bool.and_eq_true, decide_eq_true_eq]; omega
      rw [if_neg (by omega), if_neg (by simp; omega), if_pos (by simp; omega), if_pos (by simp only [hv, Bool.and_true, decide_eq_true_eq]; omega)]
      exact ⟨Prod.ext (by dsimp only; omega) rfl, by omega, by omega, by omega, by omega, by omega⟩
     ·split at h1
      ·cases h1
       obtain ⟨c3, d1, d2, d3, d4⟩ := contF_succ h2
       obtain ⟨c2, b1, b2, b3, b4⟩ := contF_succ d1
       obtain ⟨c1, a1, a2, a3, a4⟩ := contF_succ b1
       simp only [contF, Option.some.injEq] at a1
       have n1 := (nth s (i + 1)).toNat_lt
       have n2 := (nth s (i + 2)).toNat_lt
       have n3 := (nth s (i + 3)).toNat_lt
       have e2 : i + (1 + 1) = i + 2 := by omega
       have e3 : i + (2 + 1) = i + 3 := by omega
       simp only [hby, Nat.zero_add, e2, e3] at *
       have hv : Utf8.valid (((nth s i).toNat % 8 * 262144 + (nth s (i + 1)).toNat % 64 * 4096 + (nth s (i + 2)).toNat % 64 * 64 + (nth s (i + 3)).toNat % 64 : Nat) : Int) = true := by
        simp only [Utf8.valid, Bool.or_eq_true, Bool.and_eq_true, decide_eq_true_eq]; omega
       rw [if_neg (by omega), if_neg (by simp; omega), if_neg (by simp; omega), if_pos (by simp; omega), if_pos (by simp only [hv, Bool.and_true, decide_eq_true_eq]; omega)]
       exact ⟨Prod.ext (by dsimp only; omega) rfl, by omega, by omega, by omega, by omega, by omega⟩
      ·cases h1
 ·cases h
end Go.Proofs.YtaajfbcopafkaaaGreatDoor.Ai
