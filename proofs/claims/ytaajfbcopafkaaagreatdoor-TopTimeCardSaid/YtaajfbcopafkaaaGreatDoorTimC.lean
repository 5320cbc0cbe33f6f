/- Times: their elements compared, and their values. Own work of this seat. -/
import Derived.Test.YtaajfbcopafkaaaGreatDoorTimB
namespace Go.Proofs.YtaajfbcopafkaaaGreatDoor.Ai
open Go
set_option linter.unusedSimpArgs false
set_option linter.unusedVariables false
set_option maxHeartbeats 4000000
set_option maxRecDepth 100000
theorem closedR {Ms : List Nat} {n : Nat} {g : FuncId} {args : List AVal} {r : AVal} (h : runR Kx Ms n g args r = true) : CallF Cx g args [] r [] := ⟨0, rfl, rfl, runR_sound Cb_mixed names_ok Cb_Y (by rw [kx_eq]; exact h)⟩
theorem isNaN_call (n : Int) : CallF Cx 125 [.int .i64 n] [] (.bool false) [] := by
  refine sy_call (X := Sx0) (fun _ => false) [] [] (fn := Tryz.f125) Tryz.func125 rfl (by decide) rfl rfl ?_
  repeat' (first | (apply run; conv => whnf) | (with_reducible first | refine snt ?_ | refine snf ?_ | refine sht ?_ | refine shf ?_) | ((first | with_reducible refine split_neg (fun hc => ?_) (fun hc => ?_) | refine split (fun hc => ?_) (fun hc => ?_)) <;> (try simp only [bsl, true_implies, false_implies, Int.reduceEq, Int.reduceLT, Int.reduceLE, Nat.reduceLT, Nat.reduceEqDiff] at hc) <;> try first | (exfalso; omega) | exact btf hc | exact bft hc) | refine fact_in (fun hby => ?_) | refine un_rfl ?_ | refine stp ?_ | exact obs | with_reducible refine And.intro ?_ ?_ | refine nrm ?_ | apply row_eq | refine cte ?_ | refine ctd ?_ | refine cse ?_ | refine csd ?_ | refine wrp ?_ | refine stq ?_ | refine cps ?_ | refine opn ?_ | exact eqs | (intro _; rfl))
  all_goals (refine ret_eq ?_ (by rfl); first | rfl | simp)
instance {n : Int} : Con Sx0 125 [.int .i64 n] True (.bool false) := con0 (isNaN_call n)
theorem cmpInt_call (n m : Int) : CallF Cx 79 [.int .i64 n, .int .i64 m] [] (.int .i64 (cmpZ n m)) [] := by
  refine sy_call (X := Sx0) (fun _ => false) [] [] (fn := Tryz.f79) Tryz.func79 rfl (by decide) rfl rfl ?_
  repeat' (first | (apply run; conv => whnf) | (with_reducible first | refine snt ?_ | refine snf ?_ | refine sht ?_ | refine shf ?_) | ((first | with_reducible refine split_neg (fun hc => ?_) (fun hc => ?_) | refine split (fun hc => ?_) (fun hc => ?_)) <;> (try simp only [bsl, true_implies, false_implies, Int.reduceEq, Int.reduceLT, Int.reduceLE, Nat.reduceLT, Nat.reduceEqDiff] at hc) <;> try first | (exfalso; omega) | exact btf hc | exact bft hc) | refine fact_in (fun hby => ?_) | refine un_rfl ?_ | refine stp ?_ | exact obs | with_reducible refine And.intro ?_ ?_ | refine nrm ?_ | apply row_eq | refine cte ?_ | refine ctd ?_ | refine cse ?_ | refine csd ?_ | refine wrp ?_ | refine stq ?_ | refine cps ?_ | refine opn ?_ | exact eqs | (intro _; rfl))
  all_goals (refine ret_eq ?_ (by rfl); simp [cmpZ, *])
instance {n m : Int} : Con Sx0 79 [.int .i64 n, .int .i64 m] True (.int .i64 (cmpZ n m)) := con0 (cmpInt_call n m)
theorem fields_call (a1 a2 a3 a4 a5 a6 : Int) : CallF Cx 39 [.agg [.int .i64 a1, .int .i64 a2, .int .i64 a3, .int .i64 a4, .int .i64 a5, .int .i64 a6]] [] (.slc 1 [[.int .i64 a1], [.int .i64 a2], [.int .i64 a3], [.int .i64 a4], [.int .i64 a5], [.int .i64 a6]] (some 6)) [] := by
  refine sy_call (X := Sx0) (fun _ => false) [] [] (fn := Tryz.f39) Tryz.func39 rfl (by decide) rfl rfl ?_
  repeat' (first | (apply run; conv => whnf) | (with_reducible first | refine snt ?_ | refine snf ?_ | refine sht ?_ | refine shf ?_) | ((first | with_reducible refine split_neg (fun hc => ?_) (fun hc => ?_) | refine split (fun hc => ?_) (fun hc => ?_)) <;> (try simp only [bsl, true_implies, false_implies, Int.reduceEq, Int.reduceLT, Int.reduceLE, Nat.reduceLT, Nat.reduceEqDiff] at hc) <;> try first | (exfalso; omega) | exact btf hc | exact bft hc) | refine fact_in (fun hby => ?_) | refine un_rfl ?_ | refine stp ?_ | exact obs | with_reducible refine And.intro ?_ ?_ | refine nrm ?_ | apply row_eq | refine cte ?_ | refine ctd ?_ | refine cse ?_ | refine csd ?_ | refine wrp ?_ | refine stq ?_ | refine cps ?_ | refine opn ?_ | exact eqs | (intro _; rfl))
  refine ret_eq ?_ (by rfl); rfl
instance {a1 a2 a3 a4 a5 a6 : Int} : Con Sx0 39 [.agg [.int .i64 a1, .int .i64 a2, .int .i64 a3, .int .i64 a4, .int .i64 a5, .int .i64 a6]] True (.slc 1 [[.int .i64 a1], [.int .i64 a2], [.int .i64 a3], [.int .i64 a4], [.int .i64 a5], [.int .i64 a6]] (some 6)) := con0 (fields_call ..)
theorem cmp6_call (a1 a2 a3 a4 a5 a6 b1 b2 b3 b4 b5 b6 : Int) (c d : Option Nat) : CallF Cx 38 [.slc 1 [[.int .i64 a1], [.int .i64 a2], [.int .i64 a3], [.int .i64 a4], [.int .i64 a5], [.int .i64 a6]] c, .slc 1 [[.int .i64 b1], [.int .i64 b2], [.int .i64 b3], [.int .i64 b4], [.int .i64 b5], [.int .i64 b6]] d] [] (.int .i64 (thenZ (cmpZ a1 b1) (thenZ (cmpZ a2 b2) (thenZ (cmpZ a3 b3) (thenZ (cmpZ a4 b4) (thenZ (cmpZ a5 b5) (cmpZ a6 b6))))))) [] := by
  refine sy_call (X := Sx0) (fun _ => false) [] [] (fn := Tryz.f38) Tryz.func38 rfl (by decide) rfl rfl ?_
  repeat' (first | (apply run; conv => whnf) | (with_reducible first | refine snt ?_ | refine snf ?_ | refine sht ?_ | refine shf ?_) | ((first | with_reducible refine split_neg (fun hc => ?_) (fun hc => ?_) | refine split (fun hc => ?_) (fun hc => ?_)) <;> (try simp only [bsl, true_implies, false_implies, Int.reduceEq, Int.reduceLT, Int.reduceLE, Nat.reduceLT, Nat.reduceEqDiff] at hc) <;> try first | (exfalso; omega) | exact btf hc | exact bft hc) | refine loop_round ?_ | refine fact_in (fun hby => ?_) | refine un_rfl ?_ | refine stp ?_ | exact obs | with_reducible refine And.intro ?_ ?_ | refine nrm ?_ | apply row_eq | refine cte ?_ | refine ctd ?_ | refine cse ?_ | refine csd ?_ | refine wrp ?_ | refine stq ?_ | refine cps ?_ | refine opn ?_ | exact eqs | (intro _; rfl))
  all_goals (refine ret_eq ?_ (by rfl); simp_all [thenZ])
instance {a1 a2 a3 a4 a5 a6 b1 b2 b3 b4 b5 b6 : Int} {c d : Option Nat} : Con Sx0 38 [.slc 1 [[.int .i64 a1], [.int .i64 a2], [.int .i64 a3], [.int .i64 a4], [.int .i64 a5], [.int .i64 a6]] c, .slc 1 [[.int .i64 b1], [.int .i64 b2], [.int .i64 b3], [.int .i64 b4], [.int .i64 b5], [.int .i64 b6]] d] True (.int .i64 (thenZ (cmpZ a1 b1) (thenZ (cmpZ a2 b2) (thenZ (cmpZ a3 b3) (thenZ (cmpZ a4 b4) (thenZ (cmpZ a5 b5) (cmpZ a6 b6))))))) := con0 (cmp6_call ..)
theorem timCmp_call (a b : Tim) : CallF Cx 11 [a.av, b.av] [] (.int .i64 (a.cmp b)) [] := by
  obtain ⟨a1, a2, a3, a4, a5, a6⟩ := a
  obtain ⟨b1, b2, b3, b4, b5, b6⟩ := b
  unfold Tim.av
  dsimp only
  refine sy_call (X := Sx0) (fun _ => false) [] [] (fn := Tryz.f11) Tryz.func11 rfl (by decide) rfl rfl ?_
  repeat' (first | (apply run; conv => whnf) | (with_reducible first | refine snt ?_ | refine snf ?_ | refine sht ?_ | refine shf ?_) | ((first | with_reducible refine split_neg (fun hc => ?_) (fun hc => ?_) | refine split (fun hc => ?_) (fun hc => ?_)) <;> (try simp only [bsl, true_implies, false_implies, Int.reduceEq, Int.reduceLT, Int.reduceLE, Nat.reduceLT, Nat.reduceEqDiff] at hc) <;> try first | (exfalso; omega) | exact btf hc | exact bft hc) | refine fact_in (fun hby => ?_) | refine un_rfl ?_ | refine stp ?_ | exact obs | with_reducible refine And.intro ?_ ?_ | refine nrm ?_ | apply row_eq | refine cte ?_ | refine ctd ?_ | refine cse ?_ | refine csd ?_ | refine wrp ?_ | refine stq ?_ | refine cps ?_ | refine opn ?_ | exact eqs | (intro _; rfl))
  refine ret_eq ?_ (by rfl); rfl
/-! The elements' encodings. -/
instance : Con Sx0 94 [.agg [.int .u8 0, .bool false, .int .u32 23]] True (.int .i64 0) := con0 (closedV (Ms := []) (n := 1000) (by kernel_rfl))
instance : Con Sx0 94 [.agg [.int .u8 0, .bool false, .int .u32 24]] True (.int .i64 0) := con0 (closedV (Ms := []) (n := 1000) (by kernel_rfl))
instance : Con Sx0 28 [.agg [.int .u8 0, .bool false, .int .u32 23]] True (.int .i64 1) := con0 (closedV (Ms := []) (n := 1000) (by kernel_rfl))
instance : Con Sx0 28 [.agg [.int .u8 0, .bool false, .int .u32 24]] True (.int .i64 1) := con0 (closedV (Ms := []) (n := 1000) (by kernel_rfl))
instance : Con Sx0 61 [.agg [.int .u8 0, .bool false, .int .u32 23]] True (.tup [.slc 1 [[.int .u8 23]] none, .int .i64 0]) := con0 (closedR (Ms := []) (n := 1000) (by kernel_rfl))
instance : Con Sx0 61 [.agg [.int .u8 0, .bool false, .int .u32 24]] True (.tup [.slc 1 [[.int .u8 24]] none, .int .i64 0]) := con0 (closedR (Ms := []) (n := 1000) (by kernel_rfl))
instance : Whole 59 := ⟨trivial⟩
instance : Inl Sx0 59 (Tryz.f59.body.getD .skip) Tryz.f59.results.toList Tryz.f59.ntmps := inl Tryz.func59 rfl (by decide) rfl rfl
theorem timPut_call (k : Int) (b : List UInt8) (cap : Option Nat) (n : Nat) (hb : b.length = n) (h : k = 23 ∧ n = 13 ∨ k = 24 ∧ n = 15) : CallF Cx 26 [.agg [.int .u8 0, .bool false, .int .u32 k, .slc 1 (b.map bytesRow) cap, .slc 5 [] (some 0)]] [] (.tup [.slc 1 ((UInt8.ofNat k.toNat :: UInt8.ofNat n :: b).map bytesRow) none, .int .i64 0]) [] := by
  have hlen : (b.map bytesRow).length = n := by rw [List.length_map, hb]
  have htot : totN ((b.map bytesRow).length : Int) = n + 2 := by rw [hlen]; rcases h with ⟨_, rfl⟩ | ⟨_, rfl⟩ <;> rfl
  have l13 : Con Sx0 82 [.int .i64 13] True (.tup [.slc 1 [[.int .u8 13]] none, .int .i64 0]) := con0 (closedR (Ms := []) (n := 1000) (by kernel_rfl))
  have l15 : Con Sx0 82 [.int .i64 15] True (.tup [.slc 1 [[.int .u8 15]] none, .int .i64 0]) := con0 (closedR (Ms := []) (n := 1000) (by kernel_rfl))
  have t13 : Con Sx0 16 [.int .i64 1, .int .i64 13] True (.int .i64 15) := con0 (closedV (Ms := []) (n := 1000) (by kernel_rfl))
  have t15 : Con Sx0 16 [.int .i64 1, .int .i64 15] True (.int .i64 17) := con0 (closedV (Ms := []) (n := 1000) (by kernel_rfl))
  have hlB : lenB ((b.map bytesRow).length : Int) = [(n : Int)] := by rw [hlen]; rcases h with ⟨_, rfl⟩ | ⟨_, rfl⟩ <;> rfl
  generalize hrows : b.map bytesRow = rows at *
  rcases h with ⟨rfl, rfl⟩ | ⟨rfl, rfl⟩
  all_goals
    refine sy_call (X := Sx0) (fun _ => false) [] [] (fn := Tryz.f26) Tryz.func26 rfl (by decide) rfl rfl ?_
    repeat' (first | (apply run; conv => whnf) | (with_reducible first | refine snt ?_ | refine snf ?_ | refine sht ?_ | refine shf ?_) | ((first | with_reducible refine split_neg (fun hc => ?_) (fun hc => ?_) | refine split (fun hc => ?_) (fun hc => ?_)) <;> (try simp only [bsl, true_implies, false_implies, Int.reduceEq, Int.reduceLT, Int.reduceLE, Nat.reduceLT, Nat.reduceEqDiff] at hc) <;> try first | (exfalso; omega) | exact btf hc | exact bft hc) | refine loop_round ?_ | refine fact_in (fun hby => ?_) | refine un_rfl ?_ | refine stp ?_ | exact obs | with_reducible refine And.intro ?_ ?_ | refine nrm ?_ | apply row_eq | refine cte ?_ | refine ctd ?_ | refine cse ?_ | refine csd ?_ | refine wrp ?_ | refine stq ?_ | refine cps ?_ | refine opn ?_ | exact eqs | (intro _; rfl))
    all_goals first
      | (simp only [Ob, hlB, List.length_append, List.length_map, List.length_replicate, List.length_cons, List.length_nil]; omega)
      | (refine ret_eq ?_ (by rfl); rw [hlB, ← hrows]; rfl)
end Go.Proofs.YtaajfbcopafkaaaGreatDoor.Ai
