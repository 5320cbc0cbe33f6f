/- The examples of chapter 9. Own work of this seat. -/
import Derived.Test.YteenamolccbcfaaDoorLawA
namespace Go.Proofs.YteenamolccbcfaaDoor.Ai
open Go
set_option linter.unusedSimpArgs false
set_option linter.unusedVariables false
set_option maxHeartbeats 4000000
set_option maxRecDepth 100000
theorem callB {f : FuncId} {args : List AVal} {b : Bool} (h : CallF Cx f args [] (.bool b) []) (hb : b = true) : CallF Cx f args [] (.bool true) [] := hb ▸ h
theorem lives_call : CallF Cx 10 [] [] (.bool true) [] := by
  have f1 : checkI 19 [97, 32, 98] = 0 := by decide +kernel
  have f2 : checkI 19 [97, 95, 98] = 11 := by decide +kernel
  have f3 : checkI 4 [] = 9 := by decide +kernel
  have f4 : checkI 12 [255] = 11 := by decide +kernel
  have f5 : checkI 30 [195, 169] = 0 := by decide +kernel
  have h1 : convE 30 [195, 169] 12 = 0 := by decide +kernel
  have h2 : convE 30 [195, 169] 22 = 11 := by decide +kernel
  have h3 : cntI 12 [97, 195, 169] = 2 := by decide +kernel
  have h4 : compI [97] 22 [97] 12 = 1 := by decide +kernel
  have h5 : compI [97] 22 [98] 12 = -1 := by decide +kernel
  have c1 : Con Sx0 14 [.slc 1 ((putR 22 [97, 98]).map bytesRow) (some (putR 22 [97, 98]).length), .int .i64 (checkI 22 [97, 98]), .slc 1 [[.int .u8 97], [.int .u8 98]] (some 2), .int .i64 0] True (.bool true) := con0 (callB (same_call _ [97, 98] _ _ _ _) (by decide +kernel))
  have c2 : Con Sx0 14 [.slc 1 ((putR 30 [195, 169]).map bytesRow) (some (putR 30 [195, 169]).length), .int .i64 (checkI 30 [195, 169]), .slc 1 [[.int .u8 0], [.int .u8 233]] (some 2), .int .i64 0] True (.bool true) := con0 (callB (same_call _ [0, 233] _ _ _ _) (by decide +kernel))
  have c3 : Con Sx0 14 [.slc 1 ((putR 12 [195, 169]).map bytesRow) (some (putR 12 [195, 169]).length), .int .i64 (checkI 12 [195, 169]), .slc 1 [[.int .u8 195], [.int .u8 169]] (some 2), .int .i64 0] True (.bool true) := con0 (callB (same_call _ [195, 169] _ _ _ _) (by decide +kernel))
  have c4 : Con Sx0 12 [.int .u32 30, .slc 1 [[.int .u8 0], [.int .u8 233]] (some 2), .agg [.int .u32 30, .str [195, 169]], .int .i64 0] True (.bool true) := con0 (callB (read_call _ [0, 233] _ _ _ _ (by decide)) (by decide +kernel))
  have c5 : Con Sx0 12 [.int .u32 30, .slc 1 [[.int .u8 0]] (some 1), .agg [.int .u32 0, .str []], .int .i64 11] True (.bool true) := con0 (callB (read_call _ [0] _ _ _ _ (by decide)) (by decide +kernel))
  have c6 : Con Sx0 12 [.int .u32 30, .slc 1 [[.int .u8 216], [.int .u8 0]] (some 2), .agg [.int .u32 0, .str []], .int .i64 11] True (.bool true) := con0 (callB (read_call _ [216, 0] _ _ _ _ (by decide)) (by decide +kernel))
  have c7 : Con Sx0 12 [.int .u32 22, .slc 1 [[.int .u8 128]] (some 1), .agg [.int .u32 0, .str []], .int .i64 11] True (.bool true) := con0 (callB (read_call _ [128] _ _ _ _ (by decide)) (by decide +kernel))
  have c8 : Con Sx0 12 [.int .u32 12, .slc 1 [[.int .u8 0]] (some 1), .agg [.int .u32 0, .str []], .int .i64 11] True (.bool true) := con0 (callB (read_call _ [0] _ _ _ _ (by decide)) (by decide +kernel))
  have c9 : Con Sx0 30 [.slc 1 ((kindsI [97] 5).map u32Row) (some (kindsI [97] 5).length), .slc 1 [[.int .u32 12], [.int .u32 19], [.int .u32 22], [.int .u32 26], [.int .u32 30]] (some 5)] True (.bool true) := con0 (callB (list_call _ [12, 19, 22, 26, 30] _ _ (by decide +kernel)) (by decide +kernel))
  have c10 : Con Sx0 30 [.slc 1 ((kindsI [95] 5).map u32Row) (some (kindsI [95] 5).length), .slc 1 [[.int .u32 12], [.int .u32 22], [.int .u32 26], [.int .u32 30]] (some 4)] True (.bool true) := con0 (callB (list_call _ [12, 22, 26, 30] _ _ (by decide +kernel)) (by decide +kernel))
  have c11 : Con Sx0 30 [.slc 1 ((kindsI [] 5).map u32Row) (some (kindsI [] 5).length), .slc 1 [[.int .u32 12], [.int .u32 19], [.int .u32 22], [.int .u32 26], [.int .u32 30]] (some 5)] True (.bool true) := con0 (callB (list_call _ [12, 19, 22, 26, 30] _ _ (by decide +kernel)) (by decide +kernel))
  refine sy_call (X := Sx0) (fun t => Nat.beq t 54) [] [] (fn := Tryd.f10) Tryd.func10 rfl (by decide) rfl rfl ?_
  repeat' (first | ((refine run ?_); conv => whnf) | with_reducible refine split_nt (by assumption) ?_ | with_reducible refine split_nf (by assumption) ?_ | with_reducible refine split_ht (by assumption) ?_ | with_reducible refine split_hf (by assumption) ?_ | ((first | with_reducible refine split_neg (fun hc => ?_) (fun hc => ?_) | refine split (fun hc => ?_) (fun hc => ?_)) <;> (try simp only [bsl, true_implies, false_implies, Int.reduceEq, Int.reduceLT, Int.reduceLE, Nat.reduceLT, Nat.reduceEqDiff] at hc) <;> (try (exfalso; omega)) <;> (try exact (bool_tf hc (by assumption)).elim) <;> (try exact (bool_ft hc (by assumption)).elim)) | refine fact_in (fun hby => ?_) | refine un_rfl ?_ | refine stp ?_ | exact obs | with_reducible refine And.intro ?_ ?_ | refine nrm ?_ | apply row_eq | (apply cut_end <;> first | ((refine run ?_); conv => whnf) | exact obs) | (apply cut_drop <;> first | ((refine run ?_); conv => whnf) | exact obs) | (apply cuts_end <;> first | ((refine run ?_); conv => whnf) | exact obs) | (apply cuts_drop <;> first | ((refine run ?_); conv => whnf) | exact obs) | (apply wrap_in <;> first | ((refine run ?_); conv => whnf) | exact obs | exact eqs) | refine stq ?_ | (apply callP_skip <;> first | ((refine run ?_); conv => whnf) | assumption | (simp only [bsl, *]; done) | (simp [*]; done)) | ((refine open_in ?_ ?_) <;> first | ((refine run ?_); conv => whnf) | kernel_rfl) | exact eqs | (intro _; rfl))
  all_goals first
    | (exfalso; simp [h1, h2, h3, h4, h5] at hc; done)
    | (refine ret_eq ?_ (by rfl); rfl)
instance : Con Sx0 10 [] True (.bool true) := con0 lives_call
end Go.Proofs.YteenamolccbcfaaDoor.Ai
