/- Times: Of, the years from 1950 to 1999. Own work of this seat (printed by gen/mktimo.py). -/
import Derived.Test.YtaajfbcopafkaaaGreatDoorTimB
namespace Go.Proofs.YtaajfbcopafkaaaGreatDoor.Ai
open Go
set_option linter.unusedSimpArgs false
set_option linter.unusedVariables false
set_option maxHeartbeats 4000000
set_option maxRecDepth 100000
theorem timOf_1 (a1 a2 b1 b2 c1 c2 d1 d2 e1 e2 f1 f2 : UInt8) (hd : isD a1 ∧ isD a2 ∧ isD b1 ∧ isD b2 ∧ isD c1 ∧ isD c2 ∧ isD d1 ∧ isD d2 ∧ isD e1 ∧ isD e2 ∧ isD f1 ∧ isD f2) (hu : 50 ≤ num2 a1 a2) (h : Tim.ok ⟨(num2 a1 a2 + 1900), (num2 b1 b2), (num2 c1 c2), (num2 d1 d2), (num2 e1 e2), (num2 f1 f2)⟩) (cap : Option Nat) :
    CallF Cx 31 [.agg [.int .u8 0, .bool false, .int .u32 23, .slc 1 ([a1, a2, b1, b2, c1, c2, d1, d2, e1, e2, f1, f2, 90].map bytesRow) cap, .slc 5 [] (some 0)]] [] (.tup [Tim.av ⟨(num2 a1 a2 + 1900), (num2 b1 b2), (num2 c1 c2), (num2 d1 d2), (num2 e1 e2), (num2 f1 f2)⟩, .int .i64 0]) [] := by
  have hck := timCheck_call ⟨(num2 a1 a2 + 1900), (num2 b1 b2), (num2 c1 c2), (num2 d1 d2), (num2 e1 e2), (num2 f1 f2)⟩ h
  obtain ⟨k1, k2, k3, k4, k5, k6⟩ := h
  dsimp only at k1 k2 k3 k4 k5 k6 hck
  have hdb := daysI_bd (num2 a1 a2 + 1900) (num2 b1 b2)
  simp only [isD, num2, num4] at *
  have cc := @con0 Sx0 _ _ _ hck
  clear hck
  refine sy_call (X := Sx0) (fun _ => false) [] [] (fn := Tryz.f31) Tryz.func31 rfl (by decide) rfl rfl ?_
  have hptr : elemT Sx0.C.P 127 = some 126 ∧ 1 = szOf Sx0.C.P 126 ∧ 0 < 1 ∧ 5 * 1 ≤ 16777216 ∧ ∀ m, rowsA Sx0.C.P m 126 5 [(0, .ptr 3 1), (1, .ptr 3 2), (2, .ptr 3 3), (3, .ptr 3 4), (4, .ptr 3 5)] = some [[.ptr 3 1], [.ptr 3 2], [.ptr 3 3], [.ptr 3 4], [.ptr 3 5]] ∧ ([[.ptr 3 1], [.ptr 3 2], [.ptr 3 3], [.ptr 3 4], [.ptr 3 5]] : List (List AVal)).all (fun r => r.all (solid m)) = true := by
    refine ⟨by kernel_rfl, by kernel_rfl, by decide, by decide, fun m => ⟨by kernel_rfl, rfl⟩⟩
  have hpe : (elemT Sx0.C.P 127).isSome = true := by kernel_rfl
  repeat' (first | (apply run; conv => whnf) | (refine splitT ?_ ?_; focus (simp; done)) | (refine splitF ?_ ?_; focus (simp; done)) | (with_reducible first | refine snt ?_ | refine snf ?_ | refine sht ?_ | refine shf ?_) | ((first | with_reducible refine split_neg (fun hc => ?_) (fun hc => ?_) | refine split (fun hc => ?_) (fun hc => ?_)) <;> (try simp only [bsl, true_implies, false_implies, Int.reduceEq, Int.reduceLT, Int.reduceLE, Nat.reduceLT, Nat.reduceEqDiff] at hc) <;> try first | (exfalso; omega) | exact btf hc | exact bft hc) | refine loop_round ?_ | (refine obs ?_; focus (simp [Ob]; done)) | (refine fact_in (fun hby => ?_); dsimp only [nth_z, nth_s, List.take_succ_cons, List.take_zero, drp_s, drp_z] at hby ⊢) | refine harr_in 126 1 _ hptr ?_ | refine halen_in hpe ?_ | refine haidx_in 126 _ ⟨hptr.1, hptr.2.1, rfl, by decide⟩ ?_ | refine fact_in (fun hby => ?_) | refine un_rfl ?_ | refine stp ?_ | exact obs | with_reducible refine And.intro ?_ ?_ | refine nrm ?_ | apply row_eq | refine cte ?_ | refine ctd ?_ | refine cse ?_ | refine csd ?_ | refine wrp ?_ | refine stq ?_ | refine cps ?_ | refine opn ?_ | exact eqs | (intro _; rfl))
  all_goals first
    | (exfalso; omega)
    | (refine ret_eq ?_ (by rfl); rfl)
end Go.Proofs.YtaajfbcopafkaaaGreatDoor.Ai
