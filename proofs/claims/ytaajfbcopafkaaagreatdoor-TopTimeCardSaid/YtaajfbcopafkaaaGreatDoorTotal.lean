/- lengths.Total, tags.Size, elements.Size of a primitive element of a kind of strings. Own work of this seat. -/
import Derived.Test.YtaajfbcopafkaaaGreatDoorAiSeat
namespace Go.Proofs.YtaajfbcopafkaaaGreatDoor.Ai
open Go
set_option linter.unusedSimpArgs false
set_option linter.unusedVariables false
set_option maxHeartbeats 4000000
set_option maxRecDepth 100000
def octRow (n : Int) : List AVal := [.int .u8 n]
def lenB (n : Int) : List Int := if n ≤ 127 then [n] else if n ≤ 255 then [129, n] else if n ≤ 65535 then [130, n / 256, n % 256] else [131, n / 65536, n / 256 % 256, n % 256]
theorem clipR_call (rows : List (List AVal)) (cap : Option Nat) : CallF Cx 22 [.slc 1 rows cap] [] (.slc 1 rows (some rows.length)) [] := by
  refine sy_call (X := Sx0) (fun _ => false) [] [] (fn := Tryz.f22) Tryz.func22 rfl (by decide) rfl rfl ?_
  repeat' (first | (apply run; conv => whnf) | (with_reducible first | refine snt ?_ | refine snf ?_ | refine sht ?_ | refine shf ?_) | ((first | with_reducible refine split_neg (fun hc => ?_) (fun hc => ?_) | refine split (fun hc => ?_) (fun hc => ?_)) <;> (try simp only [bsl, true_implies, false_implies, Int.reduceEq, Int.reduceLT, Int.reduceLE, Nat.reduceLT, Nat.reduceEqDiff] at hc) <;> try first | (exfalso; omega) | exact btf hc | exact bft hc) | refine fact_in (fun hby => ?_) | refine un_rfl ?_ | refine stp ?_ | exact obs | with_reducible refine And.intro ?_ ?_ | refine nrm ?_ | apply row_eq | refine cte ?_ | refine ctd ?_ | refine cse ?_ | refine csd ?_ | refine wrp ?_ | refine stq ?_ | refine cps ?_ | refine opn ?_ | exact eqs | (intro _; rfl))
  refine ret_eq ?_ (by rfl); simp
instance {rows : List (List AVal)} {cap : Option Nat} : Con Sx0 22 [.slc 1 rows cap] True (.slc 1 rows (some rows.length)) := con0 (clipR_call rows cap)
theorem lenPut_call (n : Int) (h : 0 ≤ n ∧ n ≤ 16777215) : CallF Cx 82 [.int .i64 n] [] (.tup [.slc 1 ((lenB n).map octRow) (some (lenB n).length), .int .i64 0]) [] := by
  obtain ⟨h1, h2⟩ := h
  refine sy_call (X := Sx0) (fun t => Nat.beq t 17) [] [] (fn := Tryz.f82) Tryz.func82 rfl (by decide) rfl rfl ?_
  repeat' (first | (apply run; conv => whnf) | (with_reducible first | refine snt ?_ | refine snf ?_ | refine sht ?_ | refine shf ?_) | ((first | with_reducible refine split_neg (fun hc => ?_) (fun hc => ?_) | refine split (fun hc => ?_) (fun hc => ?_)) <;> (try simp only [bsl, true_implies, false_implies, Int.reduceEq, Int.reduceLT, Int.reduceLE, Nat.reduceLT, Nat.reduceEqDiff] at hc) <;> try first | (exfalso; omega) | exact btf hc | exact bft hc) | refine set_raw ?_ | refine fact_in (fun hby => ?_) | refine un_rfl ?_ | refine stp ?_ | exact obs | with_reducible refine And.intro ?_ ?_ | refine nrm ?_ | apply row_eq | refine cte ?_ | refine ctd ?_ | refine cse ?_ | refine csd ?_ | refine wrp ?_ | refine stq ?_ | refine cps ?_ | refine opn ?_ | exact eqs | (intro _; rfl))
  all_goals
    refine ret_eq ?_ (by rfl)
    unfold lenB
    first
      | rw [if_pos (by omega)]
      | rw [if_neg (by omega), if_pos (by omega)]
      | rw [if_neg (by omega), if_neg (by omega), if_pos (by omega)]
      | rw [if_neg (by omega), if_neg (by omega), if_neg (by omega)]
    rfl
instance {n : Int} : Con Sx0 82 [.int .i64 n] (0 ≤ n ∧ n ≤ 16777215) (.tup [.slc 1 ((lenB n).map octRow) (some (lenB n).length), .int .i64 0]) := con (lenPut_call n)
def totN (n : Int) : Int := 1 + (lenB n).length + n
theorem lenB_pos (n : Int) : 0 < (lenB n).length ∧ (lenB n).length ≤ 4 := by
  unfold lenB
  repeat' split
  all_goals simp
theorem lenSize_call (n : Int) (h : 0 ≤ n ∧ n ≤ 16777215) : CallF Cx 46 [.int .i64 n] [] (.int .i64 (lenB n).length) [] := by
  have h0 := lenB_pos n
  refine sy_call (X := Sx0) (fun _ => false) [] [] (fn := Tryz.f46) Tryz.func46 rfl (by decide) rfl rfl ?_
  repeat' (first | (apply run; conv => whnf) | (with_reducible first | refine snt ?_ | refine snf ?_ | refine sht ?_ | refine shf ?_) | ((first | with_reducible refine split_neg (fun hc => ?_) (fun hc => ?_) | refine split (fun hc => ?_) (fun hc => ?_)) <;> (try simp only [bsl, true_implies, false_implies, Int.reduceEq, Int.reduceLT, Int.reduceLE, Nat.reduceLT, Nat.reduceEqDiff] at hc) <;> try first | (exfalso; omega) | exact btf hc | exact bft hc) | refine fact_in (fun hby => ?_) | refine un_rfl ?_ | refine stp ?_ | exact obs | with_reducible refine And.intro ?_ ?_ | refine nrm ?_ | apply row_eq | refine cte ?_ | refine ctd ?_ | refine cse ?_ | refine csd ?_ | refine wrp ?_ | refine stq ?_ | refine cps ?_ | refine opn ?_ | exact eqs | (intro _; rfl))
  refine ret_eq ?_ (by rfl); simp
instance {n : Int} : Con Sx0 46 [.int .i64 n] (0 ≤ n ∧ n ≤ 16777215) (.int .i64 (lenB n).length) := con (lenSize_call n)
theorem Total_call (n : Int) (h : 0 ≤ n ∧ n ≤ 16777215) : CallF Cx 16 [.int .i64 1, .int .i64 n] [] (.int .i64 (totN n)) [] := by
  have h0 := lenB_pos n
  refine sy_call (X := Sx0) (fun _ => false) [] [] (fn := Tryz.f16) Tryz.func16 rfl (by decide) rfl rfl ?_
  repeat' (first | (apply run; conv => whnf) | (with_reducible first | refine snt ?_ | refine snf ?_ | refine sht ?_ | refine shf ?_) | ((first | with_reducible refine split_neg (fun hc => ?_) (fun hc => ?_) | refine split (fun hc => ?_) (fun hc => ?_)) <;> (try simp only [bsl, true_implies, false_implies, Int.reduceEq, Int.reduceLT, Int.reduceLE, Nat.reduceLT, Nat.reduceEqDiff] at hc) <;> try first | (exfalso; omega) | exact btf hc | exact bft hc) | refine fact_in (fun hby => ?_) | refine un_rfl ?_ | refine stp ?_ | exact obs | with_reducible refine And.intro ?_ ?_ | refine nrm ?_ | apply row_eq | refine cte ?_ | refine ctd ?_ | refine cse ?_ | refine csd ?_ | refine wrp ?_ | refine stq ?_ | refine cps ?_ | refine opn ?_ | exact eqs | (intro _; rfl))
  all_goals first
    | (exfalso; omega)
    | (refine ret_eq ?_ (by rfl); rfl)
instance {n : Int} : Con Sx0 16 [.int .i64 1, .int .i64 n] (0 ≤ n ∧ n ≤ 16777215) (.int .i64 (totN n)) := con (Total_call n)
instance : Inl Sx0 23 (Tryz.f23.body.getD .skip) Tryz.f23.results.toList Tryz.f23.ntmps := inl Tryz.func23 rfl (by decide) rfl rfl
instance : Inl Sx0 53 (Tryz.f53.body.getD .skip) Tryz.f53.results.toList Tryz.f53.ntmps := inl Tryz.func53 rfl (by decide) rfl rfl
instance : Inl Sx0 93 (Tryz.f93.body.getD .skip) Tryz.f93.results.toList Tryz.f93.ntmps := inl Tryz.func93 rfl (by decide) rfl rfl
instance : Inl Sx0 92 (Tryz.f92.body.getD .skip) Tryz.f92.results.toList Tryz.f92.ntmps := inl Tryz.func92 rfl (by decide) rfl rfl
instance : Inl Sx0 135 (Tryz.f135.body.getD .skip) Tryz.f135.results.toList Tryz.f135.ntmps := inl Tryz.func135 rfl (by decide) rfl rfl
instance : Inl Sx0 45 (Tryz.f45.body.getD .skip) Tryz.f45.results.toList Tryz.f45.ntmps := inl Tryz.func45 rfl (by decide) rfl rfl
instance : Inl Sx0 81 (Tryz.f81.body.getD .skip) Tryz.f81.results.toList Tryz.f81.ntmps := inl Tryz.func81 rfl (by decide) rfl rfl
instance : Con Sx0 94 [.agg [.int .u8 0, .bool false, .int .u32 12]] True (.int .i64 0) := con0 (closedV (Ms := []) (n := 1000) (by kernel_rfl))
instance : Con Sx0 28 [.agg [.int .u8 0, .bool false, .int .u32 12]] True (.int .i64 1) := con0 (closedV (Ms := []) (n := 1000) (by kernel_rfl))
instance : Con Sx0 94 [.agg [.int .u8 0, .bool false, .int .u32 30]] True (.int .i64 0) := con0 (closedV (Ms := []) (n := 1000) (by kernel_rfl))
instance : Con Sx0 28 [.agg [.int .u8 0, .bool false, .int .u32 30]] True (.int .i64 1) := con0 (closedV (Ms := []) (n := 1000) (by kernel_rfl))
theorem Size_call (k : Int) (b : List UInt8) (cap : Option Nat) (hk : k = 12 ∨ k = 30) (hb : b.length ≤ 200000) : CallF Cx 15 [.agg [.int .u8 0, .bool false, .int .u32 k, .slc 1 (b.map bytesRow) cap, .slc 5 [] (some 0)]] [] (.int .i64 (totN b.length)) [] := by
  have h0 := lenB_pos b.length
  have h1 : totN b.length ≤ 200005 := by unfold totN; omega
  rcases hk with rfl | rfl
  all_goals
    refine sy_call (X := Sx0) (fun _ => false) [] [] (fn := Tryz.f15) Tryz.func15 rfl (by decide) rfl rfl ?_
    repeat' (first | (apply run; conv => whnf) | (with_reducible first | refine snt ?_ | refine snf ?_ | refine sht ?_ | refine shf ?_) | ((first | with_reducible refine split_neg (fun hc => ?_) (fun hc => ?_) | refine split (fun hc => ?_) (fun hc => ?_)) <;> (try simp only [bsl, true_implies, false_implies, Int.reduceEq, Int.reduceLT, Int.reduceLE, Nat.reduceLT, Nat.reduceEqDiff] at hc) <;> try first | (exfalso; omega) | exact btf hc | exact bft hc) | refine loop_round ?_ | refine fact_in (fun hby => ?_) | refine un_rfl ?_ | refine stp ?_ | exact obs | with_reducible refine And.intro ?_ ?_ | refine nrm ?_ | apply row_eq | refine cte ?_ | refine ctd ?_ | refine cse ?_ | refine csd ?_ | refine wrp ?_ | refine stq ?_ | refine cps ?_ | refine opn ?_ | exact eqs | (intro _; rfl))
    refine ret_eq ?_ (by rfl); rfl
instance {k : Int} {b : List UInt8} {cap : Option Nat} : Con Sx0 15 [.agg [.int .u8 0, .bool false, .int .u32 k, .slc 1 (b.map bytesRow) cap, .slc 0 [] (some 0)]] ((k = 12 ∨ k = 30) ∧ b.length ≤ 200000) (.int .i64 (totN b.length)) :=
  ⟨fun h => ⟨[.agg [.int .u8 0, .bool false, .int .u32 k, .slc 1 (b.map bytesRow) cap, .slc 5 [] (some 0)]], PLs.list ⟨ple_agg ⟨.refl _, .refl _, .refl _, .refl _, ple_nil (.inr rfl), trivial⟩, trivial⟩, Size_call k b cap h.1 h.2⟩⟩
end Go.Proofs.YtaajfbcopafkaaaGreatDoor.Ai
