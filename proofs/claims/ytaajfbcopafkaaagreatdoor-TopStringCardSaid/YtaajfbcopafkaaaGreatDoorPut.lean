/- charstrings.Put. Own work of this seat. -/
import Derived.Test.YtaajfbcopafkaaaGreatDoorCheck
import Derived.Test.YtaajfbcopafkaaaGreatDoorAiBits
namespace Go.Proofs.YtaajfbcopafkaaaGreatDoor.Ai
open Go
set_option linter.unusedSimpArgs false
set_option linter.unusedVariables false
set_option maxHeartbeats 4000000
set_option maxRecDepth 100000
instance : Inl Sx0 130 (Tryz.f130.body.getD .skip) Tryz.f130.results.toList Tryz.f130.ntmps := inl Tryz.func130 rfl (by decide) rfl rfl
instance : Inl Sx0 131 (Tryz.f131.body.getD .skip) Tryz.f131.results.toList Tryz.f131.ntmps := inl Tryz.func131 rfl (by decide) rfl rfl
instance : Inl Sx0 128 (Tryz.f128.body.getD .skip) Tryz.f128.results.toList Tryz.f128.ntmps := inl Tryz.func128 rfl (by decide) rfl rfl
instance : Inl Sx0 185 (Tryz.f185.body.getD .skip) Tryz.f185.results.toList Tryz.f185.ntmps := inl Tryz.func185 rfl (by decide) rfl rfl
theorem checkI_dec {k : Int} {s : List UInt8} (h : checkI k s = 0) : kindI k ≠ 0 ∧ s.length ≤ 65536 ∧ (decS s).isSome = true ∧ (decT s).all (hasB k) = true := by
 unfold checkI at h
 split at h
 ·omega
 ·split at h
  ·omega
  ·split at h
   ·rename_i h1 h2 h3
    rw [Bool.and_eq_true] at h3
    exact ⟨h1, by omega, h3.1, h3.2⟩
   ·omega
theorem decT_of {s : List UInt8} {l : List Int} (h : decS s = some l) : decT s = l := by simp [decT, h]
attribute [local irreducible] decodeL
theorem putL_len (k : Int) (l : List Int) : (putL k l).length ≤ 2 * l.length := by
 have := putOne_len k l l.length
 rwa [List.take_length] at this
theorem putL_snoc (k : Int) (l : List Int) (c : Int) : putL k (l ++ [c]) = putL k l ++ putOne k c := by simp [putL]
theorem putI_rows {k : Int} {s : List UInt8} {acc : List Int} (hk : ¬ k = 12) (h : decS s = some acc) : (putL k acc).map u8Row = (putI k s).map bytesRow ∧ (putL k acc).length = (putI k s).length := by
 simp only [putI, if_neg hk, decT_of h, List.length_map]
 exact ⟨(bytes_rows putOne_bd).symm, trivial⟩
theorem clipU8_call (l : List Int) (cap : Option Nat) : CallF Cx 22 [.slc 1 (l.map u8Row) cap] [] (.slc 1 (l.map u8Row) (some l.length)) [] := by
 refine sy_call (X := Sx0) (fun _ => false) [] [] (fn := Tryz.f22) Tryz.func22 rfl (by decide) rfl rfl ?_
 repeat' (first | (apply run; conv => whnf) | (with_reducible first | refine snt ?_ | refine snf ?_ | refine sht ?_ | refine shf ?_) | ((first | with_reducible refine split_neg (fun hc => ?_) (fun hc => ?_) | refine split (fun hc => ?_) (fun hc => ?_)) <;> (try simp only [bsl, true_implies, false_implies, Int.reduceEq, Int.reduceLT, Int.reduceLE, Nat.reduceLT, Nat.reduceEqDiff] at hc) <;> try first | (exfalso; omega) | exact btf hc | exact bft hc) | refine fact_in (fun hby => ?_) | refine un_rfl ?_ | refine stp ?_ | exact obs | with_reducible refine And.intro ?_ ?_ | refine nrm ?_ | apply row_eq | refine cte ?_ | refine ctd ?_ | refine cse ?_ | refine csd ?_ | refine wrp ?_ | refine stq ?_ | refine cps ?_ | refine opn ?_ | exact eqs | (intro _; rfl))
 all_goals (refine ret_eq ?_ (by rfl); simp [*])
instance {l : List Int} {cap : Option Nat} : Con Sx0 22 [.slc 1 (l.map u8Row) cap] True (.slc 1 (l.map u8Row) (some l.length)) := con0 (clipU8_call l cap)
theorem put19 (s : List UInt8) (hs : s.length ≤ 1000000) (h : checkI 19 s = 0) : CallF Cx 44 [.agg [.int .u32 19, .str s]] [] (.tup [.slc 1 ((putI 19 s).map bytesRow) (some (putI 19 s).length), .int .i64 0]) [] := by
 have i1 := con0 (X := Sx0) ((check19 s hs).1 h)
 obtain ⟨h1, h2, hsome, h4⟩ := checkI_dec h
 refine sy_call (X := Sx0) (fun _ => false) [] [(6, 5, 1)] (fn := Tryz.f44) Tryz.func44 rfl (by decide) rfl rfl ?_
 repeat' (first | (apply run; conv => whnf) | (with_reducible first | refine snt ?_ | refine snf ?_ | refine sht ?_ | refine shf ?_) | ((first | with_reducible refine split_neg (fun hc => ?_) (fun hc => ?_) | refine split (fun hc => ?_) (fun hc => ?_)) <;> (try simp only [bsl, true_implies, false_implies, Int.reduceEq, Int.reduceLT, Int.reduceLE, Nat.reduceLT, Nat.reduceEqDiff] at hc) <;> try first | (exfalso; omega) | exact btf hc | exact bft hc) | refine fact_in (fun hby => ?_) | refine un_rfl ?_ | refine stp ?_ | exact obs | with_reducible refine And.intro ?_ ?_ | refine nrm ?_ | apply row_eq | refine cte ?_ | refine ctd ?_ | refine cse ?_ | refine csd ?_ | refine wrp ?_ | refine stq ?_ | refine cps ?_ | refine opn ?_ | exact eqs | (intro _; rfl))
 refine loop_rule (α := Nat × List Int × Nat) [6] 4 (fun x => [.bsl 2 (putL 19 x.2.1).length]) (fun x => [.cells 49 [.int .u32 19, .str s], .cells 98 k19, .mk 5 1 ((putL 19 x.2.1).map u8Row), .iter s x.1]) (fun x => x.1 ≤ s.length ∧ s.length ≤ x.1 + x.2.2 ∧ x.2.1.length ≤ x.1 ∧ decS s = (decL s x.2.2 x.1).map (x.2.1 ++ ·)) (fun x => s.length - x.1) ((0, [], s.length)) (fun _ => rfl) (by decide) ?_
 ((refine run ?_); conv => whnf)
 refine goal_in ⟨?_, fit_eq ?_, sto_take (n := 4) (Nat.le_of_ble_eq_true rfl) ?_⟩ (fun x hinv => ?_)
 ·refine ⟨Nat.zero_le _, by dsimp only; omega, by simp, ?_⟩
  simp [decS]
 ·rfl
 ·rfl
 obtain ⟨i, acc, f⟩ := x
 obtain ⟨hi, hf, ha, hd⟩ := hinv
 dsimp only at hi hf hd ha
 by_cases hlt : i < s.length
 ·obtain ⟨c, n, f, rfl, hat, hdec, c1, c2, c3, n1, n2, hf', hd'⟩ := decS_step hd hsome hlt hf
  have ec : ((decodeL s i).1 : Int) = c := by rw [hdec]; dsimp only; omega
  have en : (decodeL s i).2 = n := by rw [hdec]
  have hl := putL_len 19 acc
  repeat' (first | (apply run; conv => whnf) | (with_reducible first | refine snt ?_ | refine snf ?_ | refine sht ?_ | refine shf ?_) | ((first | with_reducible refine split_neg (fun hc => ?_) (fun hc => ?_) | refine split (fun hc => ?_) (fun hc => ?_)) <;> (try simp only [bsl, true_implies, false_implies, Int.reduceEq, Int.reduceLT, Int.reduceLE, Nat.reduceLT, Nat.reduceEqDiff] at hc) <;> try first | (exfalso; omega) | exact btf hc | exact bft hc) | refine fact_in (fun hby => ?_) | refine un_rfl ?_ | refine stp ?_ | exact obs | with_reducible refine And.intro ?_ ?_ | refine nrm ?_ | apply row_eq | refine cte ?_ | refine ctd ?_ | refine cse ?_ | refine csd ?_ | refine wrp ?_ | refine stq ?_ | refine cps ?_ | refine opn ?_ | exact eqs | (intro _; rfl))
  all_goals
   refine meet_eq ((i + n, acc ++ [c], f)) ?_ ?_ (Nat.le_of_ble_eq_true rfl) ?_
   ·exact ⟨⟨n2, hf', by simp; omega, hd'⟩, by dsimp only; omega⟩
   ·simp [putL_snoc, putOne]
   ·simp [putL_snoc, putOne, u8Row, ec, en]
 ·repeat' (first | (apply run; conv => whnf) | (with_reducible first | refine snt ?_ | refine snf ?_ | refine sht ?_ | refine shf ?_) | ((first | with_reducible refine split_neg (fun hc => ?_) (fun hc => ?_) | refine split (fun hc => ?_) (fun hc => ?_)) <;> (try simp only [bsl, true_implies, false_implies, Int.reduceEq, Int.reduceLT, Int.reduceLE, Nat.reduceLT, Nat.reduceEqDiff] at hc) <;> try first | (exfalso; omega) | exact btf hc | exact bft hc) | refine fact_in (fun hby => ?_) | refine un_rfl ?_ | refine stp ?_ | exact obs | with_reducible refine And.intro ?_ ?_ | refine nrm ?_ | apply row_eq | refine cte ?_ | refine ctd ?_ | refine cse ?_ | refine csd ?_ | refine wrp ?_ | refine stq ?_ | refine cps ?_ | refine opn ?_ | exact eqs | (intro _; rfl))
  refine ret_eq ?_ (by rfl)
  have he := decS_end hd hlt
  rw [(putI_rows (k := 19) (by decide) he).1, (putI_rows (k := 19) (by decide) he).2]
theorem put22 (s : List UInt8) (hs : s.length ≤ 1000000) (h : checkI 22 s = 0) : CallF Cx 44 [.agg [.int .u32 22, .str s]] [] (.tup [.slc 1 ((putI 22 s).map bytesRow) (some (putI 22 s).length), .int .i64 0]) [] := by
 have i1 := con0 (X := Sx0) ((check22 s hs).1 h)
 obtain ⟨h1, h2, hsome, h4⟩ := checkI_dec h
 refine sy_call (X := Sx0) (fun _ => false) [] [(6, 5, 1)] (fn := Tryz.f44) Tryz.func44 rfl (by decide) rfl rfl ?_
 repeat' (first | (apply run; conv => whnf) | (with_reducible first | refine snt ?_ | refine snf ?_ | refine sht ?_ | refine shf ?_) | ((first | with_reducible refine split_neg (fun hc => ?_) (fun hc => ?_) | refine split (fun hc => ?_) (fun hc => ?_)) <;> (try simp only [bsl, true_implies, false_implies, Int.reduceEq, Int.reduceLT, Int.reduceLE, Nat.reduceLT, Nat.reduceEqDiff] at hc) <;> try first | (exfalso; omega) | exact btf hc | exact bft hc) | refine fact_in (fun hby => ?_) | refine un_rfl ?_ | refine stp ?_ | exact obs | with_reducible refine And.intro ?_ ?_ | refine nrm ?_ | apply row_eq | refine cte ?_ | refine ctd ?_ | refine cse ?_ | refine csd ?_ | refine wrp ?_ | refine stq ?_ | refine cps ?_ | refine opn ?_ | exact eqs | (intro _; rfl))
 refine loop_rule (α := Nat × List Int × Nat) [6] 4 (fun x => [.bsl 2 (putL 22 x.2.1).length]) (fun x => [.cells 49 [.int .u32 22, .str s], .cells 98 k22, .mk 5 1 ((putL 22 x.2.1).map u8Row), .iter s x.1]) (fun x => x.1 ≤ s.length ∧ s.length ≤ x.1 + x.2.2 ∧ x.2.1.length ≤ x.1 ∧ decS s = (decL s x.2.2 x.1).map (x.2.1 ++ ·)) (fun x => s.length - x.1) ((0, [], s.length)) (fun _ => rfl) (by decide) ?_
 ((refine run ?_); conv => whnf)
 refine goal_in ⟨?_, fit_eq ?_, sto_take (n := 4) (Nat.le_of_ble_eq_true rfl) ?_⟩ (fun x hinv => ?_)
 ·refine ⟨Nat.zero_le _, by dsimp only; omega, by simp, ?_⟩
  simp [decS]
 ·rfl
 ·rfl
 obtain ⟨i, acc, f⟩ := x
 obtain ⟨hi, hf, ha, hd⟩ := hinv
 dsimp only at hi hf hd ha
 by_cases hlt : i < s.length
 ·obtain ⟨c, n, f, rfl, hat, hdec, c1, c2, c3, n1, n2, hf', hd'⟩ := decS_step hd hsome hlt hf
  have ec : ((decodeL s i).1 : Int) = c := by rw [hdec]; dsimp only; omega
  have en : (decodeL s i).2 = n := by rw [hdec]
  have hl := putL_len 22 acc
  repeat' (first | (apply run; conv => whnf) | (with_reducible first | refine snt ?_ | refine snf ?_ | refine sht ?_ | refine shf ?_) | ((first | with_reducible refine split_neg (fun hc => ?_) (fun hc => ?_) | refine split (fun hc => ?_) (fun hc => ?_)) <;> (try simp only [bsl, true_implies, false_implies, Int.reduceEq, Int.reduceLT, Int.reduceLE, Nat.reduceLT, Nat.reduceEqDiff] at hc) <;> try first | (exfalso; omega) | exact btf hc | exact bft hc) | refine fact_in (fun hby => ?_) | refine un_rfl ?_ | refine stp ?_ | exact obs | with_reducible refine And.intro ?_ ?_ | refine nrm ?_ | apply row_eq | refine cte ?_ | refine ctd ?_ | refine cse ?_ | refine csd ?_ | refine wrp ?_ | refine stq ?_ | refine cps ?_ | refine opn ?_ | exact eqs | (intro _; rfl))
  all_goals
   refine meet_eq ((i + n, acc ++ [c], f)) ?_ ?_ (Nat.le_of_ble_eq_true rfl) ?_
   ·exact ⟨⟨n2, hf', by simp; omega, hd'⟩, by dsimp only; omega⟩
   ·simp [putL_snoc, putOne]
   ·simp [putL_snoc, putOne, u8Row, ec, en]
 ·repeat' (first | (apply run; conv => whnf) | (with_reducible first | refine snt ?_ | refine snf ?_ | refine sht ?_ | refine shf ?_) | ((first | with_reducible refine split_neg (fun hc => ?_) (fun hc => ?_) | refine split (fun hc => ?_) (fun hc => ?_)) <;> (try simp only [bsl, true_implies, false_implies, Int.reduceEq, Int.reduceLT, Int.reduceLE, Nat.reduceLT, Nat.reduceEqDiff] at hc) <;> try first | (exfalso; omega) | exact btf hc | exact bft hc) | refine fact_in (fun hby => ?_) | refine un_rfl ?_ | refine stp ?_ | exact obs | with_reducible refine And.intro ?_ ?_ | refine nrm ?_ | apply row_eq | refine cte ?_ | refine ctd ?_ | refine cse ?_ | refine csd ?_ | refine wrp ?_ | refine stq ?_ | refine cps ?_ | refine opn ?_ | exact eqs | (intro _; rfl))
  refine ret_eq ?_ (by rfl)
  have he := decS_end hd hlt
  rw [(putI_rows (k := 22) (by decide) he).1, (putI_rows (k := 22) (by decide) he).2]
theorem put26 (s : List UInt8) (hs : s.length ≤ 1000000) (h : checkI 26 s = 0) : CallF Cx 44 [.agg [.int .u32 26, .str s]] [] (.tup [.slc 1 ((putI 26 s).map bytesRow) (some (putI 26 s).length), .int .i64 0]) [] := by
 have i1 := con0 (X := Sx0) ((check26 s hs).1 h)
 obtain ⟨h1, h2, hsome, h4⟩ := checkI_dec h
 refine sy_call (X := Sx0) (fun _ => false) [] [(6, 5, 1)] (fn := Tryz.f44) Tryz.func44 rfl (by decide) rfl rfl ?_
 repeat' (first | (apply run; conv => whnf) | (with_reducible first | refine snt ?_ | refine snf ?_ | refine sht ?_ | refine shf ?_) | ((first | with_reducible refine split_neg (fun hc => ?_) (fun hc => ?_) | refine split (fun hc => ?_) (fun hc => ?_)) <;> (try simp only [bsl, true_implies, false_implies, Int.reduceEq, Int.reduceLT, Int.reduceLE, Nat.reduceLT, Nat.reduceEqDiff] at hc) <;> try first | (exfalso; omega) | exact btf hc | exact bft hc) | refine fact_in (fun hby => ?_) | refine un_rfl ?_ | refine stp ?_ | exact obs | with_reducible refine And.intro ?_ ?_ | refine nrm ?_ | apply row_eq | refine cte ?_ | refine ctd ?_ | refine cse ?_ | refine csd ?_ | refine wrp ?_ | refine stq ?_ | refine cps ?_ | refine opn ?_ | exact eqs | (intro _; rfl))
 refine loop_rule (α := Nat × List Int × Nat) [6] 4 (fun x => [.bsl 2 (putL 26 x.2.1).length]) (fun x => [.cells 49 [.int .u32 26, .str s], .cells 98 k26, .mk 5 1 ((putL 26 x.2.1).map u8Row), .iter s x.1]) (fun x => x.1 ≤ s.length ∧ s.length ≤ x.1 + x.2.2 ∧ x.2.1.length ≤ x.1 ∧ decS s = (decL s x.2.2 x.1).map (x.2.1 ++ ·)) (fun x => s.length - x.1) ((0, [], s.length)) (fun _ => rfl) (by decide) ?_
 ((refine run ?_); conv => whnf)
 refine goal_in ⟨?_, fit_eq ?_, sto_take (n := 4) (Nat.le_of_ble_eq_true rfl) ?_⟩ (fun x hinv => ?_)
 ·refine ⟨Nat.zero_le _, by dsimp only; omega, by simp, ?_⟩
  simp [decS]
 ·rfl
 ·rfl
 obtain ⟨i, acc, f⟩ := x
 obtain ⟨hi, hf, ha, hd⟩ := hinv
 dsimp only at hi hf hd ha
 by_cases hlt : i < s.length
 ·obtain ⟨c, n, f, rfl, hat, hdec, c1, c2, c3, n1, n2, hf', hd'⟩ := decS_step hd hsome hlt hf
  have ec : ((decodeL s i).1 : Int) = c := by rw [hdec]; dsimp only; omega
  have en : (decodeL s i).2 = n := by rw [hdec]
  have hl := putL_len 26 acc
  repeat' (first | (apply run; conv => whnf) | (with_reducible first | refine snt ?_ | refine snf ?_ | refine sht ?_ | refine shf ?_) | ((first | with_reducible refine split_neg (fun hc => ?_) (fun hc => ?_) | refine split (fun hc => ?_) (fun hc => ?_)) <;> (try simp only [bsl, true_implies, false_implies, Int.reduceEq, Int.reduceLT, Int.reduceLE, Nat.reduceLT, Nat.reduceEqDiff] at hc) <;> try first | (exfalso; omega) | exact btf hc | exact bft hc) | refine fact_in (fun hby => ?_) | refine un_rfl ?_ | refine stp ?_ | exact obs | with_reducible refine And.intro ?_ ?_ | refine nrm ?_ | apply row_eq | refine cte ?_ | refine ctd ?_ | refine cse ?_ | refine csd ?_ | refine wrp ?_ | refine stq ?_ | refine cps ?_ | refine opn ?_ | exact eqs | (intro _; rfl))
  all_goals
   refine meet_eq ((i + n, acc ++ [c], f)) ?_ ?_ (Nat.le_of_ble_eq_true rfl) ?_
   ·exact ⟨⟨n2, hf', by simp; omega, hd'⟩, by dsimp only; omega⟩
   ·simp [putL_snoc, putOne]
   ·simp [putL_snoc, putOne, u8Row, ec, en]
 ·repeat' (first | (apply run; conv => whnf) | (with_reducible first | refine snt ?_ | refine snf ?_ | refine sht ?_ | refine shf ?_) | ((first | with_reducible refine split_neg (fun hc => ?_) (fun hc => ?_) | refine split (fun hc => ?_) (fun hc => ?_)) <;> (try simp only [bsl, true_implies, false_implies, Int.reduceEq, Int.reduceLT, Int.reduceLE, Nat.reduceLT, Nat.reduceEqDiff] at hc) <;> try first | (exfalso; omega) | exact btf hc | exact bft hc) | refine fact_in (fun hby => ?_) | refine un_rfl ?_ | refine stp ?_ | exact obs | with_reducible refine And.intro ?_ ?_ | refine nrm ?_ | apply row_eq | refine cte ?_ | refine ctd ?_ | refine cse ?_ | refine csd ?_ | refine wrp ?_ | refine stq ?_ | refine cps ?_ | refine opn ?_ | exact eqs | (intro _; rfl))
  refine ret_eq ?_ (by rfl)
  have he := decS_end hd hlt
  rw [(putI_rows (k := 26) (by decide) he).1, (putI_rows (k := 26) (by decide) he).2]
theorem put30 (s : List UInt8) (hs : s.length ≤ 1000000) (h : checkI 30 s = 0) : CallF Cx 44 [.agg [.int .u32 30, .str s]] [] (.tup [.slc 1 ((putI 30 s).map bytesRow) (some (putI 30 s).length), .int .i64 0]) [] := by
 have i1 := con0 (X := Sx0) ((check30 s hs).1 h)
 obtain ⟨h1, h2, hsome, h4⟩ := checkI_dec h
 refine sy_call (X := Sx0) (fun _ => false) [] [(6, 5, 1)] (fn := Tryz.f44) Tryz.func44 rfl (by decide) rfl rfl ?_
 repeat' (first | (apply run; conv => whnf) | (with_reducible first | refine snt ?_ | refine snf ?_ | refine sht ?_ | refine shf ?_) | ((first | with_reducible refine split_neg (fun hc => ?_) (fun hc => ?_) | refine split (fun hc => ?_) (fun hc => ?_)) <;> (try simp only [bsl, true_implies, false_implies, Int.reduceEq, Int.reduceLT, Int.reduceLE, Nat.reduceLT, Nat.reduceEqDiff] at hc) <;> try first | (exfalso; omega) | exact btf hc | exact bft hc) | refine fact_in (fun hby => ?_) | refine un_rfl ?_ | refine stp ?_ | exact obs | with_reducible refine And.intro ?_ ?_ | refine nrm ?_ | apply row_eq | refine cte ?_ | refine ctd ?_ | refine cse ?_ | refine csd ?_ | refine wrp ?_ | refine stq ?_ | refine cps ?_ | refine opn ?_ | exact eqs | (intro _; rfl))
 refine loop_rule (α := Nat × List Int × Nat) [6] 4 (fun x => [.bsl 2 (putL 30 x.2.1).length]) (fun x => [.cells 49 [.int .u32 30, .str s], .cells 98 k30, .mk 5 1 ((putL 30 x.2.1).map u8Row), .iter s x.1]) (fun x => x.1 ≤ s.length ∧ s.length ≤ x.1 + x.2.2 ∧ x.2.1.length ≤ x.1 ∧ decS s = (decL s x.2.2 x.1).map (x.2.1 ++ ·)) (fun x => s.length - x.1) ((0, [], s.length)) (fun _ => rfl) (by decide) ?_
 ((refine run ?_); conv => whnf)
 refine goal_in ⟨?_, fit_eq ?_, sto_take (n := 4) (Nat.le_of_ble_eq_true rfl) ?_⟩ (fun x hinv => ?_)
 ·refine ⟨Nat.zero_le _, by dsimp only; omega, by simp, ?_⟩
  simp [decS]
 ·rfl
 ·rfl
 obtain ⟨i, acc, f⟩ := x
 obtain ⟨hi, hf, ha, hd⟩ := hinv
 dsimp only at hi hf hd ha
 by_cases hlt : i < s.length
 ·obtain ⟨c, n, f, rfl, hat, hdec, c1, c2, c3, n1, n2, hf', hd'⟩ := decS_step hd hsome hlt hf
  have ec : ((decodeL s i).1 : Int) = c := by rw [hdec]; dsimp only; omega
  have en : (decodeL s i).2 = n := by rw [hdec]
  have hl := putL_len 30 acc
  repeat' (first | (apply run; conv => whnf) | (with_reducible first | refine snt ?_ | refine snf ?_ | refine sht ?_ | refine shf ?_) | ((first | with_reducible refine split_neg (fun hc => ?_) (fun hc => ?_) | refine split (fun hc => ?_) (fun hc => ?_)) <;> (try simp only [bsl, true_implies, false_implies, Int.reduceEq, Int.reduceLT, Int.reduceLE, Nat.reduceLT, Nat.reduceEqDiff] at hc) <;> try first | (exfalso; omega) | exact btf hc | exact bft hc) | refine fact_in (fun hby => ?_) | refine un_rfl ?_ | refine stp ?_ | exact obs | with_reducible refine And.intro ?_ ?_ | refine nrm ?_ | apply row_eq | refine cte ?_ | refine ctd ?_ | refine cse ?_ | refine csd ?_ | refine wrp ?_ | refine stq ?_ | refine cps ?_ | refine opn ?_ | exact eqs | (intro _; rfl))
  all_goals
   refine meet_eq ((i + n, acc ++ [c], f)) ?_ ?_ (Nat.le_of_ble_eq_true rfl) ?_
   ·exact ⟨⟨n2, hf', by simp; omega, hd'⟩, by dsimp only; omega⟩
   ·simp [putL_snoc, putOne]
   ·simp [putL_snoc, putOne, u8Row, ec, en]
 ·repeat' (first | (apply run; conv => whnf) | (with_reducible first | refine snt ?_ | refine snf ?_ | refine sht ?_ | refine shf ?_) | ((first | with_reducible refine split_neg (fun hc => ?_) (fun hc => ?_) | refine split (fun hc => ?_) (fun hc => ?_)) <;> (try simp only [bsl, true_implies, false_implies, Int.reduceEq, Int.reduceLT, Int.reduceLE, Nat.reduceLT, Nat.reduceEqDiff] at hc) <;> try first | (exfalso; omega) | exact btf hc | exact bft hc) | refine fact_in (fun hby => ?_) | refine un_rfl ?_ | refine stp ?_ | exact obs | with_reducible refine And.intro ?_ ?_ | refine nrm ?_ | apply row_eq | refine cte ?_ | refine ctd ?_ | refine cse ?_ | refine csd ?_ | refine wrp ?_ | refine stq ?_ | refine cps ?_ | refine opn ?_ | exact eqs | (intro _; rfl))
  refine ret_eq ?_ (by rfl)
  have he := decS_end hd hlt
  rw [(putI_rows (k := 30) (by decide) he).1, (putI_rows (k := 30) (by decide) he).2]
theorem encI_snoc (l : List Int) (c : Int) : encI (l ++ [c]) = encI l ++ enc1 c := by simp [encI]
theorem encI_len' (l : List Int) : (encI l).length ≤ 4 * l.length := by
 have := encI_len l l.length
 rwa [List.take_length] at this
theorem of_byI {s : List UInt8} {j : Nat} {x : Int} (h : x = byI s j) : UInt8.ofNat x.toNat = nth s j := by
 subst h
 simp [byI]
theorem enc_at {s : List UInt8} {i : Nat} {c : Int} {n : Nat} (h : decAt s i = some (c, n)) : s.drop i = ((enc1 c).map fun n => UInt8.ofNat n.toNat) ++ s.drop (i + n) := by
 unfold decAt at h
 obtain ⟨⟨more, c0, least⟩, h1, h⟩ := Option.bind_eq_some_iff.1 h
 dsimp only at h
 split at h
 ·rename_i hlt
  obtain ⟨c', h2, h⟩ := Option.bind_eq_some_iff.1 h
  split at h
  ·cases h
  ·rename_i hbad
   simp only [Option.some.injEq, Prod.mk.injEq] at h
   obtain ⟨rfl, rfl⟩ := h
   simp only [badC, decide_eq_true_eq] at hbad
   have hb := byI_bd s i
   unfold cls at h1
   unfold enc1
   split at h1
   ·cases h1
    simp only [contF, Option.some.injEq] at h2
    rw [if_pos (by omega), drop_nth (by omega)]
    simp only [List.map_cons, List.map_nil, of_byI h2.symm, Nat.zero_add, List.cons_append, List.nil_append]
   ·split at h1
    ·cases h1
     obtain ⟨c1, a1, a2, a3, a4⟩ := contF_succ h2
     simp only [contF, Option.some.injEq] at a1
     rw [if_neg (by omega), if_pos (by omega), drop_nth (by omega), drop_nth (i := i + 1) (by omega)]
     simp only [Nat.zero_add] at *
     have e0 : 192 + c' / 64 = byI s i := by omega
     have e1 : 128 + c' % 64 = byI s (i + 1) := by omega
     simp only [List.map_cons, List.map_nil, of_byI e0, of_byI e1, List.cons_append, List.nil_append, Nat.add_assoc, Nat.reduceAdd]
    ·split at h1
     ·cases h1
      obtain ⟨c2, b1, b2, b3, b4⟩ := contF_succ h2
      obtain ⟨c1, a1, a2, a3, a4⟩ := contF_succ b1
      simp only [contF, Option.some.injEq] at a1
      rw [if_neg (by omega), if_neg (by omega), if_pos (by omega), drop_nth (by omega), drop_nth (i := i + 1) (by omega), drop_nth (i := i + 1 + 1) (by omega)]
      simp only [Nat.zero_add, Nat.add_assoc, Nat.reduceAdd] at *
      have e0 : 224 + c' / 4096 = byI s i := by omega
      have e1 : 128 + c' / 64 % 64 = byI s (i + 1) := by omega
      have e2 : 128 + c' % 64 = byI s (i + 2) := by omega
      simp only [List.map_cons, List.map_nil, of_byI e0, of_byI e1, of_byI e2, List.cons_append, List.nil_append]
     ·split at h1
      ·cases h1
       obtain ⟨c3, d1, d2, d3, d4⟩ := contF_succ h2
       obtain ⟨c2, b1, b2, b3, b4⟩ := contF_succ d1
       obtain ⟨c1, a1, a2, a3, a4⟩ := contF_succ b1
       simp only [contF, Option.some.injEq] at a1
       rw [if_neg (by omega), if_neg (by omega), if_neg (by omega), drop_nth (by omega), drop_nth (i := i + 1) (by omega), drop_nth (i := i + 1 + 1) (by omega), drop_nth (i := i + 1 + 1 + 1) (by omega)]
       simp only [Nat.zero_add, Nat.add_assoc, Nat.reduceAdd] at *
       have e0 : 240 + c' / 262144 = byI s i := by omega
       have e1 : 128 + c' / 4096 % 64 = byI s (i + 1) := by omega
       have e2 : 128 + c' / 64 % 64 = byI s (i + 2) := by omega
       have e3 : 128 + c' % 64 = byI s (i + 3) := by omega
       simp only [List.map_cons, List.map_nil, of_byI e0, of_byI e1, of_byI e2, of_byI e3, List.cons_append, List.nil_append]
      ·cases h1
 ·cases h
theorem encS_decL {s : List UInt8} : ∀ {f i : Nat} {l : List Int}, decL s f i = some l → s.length ≤ i + f → encS l = s.drop i := by
 intro f
 induction f with
 | zero =>
  intro i l h hl
  simp only [decL, Option.some.injEq] at h
  subst h
  rw [List.drop_of_length_le (by omega)]
  rfl
 | succ f ih =>
  intro i l h hl
  simp only [decL] at h
  split at h
  ·obtain ⟨⟨c, n⟩, h1, h2⟩ := Option.bind_eq_some_iff.1 h
   obtain ⟨m, h3, rfl⟩ := Option.map_eq_some_iff.1 h2
   have hn := decAt_decode h1
   rw [enc_at h1, ← ih h3 (by dsimp only; omega)]
   simp [encS, encI]
  ·simp only [Option.some.injEq] at h
   subst h
   rw [List.drop_of_length_le (by omega)]
   rfl
theorem encS_dec {s : List UInt8} {l : List Int} (h : decS s = some l) : encS l = s := encS_decL h (by omega)
theorem enc1_bd {c : Int} (h : 0 ≤ c ∧ c ≤ 1114111) : ∀ n, n ∈ enc1 c → 0 ≤ n ∧ n ≤ 255 := by
 intro n hn
 unfold enc1 at hn
 (repeat' split at hn) <;> simp only [List.mem_cons, List.not_mem_nil, or_false] at hn <;> omega
theorem encI_bd {l : List Int} (h : ∀ c, c ∈ l → 0 ≤ c ∧ c ≤ 1114111) : ∀ n, n ∈ encI l → 0 ≤ n ∧ n ≤ 255 := by
 intro n hn
 obtain ⟨m, hm, hn⟩ := List.mem_flatten.1 hn
 obtain ⟨c, hc, rfl⟩ := List.mem_map.1 hm
 exact enc1_bd (h c hc) n hn
theorem encI_rows {s : List UInt8} {l : List Int} (h : decS s = some l) : (encI l).map u8Row = s.map bytesRow ∧ (encI l).length = s.length := by
 have h1 := encS_dec h
 have h2 : ∀ c, c ∈ l → 0 ≤ c ∧ c ≤ 1114111 := by have := (decT_bd s).1; rwa [decT_of h] at this
 constructor
 ·rw [← bytes_rows (encI_bd h2)]; exact congrArg _ h1
 ·have := congrArg List.length h1
  simpa [encS] using this
theorem put12 (s : List UInt8) (hs : s.length ≤ 1000000) (h : checkI 12 s = 0) : CallF Cx 44 [.agg [.int .u32 12, .str s]] [] (.tup [.slc 1 ((putI 12 s).map bytesRow) (some (putI 12 s).length), .int .i64 0]) [] := by
 have i1 := con0 (X := Sx0) ((check12 s hs).1 h)
 obtain ⟨h1, h2, hsome, h4⟩ := checkI_dec h
 refine sy_call (X := Sx0) (fun _ => false) [] [(6, 5, 1)] (fn := Tryz.f44) Tryz.func44 rfl (by decide) rfl rfl ?_
 repeat' (first | (apply run; conv => whnf) | (with_reducible first | refine snt ?_ | refine snf ?_ | refine sht ?_ | refine shf ?_) | ((first | with_reducible refine split_neg (fun hc => ?_) (fun hc => ?_) | refine split (fun hc => ?_) (fun hc => ?_)) <;> (try simp only [bsl, true_implies, false_implies, Int.reduceEq, Int.reduceLT, Int.reduceLE, Nat.reduceLT, Nat.reduceEqDiff] at hc) <;> try first | (exfalso; omega) | exact btf hc | exact bft hc) | refine fact_in (fun hby => ?_) | refine un_rfl ?_ | refine stp ?_ | exact obs | with_reducible refine And.intro ?_ ?_ | refine nrm ?_ | apply row_eq | refine cte ?_ | refine ctd ?_ | refine cse ?_ | refine csd ?_ | refine wrp ?_ | refine stq ?_ | refine cps ?_ | refine opn ?_ | exact eqs | (intro _; rfl))
 refine loop_rule (α := Nat × List Int × Nat) [6] 4 (fun x => [.bsl 2 (encI x.2.1).length]) (fun x => [.cells 49 [.int .u32 12, .str s], .cells 98 k12, .mk 5 1 ((encI x.2.1).map u8Row), .iter s x.1]) (fun x => x.1 ≤ s.length ∧ s.length ≤ x.1 + x.2.2 ∧ x.2.1.length ≤ x.1 ∧ decS s = (decL s x.2.2 x.1).map (x.2.1 ++ ·)) (fun x => s.length - x.1) ((0, [], s.length)) (fun _ => rfl) (by decide) ?_
 ((refine run ?_); conv => whnf)
 refine goal_in ⟨?_, fit_eq ?_, sto_take (n := 4) (Nat.le_of_ble_eq_true rfl) ?_⟩ (fun x hinv => ?_)
 ·refine ⟨Nat.zero_le _, by dsimp only; omega, by simp, ?_⟩
  simp [decS]
 ·rfl
 ·rfl
 obtain ⟨i, acc, f⟩ := x
 obtain ⟨hi, hf, ha, hd⟩ := hinv
 dsimp only at hi hf hd ha
 by_cases hlt : i < s.length
 ·obtain ⟨c, n, f, rfl, hat, hdec, c1, c2, c3, n1, n2, hf', hd'⟩ := decS_step hd hsome hlt hf
  have ec : ((decodeL s i).1 : Int) = c := by rw [hdec]; dsimp only; omega
  have en : (decodeL s i).2 = n := by rw [hdec]
  have hl := encI_len' acc
  subst ec
  clear hdec
  repeat' (first | (apply run; conv => whnf) | (with_reducible first | refine snt ?_ | refine snf ?_ | refine sht ?_ | refine shf ?_) | ((first | with_reducible refine split_neg (fun hc => ?_) (fun hc => ?_) | refine split (fun hc => ?_) (fun hc => ?_)) <;> (try simp only [bsl, true_implies, false_implies, Int.reduceEq, Int.reduceLT, Int.reduceLE, Nat.reduceLT, Nat.reduceEqDiff] at hc) <;> try first | (exfalso; omega) | exact btf hc | exact bft hc) | apply bits_or (a := 128) 6 | apply bits_or (a := 192) 6 | apply bits_or (a := 224) 5 | apply bits_or (a := 240) 4 | apply bits_and 6 | refine fact_in (fun hby => ?_) | refine un_rfl ?_ | refine stp ?_ | exact obs | with_reducible refine And.intro ?_ ?_ | refine nrm ?_ | apply row_eq | refine cte ?_ | refine ctd ?_ | refine cse ?_ | refine csd ?_ | refine wrp ?_ | refine stq ?_ | refine cps ?_ | refine opn ?_ | exact eqs | (intro _; rfl))
  all_goals
   refine meet_eq ((i + n, acc ++ [((decodeL s i).1 : Int)], f)) ?_ ?_ (Nat.le_of_ble_eq_true rfl) ?_
   ·exact ⟨⟨n2, hf', by simp; omega, hd'⟩, by dsimp only; omega⟩
   ·(simp only [encI_snoc, List.length_append, enc1]; (repeat' split) <;> first | (exfalso; omega) | rfl)
   ·(simp only [encI_snoc, List.map_append, enc1, en]; (repeat' split) <;> first | (exfalso; omega) | simp [u8Row, Int.emod_emod_of_dvd _ (show (64 : Int) ∣ 256 by decide)])
 ·repeat' (first | (apply run; conv => whnf) | (with_reducible first | refine snt ?_ | refine snf ?_ | refine sht ?_ | refine shf ?_) | ((first | with_reducible refine split_neg (fun hc => ?_) (fun hc => ?_) | refine split (fun hc => ?_) (fun hc => ?_)) <;> (try simp only [bsl, true_implies, false_implies, Int.reduceEq, Int.reduceLT, Int.reduceLE, Nat.reduceLT, Nat.reduceEqDiff] at hc) <;> try first | (exfalso; omega) | exact btf hc | exact bft hc) | refine fact_in (fun hby => ?_) | refine un_rfl ?_ | refine stp ?_ | exact obs | with_reducible refine And.intro ?_ ?_ | refine nrm ?_ | apply row_eq | refine cte ?_ | refine ctd ?_ | refine cse ?_ | refine csd ?_ | refine wrp ?_ | refine stq ?_ | refine cps ?_ | refine opn ?_ | exact eqs | (intro _; rfl))
  refine ret_eq ?_ (by rfl)
  have he := decS_end hd hlt
  rw [(encI_rows he).1, (encI_rows he).2]; rfl
end Go.Proofs.YtaajfbcopafkaaaGreatDoor.Ai
