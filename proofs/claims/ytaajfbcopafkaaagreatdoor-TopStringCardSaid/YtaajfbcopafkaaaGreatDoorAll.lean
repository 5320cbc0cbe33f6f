/- Whether a text consists of characters of a kind. Own work of this seat. -/
import Derived.Test.YtaajfbcopafkaaaGreatDoorKinds
namespace Go.Proofs.YtaajfbcopafkaaaGreatDoor.Ai
open Go
set_option linter.unusedSimpArgs false
set_option linter.unusedVariables false
set_option maxHeartbeats 4000000
set_option maxRecDepth 100000
theorem decS_step {s : List UInt8} {f i : Nat} {acc : List Int} (h : decS s = (decL s f i).map (acc ++ ·)) (hs : (decS s).isSome = true) (hi : i < s.length) (hf : s.length ≤ i + f) :
  ∃ c n g, f = g + 1 ∧ decAt s i = some (c, n) ∧ decodeL s i = (c.toNat, n) ∧ 0 ≤ c ∧ c ≤ 1114111 ∧ ¬ (55296 ≤ c ∧ c < 57344) ∧ 0 < n ∧ i + n ≤ s.length ∧ s.length ≤ i + n + g ∧ decS s = (decL s g (i + n)).map ((acc ++ [c]) ++ ·) := by
 obtain ⟨g, rfl⟩ : ∃ g, f = g + 1 := ⟨f - 1, by omega⟩
 simp only [decL, if_pos hi] at h
 cases hd : decAt s i with
 | none => rw [hd] at h; rw [h] at hs; cases hs
 | some p =>
  obtain ⟨c, n⟩ := p
  obtain ⟨h1, h2, h3, h4, h5, h6⟩ := decAt_decode hd
  refine ⟨c, n, g, rfl, rfl, h1, h2, h3, h4, h5, h6, by omega, ?_⟩
  rw [h, hd]
  simp only [Option.bind_some, Option.map_map]
  congr 1
  funext l
  simp
theorem decS_end {s : List UInt8} {f i : Nat} {acc : List Int} (h : decS s = (decL s f i).map (acc ++ ·)) (hi : ¬ i < s.length) : decS s = some acc := by
 rw [h]
 cases f with
 | zero => simp [decL]
 | succ f => simp [decL, hi]
def allB (p : Int → Bool) (s : List UInt8) : Bool := (decS s).isSome && (decT s).all p
theorem all_end {p : Int → Bool} {s : List UInt8} {acc : List Int} (h : decS s = some acc) (ha : acc.all p = true) : allB p s = true := by
 simp only [allB, decT, h, Option.isSome_some, Option.getD_some, ha, Bool.and_self]
theorem all_bad {p : Int → Bool} {s : List UInt8} {acc : List Int} {c : Int} {o : Option (List Int)} (h : decS s = o.map ((acc ++ [c]) ++ ·)) (hs : (decS s).isSome = true) (hc : p c = false) : allB p s = false := by
 cases o with
 | none => rw [h] at hs; cases hs
 | some l =>
  simp only [allB, decT, h, Option.map_some, Option.getD_some, List.all_append, List.all_cons, hc, Bool.false_and, Bool.and_false]
def btwP (a b c : Int) : Bool := decide (a ≤ c ∧ c ≤ b)
theorem all_btw (m a b : Int) (g : FuncId) (s : List UInt8) (hs : s.length ≤ 1000000) :
  CallF Cx 126 [.agg [.int .u32 m, btw a b, fnV g], .str s] [] (.bool (allB (btwP a b) s)) [] := by
 refine sy_call (X := Sx0) (fun _ => false) [] [] (fn := Tryz.f126) Tryz.func126 rfl (by decide) rfl rfl ?_
 repeat' (first | (apply run; conv => whnf) | (with_reducible first | refine snt ?_ | refine snf ?_ | refine sht ?_ | refine shf ?_) | ((first | with_reducible refine split_neg (fun hc => ?_) (fun hc => ?_) | refine split (fun hc => ?_) (fun hc => ?_)) <;> (try simp only [bsl, true_implies, false_implies, Int.reduceEq, Int.reduceLT, Int.reduceLE, Nat.reduceLT, Nat.reduceEqDiff] at hc) <;> try first | (exfalso; omega) | exact btf hc | exact bft hc) | refine fact_in (fun hby => ?_) | refine un_rfl ?_ | refine stp ?_ | exact obs | with_reducible refine And.intro ?_ ?_ | refine nrm ?_ | apply row_eq | refine cte ?_ | refine ctd ?_ | refine cse ?_ | refine csd ?_ | refine wrp ?_ | refine stq ?_ | refine cps ?_ | refine opn ?_ | exact eqs | (intro _; rfl))
 ·refine ret_eq ?_ (by rfl); simp [allB, hc]
 have hsome : (decS s).isSome = true := by assumption
 refine loop_rule (α := Nat × List Int × Nat) [] 2 (fun x => []) (fun x => [.cells 98 [.int .u32 m, btw a b, fnV g], .iter s x.1]) (fun x => x.1 ≤ s.length ∧ s.length ≤ x.1 + x.2.2 ∧ decS s = (decL s x.2.2 x.1).map (x.2.1 ++ ·) ∧ x.2.1.all (btwP a b) = true) (fun x => s.length - x.1) ((0, [], s.length)) (fun _ => rfl) (by decide) ?_
 ((refine run ?_); conv => whnf)
 refine goal_in ⟨?_, fit_eq ?_, sto_take (n := 2) (Nat.le_of_ble_eq_true rfl) ?_⟩ (fun x hinv => ?_)
 ·refine ⟨Nat.zero_le _, by dsimp only; omega, ?_, rfl⟩
  simp [decS]
 ·rfl
 ·rfl
 obtain ⟨i, acc, f⟩ := x
 obtain ⟨hi, hf, hd, ha⟩ := hinv
 dsimp only at hi hf hd ha
 by_cases hlt : i < s.length
 ·obtain ⟨c, n, f, rfl, hat, hdec, c1, c2, c3, n1, n2, hf', hd'⟩ := decS_step hd hsome hlt hf
  have ec : ((decodeL s i).1 : Int) = c := by rw [hdec]; dsimp only; omega
  have en : (decodeL s i).2 = n := by rw [hdec]
  repeat' (first | (apply run; conv => whnf) | (with_reducible first | refine snt ?_ | refine snf ?_ | refine sht ?_ | refine shf ?_) | ((first | with_reducible refine split_neg (fun hc => ?_) (fun hc => ?_) | refine split (fun hc => ?_) (fun hc => ?_)) <;> (try simp only [bsl, true_implies, false_implies, Int.reduceEq, Int.reduceLT, Int.reduceLE, Nat.reduceLT, Nat.reduceEqDiff] at hc) <;> try first | (exfalso; omega) | exact btf hc | exact bft hc) | refine fact_in (fun hby => ?_) | refine un_rfl ?_ | refine stp ?_ | exact obs | with_reducible refine And.intro ?_ ?_ | refine nrm ?_ | apply row_eq | refine cte ?_ | refine ctd ?_ | refine cse ?_ | refine csd ?_ | refine wrp ?_ | refine stq ?_ | refine cps ?_ | refine opn ?_ | exact eqs | (intro _; rfl))
  ·refine ret_eq ?_ (by rfl)
   rw [ec] at hc
   rw [all_bad hd' hsome (p := btwP a b) (decide_eq_false hc)]
  ·rw [ec] at hc
   refine meet_eq ((i + n, acc ++ [c], f)) ?_ ?_ (Nat.le_of_ble_eq_true rfl) ?_
   ·refine ⟨⟨n2, hf', hd', ?_⟩, by dsimp only; omega⟩
    rw [List.all_append, ha, List.all_cons, List.all_nil, (show btwP a b c = true from decide_eq_true hc)]; rfl
   ·rfl
   ·simp [en]
 ·repeat' (first | (apply run; conv => whnf) | (with_reducible first | refine snt ?_ | refine snf ?_ | refine sht ?_ | refine shf ?_) | ((first | with_reducible refine split_neg (fun hc => ?_) (fun hc => ?_) | refine split (fun hc => ?_) (fun hc => ?_)) <;> (try simp only [bsl, true_implies, false_implies, Int.reduceEq, Int.reduceLT, Int.reduceLE, Nat.reduceLT, Nat.reduceEqDiff] at hc) <;> try first | (exfalso; omega) | exact btf hc | exact bft hc) | refine fact_in (fun hby => ?_) | refine un_rfl ?_ | refine stp ?_ | exact obs | with_reducible refine And.intro ?_ ?_ | refine nrm ?_ | apply row_eq | refine cte ?_ | refine ctd ?_ | refine cse ?_ | refine csd ?_ | refine wrp ?_ | refine stq ?_ | refine cps ?_ | refine opn ?_ | exact eqs | (intro _; rfl))
  refine ret_eq ?_ (by rfl)
  rw [all_end (decS_end hd hlt) ha]
theorem all_prt (m : Int) (g : FuncId) (s : List UInt8) (hs : s.length ≤ 1000000) :
  CallF Cx 126 [.agg [.int .u32 m, fnV 129, fnV g], .str s] [] (.bool (allB (hasP) s)) [] := by
 refine sy_call (X := Sx0) (fun _ => false) [] [] (fn := Tryz.f126) Tryz.func126 rfl (by decide) rfl rfl ?_
 repeat' (first | (apply run; conv => whnf) | (with_reducible first | refine snt ?_ | refine snf ?_ | refine sht ?_ | refine shf ?_) | ((first | with_reducible refine split_neg (fun hc => ?_) (fun hc => ?_) | refine split (fun hc => ?_) (fun hc => ?_)) <;> (try simp only [bsl, true_implies, false_implies, Int.reduceEq, Int.reduceLT, Int.reduceLE, Nat.reduceLT, Nat.reduceEqDiff] at hc) <;> try first | (exfalso; omega) | exact btf hc | exact bft hc) | refine fact_in (fun hby => ?_) | refine un_rfl ?_ | refine stp ?_ | exact obs | with_reducible refine And.intro ?_ ?_ | refine nrm ?_ | apply row_eq | refine cte ?_ | refine ctd ?_ | refine cse ?_ | refine csd ?_ | refine wrp ?_ | refine stq ?_ | refine cps ?_ | refine opn ?_ | exact eqs | (intro _; rfl))
 ·refine ret_eq ?_ (by rfl); simp [allB, hc]
 have hsome : (decS s).isSome = true := by assumption
 refine loop_rule (α := Nat × List Int × Nat) [] 2 (fun x => []) (fun x => [.cells 98 [.int .u32 m, fnV 129, fnV g], .iter s x.1]) (fun x => x.1 ≤ s.length ∧ s.length ≤ x.1 + x.2.2 ∧ decS s = (decL s x.2.2 x.1).map (x.2.1 ++ ·) ∧ x.2.1.all (hasP) = true) (fun x => s.length - x.1) ((0, [], s.length)) (fun _ => rfl) (by decide) ?_
 ((refine run ?_); conv => whnf)
 refine goal_in ⟨?_, fit_eq ?_, sto_take (n := 2) (Nat.le_of_ble_eq_true rfl) ?_⟩ (fun x hinv => ?_)
 ·refine ⟨Nat.zero_le _, by dsimp only; omega, ?_, rfl⟩
  simp [decS]
 ·rfl
 ·rfl
 obtain ⟨i, acc, f⟩ := x
 obtain ⟨hi, hf, hd, ha⟩ := hinv
 dsimp only at hi hf hd ha
 by_cases hlt : i < s.length
 ·obtain ⟨c, n, f, rfl, hat, hdec, c1, c2, c3, n1, n2, hf', hd'⟩ := decS_step hd hsome hlt hf
  have ec : ((decodeL s i).1 : Int) = c := by rw [hdec]; dsimp only; omega
  have en : (decodeL s i).2 = n := by rw [hdec]
  repeat' (first | (apply run; conv => whnf) | (with_reducible first | refine snt ?_ | refine snf ?_ | refine sht ?_ | refine shf ?_) | ((first | with_reducible refine split_neg (fun hc => ?_) (fun hc => ?_) | refine split (fun hc => ?_) (fun hc => ?_)) <;> (try simp only [bsl, true_implies, false_implies, Int.reduceEq, Int.reduceLT, Int.reduceLE, Nat.reduceLT, Nat.reduceEqDiff] at hc) <;> try first | (exfalso; omega) | exact btf hc | exact bft hc) | refine fact_in (fun hby => ?_) | refine un_rfl ?_ | refine stp ?_ | exact obs | with_reducible refine And.intro ?_ ?_ | refine nrm ?_ | apply row_eq | refine cte ?_ | refine ctd ?_ | refine cse ?_ | refine csd ?_ | refine wrp ?_ | refine stq ?_ | refine cps ?_ | refine opn ?_ | exact eqs | (intro _; rfl))
  ·refine ret_eq ?_ (by rfl)
   rw [ec] at hc
   rw [all_bad hd' hsome (p := hasP) hc]
  ·rw [ec] at hc
   refine meet_eq ((i + n, acc ++ [c], f)) ?_ ?_ (Nat.le_of_ble_eq_true rfl) ?_
   ·refine ⟨⟨n2, hf', hd', ?_⟩, by dsimp only; omega⟩
    rw [List.all_append, ha, List.all_cons, List.all_nil, hc]; rfl
   ·rfl
   ·simp [en]
 ·repeat' (first | (apply run; conv => whnf) | (with_reducible first | refine snt ?_ | refine snf ?_ | refine sht ?_ | refine shf ?_) | ((first | with_reducible refine split_neg (fun hc => ?_) (fun hc => ?_) | refine split (fun hc => ?_) (fun hc => ?_)) <;> (try simp only [bsl, true_implies, false_implies, Int.reduceEq, Int.reduceLT, Int.reduceLE, Nat.reduceLT, Nat.reduceEqDiff] at hc) <;> try first | (exfalso; omega) | exact btf hc | exact bft hc) | refine fact_in (fun hby => ?_) | refine un_rfl ?_ | refine stp ?_ | exact obs | with_reducible refine And.intro ?_ ?_ | refine nrm ?_ | apply row_eq | refine cte ?_ | refine ctd ?_ | refine cse ?_ | refine csd ?_ | refine wrp ?_ | refine stq ?_ | refine cps ?_ | refine opn ?_ | exact eqs | (intro _; rfl))
  refine ret_eq ?_ (by rfl)
  rw [all_end (decS_end hd hlt) ha]
instance {m a b : Int} {g : FuncId} {s : List UInt8} : Con Sx0 126 [.agg [.int .u32 m, btw a b, fnV g], .str s] (s.length ≤ 1000000) (.bool (allB (btwP a b) s)) := con (all_btw m a b g s)
instance {m : Int} {g : FuncId} {s : List UInt8} : Con Sx0 126 [.agg [.int .u32 m, fnV 129, fnV g], .str s] (s.length ≤ 1000000) (.bool (allB hasP s)) := con (all_prt m g s)
/-- The characters of a valid string. -/
theorem decT_ok {s : List UInt8} : ∀ c, c ∈ decT s → 0 ≤ c ∧ c ≤ 1114111 ∧ ¬ (55296 ≤ c ∧ c < 57344) := by
 have key : ∀ f i l, decL s f i = some l → ∀ c, c ∈ l → 0 ≤ c ∧ c ≤ 1114111 ∧ ¬ (55296 ≤ c ∧ c < 57344) := by
  intro f
  induction f with
  | zero => intro i l h c hc; simp only [decL, Option.some.injEq] at h; subst h; cases hc
  | succ f ih =>
   intro i l h c hc
   simp only [decL] at h
   split at h
   ·obtain ⟨⟨d, n⟩, h1, h2⟩ := Option.bind_eq_some_iff.1 h
    obtain ⟨m, h3, rfl⟩ := Option.map_eq_some_iff.1 h2
    rcases List.mem_cons.1 hc with rfl | hc
    ·have := decAt_decode h1; exact ⟨this.2.1, this.2.2.1, this.2.2.2.1⟩
    ·exact ih _ _ h3 c hc
   ·simp only [Option.some.injEq] at h; subst h; cases hc
 intro c hc
 unfold decT decS at hc
 cases h : decL s s.length 0 with
 | none => rw [h] at hc; cases hc
 | some l => rw [h] at hc; exact key _ _ _ h c hc
/-- What the program asks of a kind, and what the reference asks. -/
def kP (k c : Int) : Bool := if k = 12 then btwP 1 1114111 c else if k = 19 then hasP c else if k = 22 then btwP 1 127 c else if k = 26 then btwP 32 126 c else btwP 1 65535 c
theorem kP_has {k c : Int} (hk : kindI k ≠ 0) (hc : 0 ≤ c ∧ c ≤ 1114111 ∧ ¬ (55296 ≤ c ∧ c < 57344)) : kP k c = hasB k c := by
 have hk' := kind_cases k
 unfold kP hasB
 rcases hk' with rfl | rfl | rfl | rfl | rfl | h
 ·rw [Bool.eq_iff_iff]; simp [btwP]; omega
 ·simp only [hasP]
  by_cases h1 : 1 ≤ c
  ·have : decide (1 ≤ c ∧ c ≤ 1114111 ∧ ¬(55296 ≤ c ∧ c < 57344)) = true := by simp; omega
   rw [this]; simp
  ·have e : c = 0 := by omega
   subst e; decide
 ·rw [Bool.eq_iff_iff]; simp [btwP]; omega
 ·rw [Bool.eq_iff_iff]; simp [btwP]; omega
 ·rw [Bool.eq_iff_iff]; simp [btwP]; omega
 ·exact absurd h hk
theorem allB_has {k : Int} {s : List UInt8} (hk : kindI k ≠ 0) : allB (kP k) s = allB (hasB k) s := by
 unfold allB
 cases h : (decS s).isSome with
 | false => rfl
 | true =>
  simp only [Bool.true_and]
  rw [Bool.eq_iff_iff]
  simp only [List.all_eq_true]
  constructor
  ·intro h c hc; rw [← kP_has hk (decT_ok c hc)]; exact h c hc
  ·intro h c hc; rw [kP_has hk (decT_ok c hc)]; exact h c hc
end Go.Proofs.YtaajfbcopafkaaaGreatDoor.Ai
