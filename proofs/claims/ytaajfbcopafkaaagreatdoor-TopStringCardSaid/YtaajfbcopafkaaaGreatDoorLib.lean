/- Functions of Go's library that chapter 9 calls. Own work of this seat. -/
import Derived.Test.YtaajfbcopafkaaaGreatDoorRefB
namespace Go.Proofs.YtaajfbcopafkaaaGreatDoor.Ai
open Go
set_option linter.unusedSimpArgs false
set_option linter.unusedVariables false
set_option maxHeartbeats 4000000
set_option maxRecDepth 100000
instance {s : List UInt8} {c : Int} : Con Sx0 201 [.str s, .int .u8 c] True (.int .i64 (Lib.indexByte s c.toNat.toUInt8)) := con0 (X_call (.indexByte s c))
theorem slIndexByte_call (s : List UInt8) (c : Int) : CallF Cx 147 [.str s, .int .u8 c] [] (.int .i64 (Lib.indexByte s c.toNat.toUInt8)) [] := by
 refine sy_call (X := Sx0) (fun _ => false) [] [] (fn := Tryz.f147) Tryz.func147 rfl (by decide) rfl rfl ?_
 repeat' (first | (apply run; conv => whnf) | (with_reducible first | refine snt ?_ | refine snf ?_ | refine sht ?_ | refine shf ?_) | ((first | with_reducible refine split_neg (fun hc => ?_) (fun hc => ?_) | refine split (fun hc => ?_) (fun hc => ?_)) <;> (try simp only [bsl, true_implies, false_implies, Int.reduceEq, Int.reduceLT, Int.reduceLE, Nat.reduceLT, Nat.reduceEqDiff] at hc) <;> try first | (exfalso; omega) | exact btf hc | exact bft hc) | refine fact_in (fun hby => ?_) | refine un_rfl ?_ | refine stp ?_ | exact obs | with_reducible refine And.intro ?_ ?_ | refine nrm ?_ | apply row_eq | refine cte ?_ | refine ctd ?_ | refine cse ?_ | refine csd ?_ | refine wrp ?_ | refine stq ?_ | refine cps ?_ | refine opn ?_ | exact eqs | (intro _; rfl))
 refine ret_eq ?_ (by rfl); rfl
instance {s : List UInt8} {c : Int} : Con Sx0 147 [.str s, .int .u8 c] True (.int .i64 (Lib.indexByte s c.toNat.toUInt8)) := con0 (slIndexByte_call s c)
theorem strIndexByte_call (s : List UInt8) (c : Int) : CallF Cx 101 [.str s, .int .u8 c] [] (.int .i64 (Lib.indexByte s c.toNat.toUInt8)) [] := by
 refine sy_call (X := Sx0) (fun _ => false) [] [] (fn := Tryz.f101) Tryz.func101 rfl (by decide) rfl rfl ?_
 repeat' (first | (apply run; conv => whnf) | (with_reducible first | refine snt ?_ | refine snf ?_ | refine sht ?_ | refine shf ?_) | ((first | with_reducible refine split_neg (fun hc => ?_) (fun hc => ?_) | refine split (fun hc => ?_) (fun hc => ?_)) <;> (try simp only [bsl, true_implies, false_implies, Int.reduceEq, Int.reduceLT, Int.reduceLE, Nat.reduceLT, Nat.reduceEqDiff] at hc) <;> try first | (exfalso; omega) | exact btf hc | exact bft hc) | refine fact_in (fun hby => ?_) | refine un_rfl ?_ | refine stp ?_ | exact obs | with_reducible refine And.intro ?_ ?_ | refine nrm ?_ | apply row_eq | refine cte ?_ | refine ctd ?_ | refine cse ?_ | refine csd ?_ | refine wrp ?_ | refine stq ?_ | refine cps ?_ | refine opn ?_ | exact eqs | (intro _; rfl))
 refine ret_eq ?_ (by rfl); rfl
instance {s : List UInt8} {c : Int} : Con Sx0 101 [.str s, .int .u8 c] True (.int .i64 (Lib.indexByte s c.toNat.toUInt8)) := con0 (strIndexByte_call s c)
/-! Runes. -/
theorem encRune_eq {c : Int} (h : 0 ≤ c ∧ c ≤ 1114111) (hs : ¬ (55296 ≤ c ∧ c < 57344)) : encRune c = (enc1 c).map fun n => UInt8.ofNat n.toNat := by
 have hv : Utf8.valid c = true := by simp [Utf8.valid]; omega
 unfold encRune Utf8.encode enc1
 simp only [hv, if_true]
 by_cases h1 : c < 128
 ·have : c.toNat < 128 := by omega
  simp [this, h1]
 ·by_cases h2 : c < 2048
  ·have a1 : ¬ c.toNat < 128 := by omega
   have a2 : c.toNat < 2048 := by omega
   simp only [a1, a2, h1, h2, if_true, if_false, List.map_cons, List.map_nil]
   have e1 : (192 + c / 64).toNat = 192 + c.toNat / 64 := by omega
   have e2 : (128 + c % 64).toNat = 128 + c.toNat % 64 := by omega
   rw [e1, e2]
  ·by_cases h3 : c < 65536
   ·have a1 : ¬ c.toNat < 128 := by omega
    have a2 : ¬ c.toNat < 2048 := by omega
    have a3 : c.toNat < 65536 := by omega
    simp only [a1, a2, a3, h1, h2, h3, if_true, if_false, List.map_cons, List.map_nil]
    have e1 : (224 + c / 4096).toNat = 224 + c.toNat / 4096 := by omega
    have e2 : (128 + c / 64 % 64).toNat = 128 + c.toNat / 64 % 64 := by omega
    have e3 : (128 + c % 64).toNat = 128 + c.toNat % 64 := by omega
    rw [e1, e2, e3]
   ·have a1 : ¬ c.toNat < 128 := by omega
    have a2 : ¬ c.toNat < 2048 := by omega
    have a3 : ¬ c.toNat < 65536 := by omega
    simp only [a1, a2, a3, h1, h2, h3, if_false, List.map_cons, List.map_nil]
    have e1 : (240 + c / 262144).toNat = 240 + c.toNat / 262144 := by omega
    have e2 : (128 + c / 4096 % 64).toNat = 128 + c.toNat / 4096 % 64 := by omega
    have e3 : (128 + c / 64 % 64).toNat = 128 + c.toNat / 64 % 64 := by omega
    have e4 : (128 + c % 64).toNat = 128 + c.toNat % 64 := by omega
    rw [e1, e2, e3, e4]
/-- The last byte of a rune of more than one byte, and how many bytes it has. -/
theorem encRune_last {c : Int} (h : 128 ≤ c ∧ c ≤ 1114111) (hs : ¬ (55296 ≤ c ∧ c < 57344)) : 2 ≤ (encRune c).length ∧ (encRune c).length ≤ 4 ∧ 128 ≤ (nth (encRune c) ((encRune c).length - 1)).toNat := by
 have key : ∀ x : Int, 0 ≤ x → x < 64 → 128 ≤ (UInt8.ofNat (128 + x).toNat).toNat := by
  intro x h0 h1
  rw [UInt8.toNat_ofNat']
  have : (128 + x).toNat % 2 ^ 8 = (128 + x).toNat := Nat.mod_eq_of_lt (by omega)
  omega
 rw [encRune_eq ⟨by omega, h.2⟩ hs]
 unfold enc1
 rw [if_neg (by omega)]
 split
 ·exact ⟨by simp, by simp, key _ (by omega) (by omega)⟩
 ·split
  ·exact ⟨by simp, by simp, key _ (by omega) (by omega)⟩
  ·exact ⟨by simp, by simp, key _ (by omega) (by omega)⟩
theorem decodeL_ascii {s : List UInt8} {i : Nat} (hi : i < s.length) (h : (nth s i).toNat < 128) : decodeL s i = ((nth s i).toNat, 1) := by
 have e : (ByteArray.mk s.toArray).get! i = nth s i := by
  rw [nth_eq hi]
  show s.toArray[i]! = s[i]
  simp [hi]
 unfold decodeL Utf8.decode
 simp only [Nat.add_zero, e]
 rw [if_pos h]
theorem others_ascii : ∀ i, i < 12 → (nth others i).toNat < 128 := by decide
theorem indexByte_none : ∀ {l : List UInt8} {c : UInt8}, (∀ b, b ∈ l → b ≠ c) → Lib.indexByte l c = -1 := by
 intro l
 induction l with
 | nil => intro c _; rfl
 | cons b l ih =>
  intro c h
  unfold Lib.indexByte
  have h1 : (b == c) = false := by simpa using h b List.mem_cons_self
  rw [h1, ih fun x hx => h x (List.mem_cons_of_mem _ hx)]
  rfl
theorem indexRune_call (c : Int) : CallF Cx 148 [.str others, .int .i32 c] [] (.int .i64 (if 0 ≤ c ∧ c < 128 then Lib.indexByte others c.toNat.toUInt8 else -1)) [] := by
 by_cases hv : 128 ≤ c ∧ c ≠ 65533 ∧ validR c = true
 ·obtain ⟨h1, h2, h3⟩ := hv
  have h3' := h3
  simp only [validR, decide_eq_true_eq] at h3'
  obtain ⟨l1, l2, l3⟩ := encRune_last (c := c) (by omega) (by omega)
  have hlen : others.length = 12 := rfl
  have hidx : Lib.indexByte (others.drop (((encRune c).length - 1) + 1)) (nth (encRune c) ((encRune c).length - 1)) = -1 :=
   indexByte_none fun b hb => by
    intro e
    subst e
    obtain ⟨j, hj, hb⟩ := List.getElem_of_mem (List.mem_of_mem_drop hb)
    have := others_ascii j (by simpa [others] using hj)
    rw [nth_eq hj, hb] at this
    omega
  have hne : nth others ((encRune c).length - 1) ≠ nth (encRune c) ((encRune c).length - 1) := by
   intro e
   have := others_ascii ((encRune c).length - 1) (by omega)
   rw [e] at this
   omega
  have eT : (((encRune c).length : Int) - 1).toNat = (encRune c).length - 1 := by omega
  refine sy_call (X := Sx0) (fun _ => false) [] [] (fn := Tryz.f148) Tryz.func148 rfl (by decide) rfl rfl ?_
  repeat' (first | (apply run; conv => whnf) | (with_reducible first | refine snt ?_ | refine snf ?_ | refine sht ?_ | refine shf ?_) | ((first | with_reducible refine split_neg (fun hc => ?_) (fun hc => ?_) | refine split (fun hc => ?_) (fun hc => ?_)) <;> (try simp only [bsl, true_implies, false_implies, Int.reduceEq, Int.reduceLT, Int.reduceLE, Nat.reduceLT, Nat.reduceEqDiff] at hc) <;> try first | (exfalso; omega) | exact btf hc | exact bft hc) | refine fact_in (fun hby => ?_) | refine un_rfl ?_ | refine stp ?_ | exact obs | with_reducible refine And.intro ?_ ?_ | refine nrm ?_ | apply row_eq | refine cte ?_ | refine ctd ?_ | refine cse ?_ | refine csd ?_ | refine wrp ?_ | refine stq ?_ | refine cps ?_ | refine opn ?_ | exact eqs | (intro _; rfl))
  refine loop_rule (α := Unit) [9, 10] 0 (fun u => [.int .i64 (((encRune c).length : Int) - 1), .int .i64 0]) (fun u => []) (fun u => True) (fun u => 0) (()) (fun _ => rfl) (by decide) ?_
  ((refine run ?_); conv => whnf)
  refine goal_in ⟨?_, fit_eq ?_, sto_take (n := 0) (Nat.le_of_ble_eq_true rfl) ?_⟩ (fun u hinv => ?_)
  ·trivial
  ·rfl
  ·rfl
  have eN : ((encRune c).length : Int) - 1 + 1 = ((encRune c).length : Int) := by omega
  have eI : others.drop (encRune c).length = others.drop ((encRune c).length - 1 + 1) := by congr 1; omega
  repeat' (first | (apply run; conv => whnf) | (with_reducible first | refine snt ?_ | refine snf ?_ | refine sht ?_ | refine shf ?_) | ((first | with_reducible refine split_neg (fun hc => ?_) (fun hc => ?_) | refine split (fun hc => ?_) (fun hc => ?_)) <;> (try simp only [bsl, true_implies, false_implies, Int.reduceEq, Int.reduceLT, Int.reduceLE, Nat.reduceLT, Nat.reduceEqDiff] at hc) <;> try first | (exfalso; omega) | exact btf hc | exact bft hc) | refine fact_in (fun hby => ?_) | refine un_rfl ?_ | refine stp ?_ | exact obs | with_reducible refine And.intro ?_ ?_ | refine nrm ?_ | apply row_eq | refine cte ?_ | refine ctd ?_ | refine cse ?_ | refine csd ?_ | refine wrp ?_ | refine stq ?_ | refine cps ?_ | refine opn ?_ | exact eqs | (intro _; rfl))
  ·refine ret_eq ?_ (by rfl); rw [if_neg (by omega)]
  ·exfalso
   rw [eT, eN] at hc
   simp only [Int.toNat_natCast, List.take_length, eI] at hc
   have e8 : (nth (encRune c) ((encRune c).length - 1)).toNat.toUInt8 = nth (encRune c) ((encRune c).length - 1) := by simp
   rw [e8, hidx] at hc
   omega
  ·exfalso
   rw [eT] at hc
   exact hne (UInt8.toNat_inj.1 (by omega))
 ·by_cases h5 : c = 65533
  ·subst h5
   refine sy_call (X := Sx0) (fun _ => false) [] [] (fn := Tryz.f148) Tryz.func148 rfl (by decide) rfl rfl ?_
   repeat' (first | (apply run; conv => whnf) | (with_reducible first | refine snt ?_ | refine snf ?_ | refine sht ?_ | refine shf ?_) | ((first | with_reducible refine split_neg (fun hc => ?_) (fun hc => ?_) | refine split (fun hc => ?_) (fun hc => ?_)) <;> (try simp only [bsl, true_implies, false_implies, Int.reduceEq, Int.reduceLT, Int.reduceLE, Nat.reduceLT, Nat.reduceEqDiff] at hc) <;> try first | (exfalso; omega) | exact btf hc | exact bft hc) | refine fact_in (fun hby => ?_) | refine un_rfl ?_ | refine stp ?_ | exact obs | with_reducible refine And.intro ?_ ?_ | refine nrm ?_ | apply row_eq | refine cte ?_ | refine ctd ?_ | refine cse ?_ | refine csd ?_ | refine wrp ?_ | refine stq ?_ | refine cps ?_ | refine opn ?_ | exact eqs | (intro _; rfl))
   refine loop_rule (α := Nat) [] 1 (fun i => []) (fun i => [.iter others i]) (fun i => i ≤ 12) (fun i => 12 - i) (0) (fun _ => rfl) (by decide) ?_
   ((refine run ?_); conv => whnf)
   refine goal_in ⟨?_, fit_eq ?_, sto_take (n := 1) (Nat.le_of_ble_eq_true rfl) ?_⟩ (fun i hinv => ?_)
   ·simp
   ·rfl
   ·rfl
   have hlen : others.length = 12 := rfl
   by_cases hi : i < 12
   ·have hd := decodeL_ascii (s := others) (i := i) hi (others_ascii i hi)
    have ha := others_ascii i hi
    repeat' (first | (apply run; conv => whnf) | (with_reducible first | refine snt ?_ | refine snf ?_ | refine sht ?_ | refine shf ?_) | ((first | with_reducible refine split_neg (fun hc => ?_) (fun hc => ?_) | refine split (fun hc => ?_) (fun hc => ?_)) <;> (try simp only [bsl, true_implies, false_implies, Int.reduceEq, Int.reduceLT, Int.reduceLE, Nat.reduceLT, Nat.reduceEqDiff] at hc) <;> try first | (exfalso; omega) | exact btf hc | exact bft hc) | refine fact_in (fun hby => ?_) | refine un_rfl ?_ | refine stp ?_ | exact obs | with_reducible refine And.intro ?_ ?_ | refine nrm ?_ | apply row_eq | refine cte ?_ | refine ctd ?_ | refine cse ?_ | refine csd ?_ | refine wrp ?_ | refine stq ?_ | refine cps ?_ | refine opn ?_ | exact eqs | (intro _; rfl))
    ·rw [hd] at hc; dsimp only at hc; omega
    ·refine meet_eq (i + 1) ?_ ?_ (Nat.le_of_ble_eq_true rfl) ?_
     ·exact ⟨by dsimp only; omega, by dsimp only; omega⟩
     ·rfl
     ·rw [hd]; rfl
   ·repeat' (first | (apply run; conv => whnf) | (with_reducible first | refine snt ?_ | refine snf ?_ | refine sht ?_ | refine shf ?_) | ((first | with_reducible refine split_neg (fun hc => ?_) (fun hc => ?_) | refine split (fun hc => ?_) (fun hc => ?_)) <;> (try simp only [bsl, true_implies, false_implies, Int.reduceEq, Int.reduceLT, Int.reduceLE, Nat.reduceLT, Nat.reduceEqDiff] at hc) <;> try first | (exfalso; omega) | exact btf hc | exact bft hc) | refine fact_in (fun hby => ?_) | refine un_rfl ?_ | refine stp ?_ | exact obs | with_reducible refine And.intro ?_ ?_ | refine nrm ?_ | apply row_eq | refine cte ?_ | refine ctd ?_ | refine cse ?_ | refine csd ?_ | refine wrp ?_ | refine stq ?_ | refine cps ?_ | refine opn ?_ | exact eqs | (intro _; rfl))
    refine ret_eq ?_ (by rfl); rfl
  ·by_cases h6 : 0 ≤ c ∧ c < 128
   ·refine sy_call (X := Sx0) (fun _ => false) [] [] (fn := Tryz.f148) Tryz.func148 rfl (by decide) rfl rfl ?_
    repeat' (first | (apply run; conv => whnf) | (with_reducible first | refine snt ?_ | refine snf ?_ | refine sht ?_ | refine shf ?_) | ((first | with_reducible refine split_neg (fun hc => ?_) (fun hc => ?_) | refine split (fun hc => ?_) (fun hc => ?_)) <;> (try simp only [bsl, true_implies, false_implies, Int.reduceEq, Int.reduceLT, Int.reduceLE, Nat.reduceLT, Nat.reduceEqDiff] at hc) <;> try first | (exfalso; omega) | exact btf hc | exact bft hc) | refine fact_in (fun hby => ?_) | refine un_rfl ?_ | refine stp ?_ | exact obs | with_reducible refine And.intro ?_ ?_ | refine nrm ?_ | apply row_eq | refine cte ?_ | refine ctd ?_ | refine cse ?_ | refine csd ?_ | refine wrp ?_ | refine stq ?_ | refine cps ?_ | refine opn ?_ | exact eqs | (intro _; rfl))
    refine ret_eq ?_ (by rfl); rw [if_pos h6]
   ·have h7 : validR c = false := by
      cases h : validR c with
      | false => rfl
      | true => exact absurd ⟨by simp only [validR, decide_eq_true_eq] at h; omega, h5, h⟩ hv
    refine sy_call (X := Sx0) (fun _ => false) [] [] (fn := Tryz.f148) Tryz.func148 rfl (by decide) rfl rfl ?_
    repeat' (first | (apply run; conv => whnf) | (with_reducible first | refine snt ?_ | refine snf ?_ | refine sht ?_ | refine shf ?_) | ((first | with_reducible refine split_neg (fun hc => ?_) (fun hc => ?_) | refine split (fun hc => ?_) (fun hc => ?_)) <;> (try simp only [bsl, true_implies, false_implies, Int.reduceEq, Int.reduceLT, Int.reduceLE, Nat.reduceLT, Nat.reduceEqDiff] at hc) <;> try first | (exfalso; omega) | exact btf hc | exact bft hc) | refine fact_in (fun hby => ?_) | refine un_rfl ?_ | refine stp ?_ | exact obs | with_reducible refine And.intro ?_ ?_ | refine nrm ?_ | apply row_eq | refine cte ?_ | refine ctd ?_ | refine cse ?_ | refine csd ?_ | refine wrp ?_ | refine stq ?_ | refine cps ?_ | refine opn ?_ | exact eqs | (intro _; rfl))
    refine ret_eq ?_ (by rfl); rw [if_neg h6]
instance {c : Int} : Con Sx0 148 [.str [32, 39, 40, 41, 43, 44, 45, 46, 47, 58, 61, 63], .int .i32 c] True (.int .i64 (if 0 ≤ c ∧ c < 128 then Lib.indexByte others c.toNat.toUInt8 else -1)) := con0 (indexRune_call c)
theorem containsRune_call (c : Int) : CallF Cx 186 [.str [32, 39, 40, 41, 43, 44, 45, 46, 47, 58, 61, 63], .int .i32 c] [] (.bool (decide (0 ≤ c ∧ c < 128 ∧ 0 ≤ Lib.indexByte others c.toNat.toUInt8))) [] := by
 refine sy_call (X := Sx0) (fun _ => false) [] [] (fn := Tryz.f186) Tryz.func186 rfl (by decide) rfl rfl ?_
 repeat' (first | (apply run; conv => whnf) | (with_reducible first | refine snt ?_ | refine snf ?_ | refine sht ?_ | refine shf ?_) | ((first | with_reducible refine split_neg (fun hc => ?_) (fun hc => ?_) | refine split (fun hc => ?_) (fun hc => ?_)) <;> (try simp only [bsl, true_implies, false_implies, Int.reduceEq, Int.reduceLT, Int.reduceLE, Nat.reduceLT, Nat.reduceEqDiff] at hc) <;> try first | (exfalso; omega) | exact btf hc | exact bft hc) | refine fact_in (fun hby => ?_) | refine un_rfl ?_ | refine stp ?_ | exact obs | with_reducible refine And.intro ?_ ?_ | refine nrm ?_ | apply row_eq | refine cte ?_ | refine ctd ?_ | refine cse ?_ | refine csd ?_ | refine wrp ?_ | refine stq ?_ | refine cps ?_ | refine opn ?_ | exact eqs | (intro _; rfl))
 refine ret_eq ?_ (by rfl)
 congr 1
 rw [decide_eq_decide]
 split
 ·rename_i h; exact ⟨fun h' => ⟨h.1, h.2, h'⟩, fun h' => h'.2.2⟩
 ·rename_i h; exact ⟨fun h' => by omega, fun h' => (h ⟨h'.1, h'.2.1⟩).elim⟩
instance {c : Int} : Con Sx0 186 [.str [32, 39, 40, 41, 43, 44, 45, 46, 47, 58, 61, 63], .int .i32 c] True (.bool (decide (0 ≤ c ∧ c < 128 ∧ 0 ≤ Lib.indexByte others c.toNat.toUInt8))) := con0 (containsRune_call c)
theorem printable_pure : ∀ n : Nat, n < 128 → (decide (0 ≤ Lib.indexByte others (n : Int).toNat.toUInt8)) = others.any fun b => decide ((b.toNat : Int) = n) := by decide
def hasP (c : Int) : Bool := decide (65 ≤ c ∧ c ≤ 90 ∨ 97 ≤ c ∧ c ≤ 122 ∨ 48 ≤ c ∧ c ≤ 57) || others.any fun b => decide ((b.toNat : Int) = c)
theorem printable_call (c : Int) : CallF Cx 129 [.int .i32 c] [] (.bool (hasP c)) [] := by
 refine sy_call (X := Sx0) (fun _ => false) [] [] (fn := Tryz.f129) Tryz.func129 rfl (by decide) rfl rfl ?_
 repeat' (first | (apply run; conv => whnf) | (with_reducible first | refine snt ?_ | refine snf ?_ | refine sht ?_ | refine shf ?_) | ((first | with_reducible refine split_neg (fun hc => ?_) (fun hc => ?_) | refine split (fun hc => ?_) (fun hc => ?_)) <;> (try simp only [bsl, true_implies, false_implies, Int.reduceEq, Int.reduceLT, Int.reduceLE, Nat.reduceLT, Nat.reduceEqDiff] at hc) <;> try first | (exfalso; omega) | exact btf hc | exact bft hc) | refine fact_in (fun hby => ?_) | refine un_rfl ?_ | refine stp ?_ | exact obs | with_reducible refine And.intro ?_ ?_ | refine nrm ?_ | apply row_eq | refine cte ?_ | refine ctd ?_ | refine cse ?_ | refine csd ?_ | refine wrp ?_ | refine stq ?_ | refine cps ?_ | refine opn ?_ | exact eqs | (intro _; rfl))
 all_goals
  refine ret_eq ?_ (by rfl)
  congr 1
  simp only [hasP]
 ·simp; omega
 ·simp; omega
 ·simp; omega
 ·by_cases h : 0 ≤ c ∧ c < 128
  ·obtain ⟨n, rfl⟩ : ∃ n : Nat, c = n := ⟨c.toNat, by omega⟩
   have := printable_pure n (by omega)
   rw [← this]
   rw [Bool.eq_iff_iff]
   simp only [Bool.or_eq_true, decide_eq_true_eq]
   constructor
   ·intro h'; exact .inr h'.2.2
   ·rintro (h' | h')
    ·omega
    ·exact ⟨h.1, h.2, h'⟩
  ·have : (others.any fun b => decide ((b.toNat : Int) = c)) = false := by
     rw [List.any_eq_false]
     intro b hb
     obtain ⟨j, hj, rfl⟩ := List.getElem_of_mem hb
     have := others_ascii j (by simpa [others] using hj)
     rw [nth_eq hj] at this
     simp only [decide_eq_true_eq]
     omega
   rw [this, Bool.eq_iff_iff]
   simp only [Bool.or_eq_true, decide_eq_true_eq]
   constructor
   ·intro h'; omega
   ·rintro (h' | h')
    ·omega
    ·cases h'
instance {c : Int} : Con Sx0 129 [.int .i32 c] True (.bool (hasP c)) := con0 (printable_call c)
end Go.Proofs.YtaajfbcopafkaaaGreatDoor.Ai
