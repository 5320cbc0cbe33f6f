/- The statements' own functions: read, C.Of. Own work of this seat. -/
import Derived.Test.YtaajfbcopafkaaaGreatDoorCore
namespace Go.Proofs.YtaajfbcopafkaaaGreatDoor.Ai
open Go
set_option linter.unusedSimpArgs false
set_option linter.unusedVariables false
set_option maxHeartbeats 4000000
set_option maxRecDepth 100000
attribute [local irreducible] decodeL
def kindC (n : Nat) : Int := kindNo.getD (n % 5) 0
def pickC (k c : Int) : List Int :=
 if hasB k (c % 1114112) = true then [c % 1114112] else if hasB k (c % 1114112 % 128) = true then [c % 1114112 % 128] else []
def charC (k : Int) (cs : List Int) : List Int := (cs.map (pickC k)).flatten
theorem charC_step {k : Int} {cs : List Int} {i : Nat} (h : i < cs.length) : charC k (cs.take (i + 1)) = charC k (cs.take i) ++ pickC k (nth cs i) := by
 unfold charC
 rw [take_nth h]
 simp
theorem charC_len (k : Int) (cs : List Int) : ∀ i, (charC k (cs.take i)).length ≤ i := by
 intro i
 induction i with
 | zero => simp [charC]
 | succ i ih =>
  by_cases h : i < cs.length
  ·rw [charC_step h, List.length_append]
   have : (pickC k (nth cs i)).length ≤ 1 := by unfold pickC; (repeat' split) <;> simp
   omega
  ·rw [List.take_of_length_le (by omega)] at ih ⊢; omega
theorem charC_has {k : Int} {cs : List Int} : (charC k cs).all (hasB k) = true := by
 rw [List.all_eq_true]
 intro c hc
 obtain ⟨m, hm, hc⟩ := List.mem_flatten.1 hc
 obtain ⟨d, _, rfl⟩ := List.mem_map.1 hm
 unfold pickC at hc
 split at hc
 ·rw [List.mem_singleton] at hc; subst hc; assumption
 ·split at hc
  ·rw [List.mem_singleton] at hc; subst hc; assumption
  ·cases hc
def textC (n : Nat) (cs : List Int) : List UInt8 := encS (charC (kindC n) (cs.take 40))
theorem COf_call (n : Nat) (cs : List Int) (cap : Option Nat) (hn : n < 256) (hcs : ∀ c, c ∈ cs → 0 ≤ c ∧ c ≤ 4294967295) (hl : (cs.length : Int) ≤ 9223372036854775807) :
  CallF Cx 12 [.agg [.int .u8 n, .slc 1 (cs.map u32Row) cap]] [] (.agg [.int .u32 (kindC n), .str (textC n cs)]) [] := by
 have i1 : Con Sx0 40 [.int .i64 ((n : Int) % 5)] True (.int .u32 (kindC n)) := con0 (by
  have := number_call (n % 5) (by omega)
  rw [show ((n : Int) % 5) = ((n % 5 : Nat) : Int) by omega]
  exact this)
 refine sy_call (X := Sx0) (fun _ => false) [] [(4, 3, 1)] (fn := Tryz.f12) Tryz.func12 rfl (by decide) rfl rfl ?_
 repeat' (first | (apply run; conv => whnf) | (with_reducible first | refine snt ?_ | refine snf ?_ | refine sht ?_ | refine shf ?_) | ((first | with_reducible refine split_neg (fun hc => ?_) (fun hc => ?_) | refine split (fun hc => ?_) (fun hc => ?_)) <;> (try simp only [bsl, true_implies, false_implies, Int.reduceEq, Int.reduceLT, Int.reduceLE, Nat.reduceLT, Nat.reduceEqDiff] at hc) <;> try first | (exfalso; omega) | exact btf hc | exact bft hc) | refine fact_in (fun hby => ?_) | refine un_rfl ?_ | refine stp ?_ | exact obs | with_reducible refine And.intro ?_ ?_ | refine nrm ?_ | apply row_eq | refine cte ?_ | refine ctd ?_ | refine cse ?_ | refine csd ?_ | refine wrp ?_ | refine stq ?_ | refine cps ?_ | refine opn ?_ | exact eqs | (intro _; rfl))
 refine loop_rule (α := Nat) [4, 5] 4 (fun i => [.bsl 3 (charC (kindC n) (cs.take i)).length, .int .i64 i]) (fun i => [.cells 47 [.int .u8 n, .slc 1 (cs.map u32Row) cap], .cells 49 [.int .u32 0, .str []], .cells 49 [.int .u32 (kindC n), .str []], .mk 3 1 ((charC (kindC n) (cs.take i)).map i64Row)]) (fun i => i ≤ cs.length ∧ i ≤ 40) (fun i => 40 - i) (0) (fun _ => rfl) (by decide) ?_
 ((refine run ?_); conv => whnf)
 refine goal_in ⟨?_, fit_eq ?_, sto_take (n := 4) (Nat.le_of_ble_eq_true rfl) ?_⟩ (fun i hinv => ?_)
 ·exact ⟨Nat.zero_le _, Nat.zero_le _⟩
 ·rfl
 ·rfl
 obtain ⟨h1, h2⟩ := hinv
 have hlen := charC_len (kindC n) cs i
 by_cases hi : i < cs.length ∧ i < 40
 ·have hc0 := hcs _ (nth_mem hi.1)
  have hs := charC_step (k := kindC n) hi.1
  repeat' (first | (apply run; conv => whnf) | (with_reducible first | refine snt ?_ | refine snf ?_ | refine sht ?_ | refine shf ?_) | ((first | with_reducible refine split_neg (fun hc => ?_) (fun hc => ?_) | refine split (fun hc => ?_) (fun hc => ?_)) <;> (try simp only [bsl, true_implies, false_implies, Int.reduceEq, Int.reduceLT, Int.reduceLE, Nat.reduceLT, Nat.reduceEqDiff] at hc) <;> try first | (exfalso; omega) | exact btf hc | exact bft hc) | refine fact_in (fun hby => ?_) | refine un_rfl ?_ | refine stp ?_ | exact obs | with_reducible refine And.intro ?_ ?_ | refine nrm ?_ | apply row_eq | refine cte ?_ | refine ctd ?_ | refine cse ?_ | refine csd ?_ | refine wrp ?_ | refine stq ?_ | refine cps ?_ | refine opn ?_ | exact eqs | (intro _; rfl))
  ·have hp : pickC (kindC n) (nth cs i) = [nth cs i % 1114112 % 128] := by unfold pickC; rw [if_neg (fun h => bool_tf h (by assumption)), if_pos (by assumption)]
   refine meet_eq (i + 1) ?_ ?_ (Nat.le_of_ble_eq_true rfl) ?_
   ·exact ⟨by dsimp only; omega, by dsimp only; omega⟩
   ·rw [hs, hp]; simp
   ·rw [hs, hp]; simp [i64Row]
  ·have hp : pickC (kindC n) (nth cs i) = [] := by unfold pickC; rw [if_neg (fun h => bool_tf h (by assumption)), if_neg (fun h => bool_tf h (by assumption))]
   refine meet_eq (i + 1) ?_ ?_ (Nat.le_of_ble_eq_true rfl) ?_
   ·exact ⟨by dsimp only; omega, by dsimp only; omega⟩
   ·rw [hs, hp]; simp
   ·rw [hs, hp]; simp
  ·have hp : pickC (kindC n) (nth cs i) = [nth cs i % 1114112] := by unfold pickC; rw [if_pos (by assumption)]
   refine meet_eq (i + 1) ?_ ?_ (Nat.le_of_ble_eq_true rfl) ?_
   ·exact ⟨by dsimp only; omega, by dsimp only; omega⟩
   ·rw [hs, hp]; simp
   ·rw [hs, hp]; simp [i64Row]
 ·have he : cs.take i = cs.take 40 := by
    by_cases h : i = 40
    ·rw [h]
    ·rw [List.take_of_length_le (by omega), List.take_of_length_le (by omega)]
  have hok : okC (charC (kindC n) (cs.take i)) := ⟨fun c hc => hasB_bd (List.all_eq_true.1 charC_has c hc), by omega⟩
  repeat' (first | (apply run; conv => whnf) | (with_reducible first | refine snt ?_ | refine snf ?_ | refine sht ?_ | refine shf ?_) | ((first | with_reducible refine split_neg (fun hc => ?_) (fun hc => ?_) | refine split (fun hc => ?_) (fun hc => ?_)) <;> (try simp only [bsl, true_implies, false_implies, Int.reduceEq, Int.reduceLT, Int.reduceLE, Nat.reduceLT, Nat.reduceEqDiff] at hc) <;> try first | (exfalso; omega) | exact btf hc | exact bft hc) | refine fact_in (fun hby => ?_) | refine un_rfl ?_ | refine stp ?_ | exact obs | with_reducible refine And.intro ?_ ?_ | refine nrm ?_ | apply row_eq | refine cte ?_ | refine ctd ?_ | refine cse ?_ | refine csd ?_ | refine wrp ?_ | refine stq ?_ | refine cps ?_ | refine opn ?_ | exact eqs | (intro _; rfl))
  refine ret_eq ?_ (by rfl)
  rw [he]; rfl
def charsOK (n : Nat) (cs : List Int) : Prop := n < 256 ∧ (∀ c, c ∈ cs → 0 ≤ c ∧ c ≤ 4294967295) ∧ (cs.length : Int) ≤ 9223372036854775807
/-! The text of a C is valid. -/
theorem decAt_enc {c : Int} {r : List UInt8} (h : 0 ≤ c ∧ c ≤ 1114111) (hs : ¬ (55296 ≤ c ∧ c < 57344)) : decAt (((enc1 c).map fun n => UInt8.ofNat n.toNat) ++ r) 0 = some (c, (enc1 c).length) := by
 have e8 : ∀ n : Int, 0 ≤ n → n ≤ 255 → ((UInt8.ofNat n.toNat).toNat : Int) = n := by
  intro n h0 h1
  rw [UInt8.toNat_ofNat', Nat.mod_eq_of_lt (by omega)]; omega
 unfold decAt enc1
 by_cases h1 : c < 128
 ·simp only [if_pos h1, List.map_cons, List.map_nil, List.cons_append, List.nil_append]
  have e0 : byI (UInt8.ofNat c.toNat :: r) 0 = c := by simp only [byI, nth, List.getD_cons_zero]; exact e8 _ (by omega) (by omega)
  rw [e0]
  unfold cls
  rw [if_pos h1]
  simp only [Option.bind_some, contF]
  rw [if_pos (by simp), if_neg (by simp only [badC, decide_eq_true_eq]; omega)]
  rfl
 ·by_cases h2 : c < 2048
  ·simp only [if_neg h1, if_pos h2, List.map_cons, List.map_nil, List.cons_append, List.nil_append]
   have e0 : byI (UInt8.ofNat (192 + c / 64).toNat :: UInt8.ofNat (128 + c % 64).toNat :: r) 0 = 192 + c / 64 := by simp only [byI, nth, List.getD_cons_zero]; exact e8 _ (by omega) (by omega)
   have e1 : byI (UInt8.ofNat (192 + c / 64).toNat :: UInt8.ofNat (128 + c % 64).toNat :: r) (0 + (0 + 1)) = 128 + c % 64 := by simp only [byI, nth, Nat.zero_add, List.getD_cons_succ, List.getD_cons_zero]; exact e8 _ (by omega) (by omega)
   rw [e0]
   unfold cls
   rw [if_neg (by omega), if_pos (by omega)]
   simp only [Option.bind_some, contF, e1]
   rw [if_pos (by simp), if_neg (by omega)]
   simp only [Option.bind_some]
   rw [if_neg (by simp only [badC, decide_eq_true_eq]; omega)]
   simp only [List.length_cons, List.length_nil, Option.some.injEq, Prod.mk.injEq, and_true]
   omega
  ·by_cases h3 : c < 65536
   ·simp only [if_neg h1, if_neg h2, if_pos h3, List.map_cons, List.map_nil, List.cons_append, List.nil_append]
    generalize hl : (UInt8.ofNat (224 + c / 4096).toNat :: UInt8.ofNat (128 + c / 64 % 64).toNat :: UInt8.ofNat (128 + c % 64).toNat :: r) = l
    have e0 : byI l 0 = 224 + c / 4096 := by subst hl; simp only [byI, nth, List.getD_cons_zero]; exact e8 _ (by omega) (by omega)
    have e1 : byI l 1 = 128 + c / 64 % 64 := by subst hl; simp only [byI, nth, List.getD_cons_succ, List.getD_cons_zero]; exact e8 _ (by omega) (by omega)
    have e2 : byI l 2 = 128 + c % 64 := by subst hl; simp only [byI, nth, List.getD_cons_succ, List.getD_cons_zero]; exact e8 _ (by omega) (by omega)
    have el : 2 < l.length := by subst hl; simp
    rw [e0]
    unfold cls
    rw [if_neg (by omega), if_neg (by omega), if_pos (by omega)]
    simp only [Option.bind_some, contF, Nat.zero_add, Nat.reduceAdd, e1, e2]
    rw [if_pos (by omega), if_neg (by omega)]
    simp only [Option.bind_some]
    rw [if_neg (by omega)]
    simp only [Option.bind_some]
    rw [if_neg (by simp only [badC, decide_eq_true_eq]; omega)]
    simp only [List.length_cons, List.length_nil, Option.some.injEq, Prod.mk.injEq, and_true]
    omega
   ·simp only [if_neg h1, if_neg h2, if_neg h3, List.map_cons, List.map_nil, List.cons_append, List.nil_append]
    generalize hl : (UInt8.ofNat (240 + c / 262144).toNat :: UInt8.ofNat (128 + c / 4096 % 64).toNat :: UInt8.ofNat (128 + c / 64 % 64).toNat :: UInt8.ofNat (128 + c % 64).toNat :: r) = l
    have e0 : byI l 0 = 240 + c / 262144 := by subst hl; simp only [byI, nth, List.getD_cons_zero]; exact e8 _ (by omega) (by omega)
    have e1 : byI l 1 = 128 + c / 4096 % 64 := by subst hl; simp only [byI, nth, List.getD_cons_succ, List.getD_cons_zero]; exact e8 _ (by omega) (by omega)
    have e2 : byI l 2 = 128 + c / 64 % 64 := by subst hl; simp only [byI, nth, List.getD_cons_succ, List.getD_cons_zero]; exact e8 _ (by omega) (by omega)
    have e3 : byI l 3 = 128 + c % 64 := by subst hl; simp only [byI, nth, List.getD_cons_succ, List.getD_cons_zero]; exact e8 _ (by omega) (by omega)
    have el : 3 < l.length := by subst hl; simp
    rw [e0]
    unfold cls
    rw [if_neg (by omega), if_neg (by omega), if_neg (by omega), if_pos (by omega)]
    simp only [Option.bind_some, contF, Nat.zero_add, Nat.reduceAdd, e1, e2, e3]
    rw [if_pos (by omega), if_neg (by omega)]
    simp only [Option.bind_some]
    rw [if_neg (by omega)]
    simp only [Option.bind_some]
    rw [if_neg (by omega)]
    simp only [Option.bind_some]
    rw [if_neg (by simp only [badC, decide_eq_true_eq]; omega)]
    simp only [List.length_cons, List.length_nil, Option.some.injEq, Prod.mk.injEq, and_true]
    omega
theorem decS_cons {t : List UInt8} {c : Int} {n : Nat} (h : decAt t 0 = some (c, n)) : decS t = (decS (t.drop n)).map (c :: ·) := by
 have hp := decAt_pos h
 dsimp only at hp
 unfold decS
 obtain ⟨m, hm⟩ : ∃ m, t.length = m + 1 := ⟨t.length - 1, by omega⟩
 rw [hm]
 simp only [decL, h]
 rw [if_pos (by omega)]
 simp only [Option.bind_some, Nat.zero_add]
 rw [decL_drop, List.length_drop, Nat.add_zero, hm, decL_fuel (f := m) (g := m + 1 - n) (by omega) (by omega)]
theorem decS_enc : ∀ {l : List Int}, (∀ c, c ∈ l → (0 ≤ c ∧ c ≤ 1114111) ∧ ¬ (55296 ≤ c ∧ c < 57344)) → decS (encS l) = some l
 | [], _ => rfl
 | c :: l, h => by
  have hc := h c List.mem_cons_self
  have e : encS (c :: l) = ((enc1 c).map fun n => UInt8.ofNat n.toNat) ++ encS l := by simp [encS, encI]
  rw [e, decS_cons (decAt_enc hc.1 hc.2), List.drop_left' (by simp), decS_enc fun d hd => h d (List.mem_cons_of_mem _ hd)]
  rfl
theorem has_ok {k c : Int} (h : hasB k c = true) : (0 ≤ c ∧ c ≤ 1114111) ∧ ¬ (55296 ≤ c ∧ c < 57344) := by
 unfold hasB at h
 simp only [Bool.and_eq_true, decide_eq_true_eq] at h
 omega
theorem dec_text (n : Nat) (cs : List Int) : decS (textC n cs) = some (charC (kindC n) (cs.take 40)) := decS_enc fun c hc => has_ok (List.all_eq_true.1 charC_has c hc)
theorem kindC_ne (n : Nat) : kindI (kindC n) ≠ 0 := by
 unfold kindC
 have h : n % 5 = 0 ∨ n % 5 = 1 ∨ n % 5 = 2 ∨ n % 5 = 3 ∨ n % 5 = 4 := by omega
 rcases h with h | h | h | h | h <;> rw [h] <;> decide
theorem text_len (n : Nat) (cs : List Int) : (textC n cs).length ≤ 160 := by
 have h1 := encI_len' (charC (kindC n) (cs.take 40))
 have h2 := charC_len (kindC n) (cs.take 40) (cs.take 40).length
 rw [List.take_length] at h2
 have h3 : (cs.take 40).length ≤ 40 := by simp; omega
 simp only [textC, encS, List.length_map]
 omega
theorem check_text (n : Nat) (cs : List Int) : checkI (kindC n) (textC n cs) = 0 := by
 have h := text_len n cs
 unfold checkI decT
 rw [if_neg (kindC_ne n), if_neg (by omega), dec_text]
 simp [charC_has]
end Go.Proofs.YtaajfbcopafkaaaGreatDoor.Ai
