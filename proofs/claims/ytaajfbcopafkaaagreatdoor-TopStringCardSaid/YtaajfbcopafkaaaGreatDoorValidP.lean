/- When a text is valid UTF-8, step by step. Own work of this seat. -/
import Derived.Test.YtaajfbcopafkaaaGreatDoorWord
namespace Go.Proofs.YtaajfbcopafkaaaGreatDoor.Ai
open Go
set_option linter.unusedSimpArgs false
set_option linter.unusedVariables false
set_option maxHeartbeats 4000000
set_option maxRecDepth 100000
theorem nth_drop {α : Type} [Inhabited α] {l : List α} {i j : Nat} : nth (l.drop i) j = nth l (i + j) := by
 unfold nth
 rw [List.getD_eq_getElem?_getD, List.getD_eq_getElem?_getD, List.getElem?_drop]
theorem decAt_pos {s : List UInt8} {i : Nat} {p : Int × Nat} (h : decAt s i = some p) : 0 < p.2 ∧ i + p.2 ≤ s.length := by
 unfold decAt at h
 obtain ⟨q, e1, e2⟩ := Option.bind_eq_some_iff.1 h
 split at e2
 ·obtain ⟨c, e3, e4⟩ := Option.bind_eq_some_iff.1 e2
  split at e4
  ·cases e4
  ·simp only [Option.some.injEq] at e4; subst e4; dsimp only; omega
 ·cases e2
theorem contF_drop {s : List UInt8} {i : Nat} {c : Int} : ∀ {k : Nat}, contF (s.drop i) 0 c k = contF s i c k
 | 0 => rfl
 | k + 1 => by
  have e : byI (s.drop i) (0 + (k + 1)) = byI s (i + (k + 1)) := by simp only [byI, nth_drop, Nat.zero_add]
  simp only [contF, contF_drop (k := k), e]
theorem decAt_drop {s : List UInt8} {i : Nat} : decAt (s.drop i) 0 = decAt s i := by
 have e : byI (s.drop i) 0 = byI s i := by simp only [byI, nth_drop, Nat.add_zero]
 unfold decAt
 rw [e]
 cases cls (byI s i) with
 | none => rfl
 | some p =>
  simp only [Option.bind_some, List.length_drop]
  rw [contF_drop]
  by_cases h : i + p.1 < s.length
  ·rw [if_pos h, if_pos (by omega)]
  ·rw [if_neg h, if_neg (by omega)]
theorem decL_fuel {s : List UInt8} : ∀ {f g i : Nat}, s.length ≤ i + f → s.length ≤ i + g → decL s f i = decL s g i
 | 0, 0, _, _, _ => rfl
 | 0, g + 1, i, h, _ => by simp only [decL]; rw [if_neg (by omega)]
 | f + 1, 0, i, _, h => by simp only [decL]; rw [if_neg (by omega)]
 | f + 1, g + 1, i, h, h' => by
  simp only [decL]
  split
  ·cases hd : decAt s i with
   | none => rfl
   | some p =>
    have := decAt_pos hd
    simp only [Option.bind_some]
    rw [decL_fuel (f := f) (g := g) (by omega) (by omega)]
  ·rfl
theorem decL_drop {s : List UInt8} {i : Nat} : ∀ {f j : Nat}, decL (s.drop i) f j = decL s f (i + j)
 | 0, _ => rfl
 | f + 1, j => by
  have e : decAt (s.drop i) j = decAt s (i + j) := by rw [← decAt_drop, List.drop_drop, decAt_drop]
  simp only [decL, e, List.length_drop]
  by_cases h : i + j < s.length
  ·rw [if_pos h, if_pos (by omega)]
   congr 1
   funext p
   rw [decL_drop (f := f), Nat.add_assoc]
  ·rw [if_neg h, if_neg (by omega)]
def okS (t : List UInt8) : Bool := (decS t).isSome
theorem okS_step {t : List UInt8} (h : 0 < t.length) : okS t = match decAt t 0 with | none => false | some p => okS (t.drop p.2) := by
 unfold okS decS
 obtain ⟨n, hn⟩ : ∃ n, t.length = n + 1 := ⟨t.length - 1, by omega⟩
 rw [hn]
 simp only [decL]
 rw [if_pos h]
 cases hd : decAt t 0 with
 | none => rfl
 | some p =>
  have hp := decAt_pos hd
  simp only [Option.bind_some, Option.isSome_map, List.length_drop]
  rw [decL_drop, Nat.add_zero, Nat.zero_add, hn, decL_fuel (f := n) (g := n + 1 - p.2) (by omega) (by omega)]
theorem okS_asc {t : List UInt8} (h : 0 < t.length) (h0 : (nth t 0).toNat < 128) : okS t = okS (t.drop 1) := by
 rw [okS_step h]
 have : decAt t 0 = some (byI t 0, 1) := by
  have hb : byI t 0 < 128 := by simp only [byI]; omega
  unfold decAt cls
  rw [if_pos hb]
  simp only [Option.bind_some, contF]
  have hb0 : 0 ≤ byI t 0 := by simp only [byI]; omega
  rw [if_pos (by omega), if_neg (by simp only [badC, decide_eq_true_eq]; omega)]
 rw [this]
theorem okS_ascs {t : List UInt8} : ∀ {k : Nat}, k ≤ t.length → (∀ j, j < k → (nth t j).toNat < 128) → okS t = okS (t.drop k)
 | 0, _, _ => rfl
 | k + 1, h, hj => by
  rw [okS_ascs (k := k) (by omega) fun j h => hj j (by omega), okS_asc (t := t.drop k) (by rw [List.length_drop]; omega) (by rw [nth_drop]; exact hj _ (by omega)), List.drop_drop]
/-- How many bytes the first character has, behind a byte from 128 on; 0 if it is none. -/
def leadN (t : List UInt8) : Nat :=
 let b := (nth t 0).toNat
 let c := (nth t 1).toNat
 let d := (nth t 2).toNat
 let e := (nth t 3).toNat
 if b < 194 then 0 else if b < 224 then (if 2 ≤ t.length ∧ 128 ≤ c ∧ c ≤ 191 then 2 else 0)
 else if b < 240 then (if 3 ≤ t.length ∧ (if b = 224 then 160 else 128) ≤ c ∧ c ≤ (if b = 237 then 159 else 191) ∧ 128 ≤ d ∧ d ≤ 191 then 3 else 0)
 else if b < 245 then (if 4 ≤ t.length ∧ (if b = 240 then 144 else 128) ≤ c ∧ c ≤ (if b = 244 then 143 else 191) ∧ 128 ≤ d ∧ d ≤ 191 ∧ 128 ≤ e ∧ e ≤ 191 then 4 else 0)
 else 0
theorem decAt_lead {t : List UInt8} (h : 0 < t.length) (h0 : 128 ≤ (nth t 0).toNat) : (decAt t 0).map (·.2) = if leadN t = 0 then none else some (leadN t) := by
 have hc := (nth t 1).toNat_lt; have hd := (nth t 2).toNat_lt; have he := (nth t 3).toNat_lt
 unfold decAt
 simp only [byI]
 unfold cls
 rw [if_neg (by omega)]
 by_cases h1 : (nth t 0).toNat < 194
 ·have hL : leadN t = 0 := by simp only [leadN]; rw [if_pos h1]
  rw [if_neg (by omega), if_neg (by omega), if_neg (by omega), hL]; rfl
 ·by_cases h2 : (nth t 0).toNat < 224
  ·rw [if_pos (by omega)]
   simp only [Option.bind_some, contF, Nat.zero_add, Nat.reduceAdd, byI]
   by_cases hl : 2 ≤ t.length
   ·rw [if_pos (by omega)]
    by_cases hk : 128 ≤ (nth t 1).toNat ∧ (nth t 1).toNat ≤ 191
    ·have hL : leadN t = 2 := by simp only [leadN]; rw [if_neg h1, if_pos h2, if_pos ⟨hl, hk⟩]
     rw [if_neg (by omega)]
     simp only [Option.bind_some]
     rw [if_neg (by simp only [badC, decide_eq_true_eq]; omega), hL]; rfl
    ·have hL : leadN t = 0 := by simp only [leadN]; rw [if_neg h1, if_pos h2, if_neg (fun h => hk h.2)]
     rw [if_pos (by omega), hL]; rfl
   ·have hL : leadN t = 0 := by simp only [leadN]; rw [if_neg h1, if_pos h2, if_neg (fun h => hl h.1)]
    rw [if_neg (by omega), hL]; rfl
  ·rw [if_neg (by omega)]
   by_cases h3 : (nth t 0).toNat < 240
   ·rw [if_pos (by omega)]
    simp only [Option.bind_some, contF, Nat.zero_add, Nat.reduceAdd, byI]
    by_cases hl : 3 ≤ t.length
    ·rw [if_pos (by omega)]
     by_cases hk : (if (nth t 0).toNat = 224 then 160 else 128) ≤ (nth t 1).toNat ∧ (nth t 1).toNat ≤ (if (nth t 0).toNat = 237 then 159 else 191) ∧ 128 ≤ (nth t 2).toNat ∧ (nth t 2).toNat ≤ 191
     ·have hL : leadN t = 3 := by simp only [leadN]; rw [if_neg h1, if_neg h2, if_pos h3, if_pos ⟨hl, hk⟩]
      obtain ⟨a1, a2, a3, a4⟩ := hk
      have a5 : 128 ≤ (nth t 1).toNat := by split at a1 <;> omega
      have a6 : (nth t 1).toNat ≤ 191 := by split at a2 <;> omega
      rw [if_neg (by omega)]
      simp only [Option.bind_some]
      rw [if_neg (by omega)]
      simp only [Option.bind_some]
      rw [if_neg (by simp only [badC, decide_eq_true_eq]; split at a1 <;> split at a2 <;> omega), hL]; rfl
     ·have hL : leadN t = 0 := by simp only [leadN]; rw [if_neg h1, if_neg h2, if_pos h3, if_neg (fun h => hk h.2)]
      rw [hL]
      by_cases b1 : ((nth t 1).toNat : Int) < 128 ∨ 191 < ((nth t 1).toNat : Int)
      ·rw [if_pos b1]; rfl
      ·rw [if_neg b1]
       simp only [Option.bind_some]
       by_cases b2 : ((nth t 2).toNat : Int) < 128 ∨ 191 < ((nth t 2).toNat : Int)
       ·rw [if_pos b2]; rfl
       ·rw [if_neg b2]
        simp only [Option.bind_some]
        rw [if_pos (by
         simp only [badC, decide_eq_true_eq]
         by_cases e1 : (nth t 0).toNat = 224
         ·rw [if_pos e1, if_neg (by omega)] at hk; omega
         ·by_cases e2 : (nth t 0).toNat = 237
          ·rw [if_neg e1, if_pos e2] at hk; omega
          ·rw [if_neg e1, if_neg e2] at hk; omega)]
        rfl
    ·have hL : leadN t = 0 := by simp only [leadN]; rw [if_neg h1, if_neg h2, if_pos h3, if_neg (fun h => hl h.1)]
     rw [if_neg (by omega), hL]; rfl
   ·rw [if_neg (by omega)]
    by_cases h4 : (nth t 0).toNat < 245
    ·rw [if_pos (by omega)]
     simp only [Option.bind_some, contF, Nat.zero_add, Nat.reduceAdd, byI]
     by_cases hl : 4 ≤ t.length
     ·rw [if_pos (by omega)]
      by_cases hk : (if (nth t 0).toNat = 240 then 144 else 128) ≤ (nth t 1).toNat ∧ (nth t 1).toNat ≤ (if (nth t 0).toNat = 244 then 143 else 191) ∧ 128 ≤ (nth t 2).toNat ∧ (nth t 2).toNat ≤ 191 ∧ 128 ≤ (nth t 3).toNat ∧ (nth t 3).toNat ≤ 191
      ·have hL : leadN t = 4 := by simp only [leadN]; rw [if_neg h1, if_neg h2, if_neg h3, if_pos h4, if_pos ⟨hl, hk⟩]
       obtain ⟨a1, a2, a3, a4, a7, a8⟩ := hk
       have a5 : 128 ≤ (nth t 1).toNat := by split at a1 <;> omega
       have a6 : (nth t 1).toNat ≤ 191 := by split at a2 <;> omega
       rw [if_neg (by omega)]
       simp only [Option.bind_some]
       rw [if_neg (by omega)]
       simp only [Option.bind_some]
       rw [if_neg (by omega)]
       simp only [Option.bind_some]
       rw [if_neg (by simp only [badC, decide_eq_true_eq]; split at a1 <;> split at a2 <;> omega), hL]; rfl
      ·have hL : leadN t = 0 := by simp only [leadN]; rw [if_neg h1, if_neg h2, if_neg h3, if_pos h4, if_neg (fun h => hk h.2)]
       rw [hL]
       by_cases b1 : ((nth t 1).toNat : Int) < 128 ∨ 191 < ((nth t 1).toNat : Int)
       ·rw [if_pos b1]; rfl
       ·rw [if_neg b1]
        simp only [Option.bind_some]
        by_cases b2 : ((nth t 2).toNat : Int) < 128 ∨ 191 < ((nth t 2).toNat : Int)
        ·rw [if_pos b2]; rfl
        ·rw [if_neg b2]
         simp only [Option.bind_some]
         by_cases b3 : ((nth t 3).toNat : Int) < 128 ∨ 191 < ((nth t 3).toNat : Int)
         ·rw [if_pos b3]; rfl
         ·rw [if_neg b3]
          simp only [Option.bind_some]
          rw [if_pos (by
           simp only [badC, decide_eq_true_eq]
           by_cases e1 : (nth t 0).toNat = 240
           ·rw [if_pos e1, if_neg (by omega)] at hk; omega
           ·by_cases e2 : (nth t 0).toNat = 244
            ·rw [if_neg e1, if_pos e2] at hk; omega
            ·rw [if_neg e1, if_neg e2] at hk; omega)]
          rfl
     ·have hL : leadN t = 0 := by simp only [leadN]; rw [if_neg h1, if_neg h2, if_neg h3, if_pos h4, if_neg (fun h => hl h.1)]
      rw [if_neg (by omega), hL]; rfl
    ·have hL : leadN t = 0 := by simp only [leadN]; rw [if_neg h1, if_neg h2, if_neg h3, if_neg h4]
     rw [if_neg (by omega), hL]; rfl
theorem okS_lead {t : List UInt8} (h : 0 < t.length) (h0 : 128 ≤ (nth t 0).toNat) : okS t = if leadN t = 0 then false else okS (t.drop (leadN t)) := by
 rw [okS_step h]
 have := decAt_lead h h0
 cases hd : decAt t 0 with
 | none =>
  rw [hd] at this
  split at this
  ·rename_i e; rw [if_pos e]
  ·cases this
 | some p =>
  rw [hd] at this
  split at this
  ·cases this
  ·rename_i e
   rw [if_neg e]
   simp only [Option.map_some, Option.some.injEq] at this
   rw [← this]
/-! The table of the first bytes. -/
theorem first_pure : ∀ n : Fin 256, nth utf8First n.1 = if n.1 < 128 then 240 else if n.1 < 194 then 241 else if n.1 < 224 then 2 else if n.1 = 224 then 19 else if n.1 = 237 then 35 else if n.1 < 240 then 3 else if n.1 = 240 then 52 else if n.1 < 244 then 4 else if n.1 = 244 then 68 else 241 := by decide +kernel
theorem first_at {n : Nat} (h : n < 256) : nth utf8First n = if n < 128 then 240 else if n < 194 then 241 else if n < 224 then 2 else if n = 224 then 19 else if n = 237 then 35 else if n < 240 then 3 else if n = 240 then 52 else if n < 244 then 4 else if n = 244 then 68 else 241 := first_pure ⟨n, h⟩
end Go.Proofs.YtaajfbcopafkaaaGreatDoor.Ai
