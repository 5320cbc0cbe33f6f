/- The reference's Check, Put, Get. Own work of this seat. -/
import Derived.Test.YtaajfbcopafkaaaGreatDoorDecode
namespace Go.Proofs.YtaajfbcopafkaaaGreatDoor.Ai
open Go
set_option linter.unusedSimpArgs false
set_option linter.unusedVariables false
set_option maxHeartbeats 4000000
set_option maxRecDepth 100000
theorem decL_bd {s : List UInt8} : ∀ {f i : Nat} {l : List Int}, decL s f i = some l → (∀ c, c ∈ l → 0 ≤ c ∧ c ≤ 1114111) ∧ l.length ≤ f := by
 intro f
 induction f with
 | zero => intro i l h; simp only [decL, Option.some.injEq] at h; subst h; exact ⟨by simp, by simp⟩
 | succ f ih =>
  intro i l h
  simp only [decL] at h
  split at h
  ·obtain ⟨p, h1, h2⟩ := Option.bind_eq_some_iff.1 h
   obtain ⟨m, h3, rfl⟩ := Option.map_eq_some_iff.1 h2
   obtain ⟨h4, h5⟩ := ih h3
   refine ⟨fun c hc => ?_, by simp; omega⟩
   rcases List.mem_cons.1 hc with rfl | hc
   ·unfold decAt at h1
    obtain ⟨q, e1, e2⟩ := Option.bind_eq_some_iff.1 h1
    have hq := cls_bd (byI_bd s i).1 e1
    split at e2
    ·obtain ⟨c, e3, e4⟩ := Option.bind_eq_some_iff.1 e2
     split at e4
     ·cases e4
     ·rename_i hb
      simp only [Option.some.injEq] at e4
      subst e4
      simp only [badC, decide_eq_true_eq] at hb
      dsimp only
      omega
    ·cases e2
   ·exact h4 c hc
  ·simp only [Option.some.injEq] at h; subst h; exact ⟨by simp, by simp⟩
theorem decT_bd (s : List UInt8) : (∀ c, c ∈ decT s → 0 ≤ c ∧ c ≤ 1114111) ∧ (decT s).length ≤ s.length := by
 unfold decT decS
 cases h : decL s s.length 0 with
 | none => exact ⟨by simp, by simp⟩
 | some l => exact decL_bd h
def checkI (k : Int) (s : List UInt8) : Int := if kindI k = 0 then 9 else if 65536 < s.length then 3 else if (decS s).isSome && (decT s).all (hasB k) then 0 else 11
def putOne (k c : Int) : List Int := if k = 30 then [c / 256 % 256, c % 256] else [c % 256]
def putL (k : Int) (l : List Int) : List Int := (l.map (putOne k)).flatten
theorem putL_step {k : Int} {l : List Int} {i : Nat} (h : i < l.length) : putL k (l.take (i + 1)) = putL k (l.take i) ++ putOne k (nth l i) := by unfold putL; rw [take_nth h]; simp
def putI (k : Int) (s : List UInt8) : List UInt8 := if k = 12 then s else (putL k (decT s)).map fun n => UInt8.ofNat n.toNat
theorem putOne_len (k : Int) (l : List Int) : ∀ i, (putL k (l.take i)).length ≤ 2 * i := by
 intro i
 induction i with
 | zero => simp [putL]
 | succ i ih =>
  by_cases h : i < l.length
  ·have : (putOne k (nth l i)).length ≤ 2 := by unfold putOne; split <;> simp
   rw [putL_step h, List.length_append]; omega
  ·have : l.take (i + 1) = l.take i := by rw [List.take_of_length_le (by omega), List.take_of_length_le (by omega)]
   rw [this]; omega
theorem putOne_bd {k : Int} {l : List Int} : ∀ n, n ∈ putL k l → 0 ≤ n ∧ n ≤ 255 := by
 intro n hn
 obtain ⟨m, hm, hn⟩ := List.mem_flatten.1 hn
 obtain ⟨c, _, rfl⟩ := List.mem_map.1 hm
 unfold putOne at hn
 split at hn <;> simp at hn <;> omega
theorem bytes_rows {l : List Int} (h : ∀ n, n ∈ l → 0 ≤ n ∧ n ≤ 255) : (l.map fun n => UInt8.ofNat n.toNat).map bytesRow = l.map u8Row := by
 rw [List.map_map]
 refine List.map_congr_left fun n hn => ?_
 have := h n hn
 have e : (n.toNat % 256 : Nat) = n.toNat := Nat.mod_eq_of_lt (by omega)
 simp [bytesRow, u8Row, UInt8.toNat_ofNat', e]
 omega
def pairs : List UInt8 → List Int
 | a :: b :: r => (256 * (a.toNat : Int) + b.toNat) :: pairs r
 | _ => []
theorem hasB_bd {k c : Int} (h : hasB k c = true) : 0 ≤ c ∧ c ≤ 1114111 := by
 unfold hasB at h
 simp only [Bool.and_eq_true, decide_eq_true_eq] at h
 omega
theorem pairs_len : ∀ b, (pairs b).length = b.length / 2
 | [] => rfl
 | [a] => by simp [pairs]
 | a :: b :: r => by simp [pairs, pairs_len r]; omega
theorem nth_pairs : ∀ {b : List UInt8} {i : Nat}, 2 * i + 1 < b.length → nth (pairs b) i = 256 * ((nth b (2 * i)).toNat : Int) + (nth b (2 * i + 1)).toNat
 | [], i, h => by simp at h
 | [a], i, h => by simp at h
 | a :: b :: r, 0, h => rfl
 | a :: b :: r, i + 1, h => by
  have := nth_pairs (b := r) (i := i) (by simp at h; omega)
  have e1 : nth (pairs (a :: b :: r)) (i + 1) = nth (pairs r) i := rfl
  have e2 : nth (a :: b :: r) (2 * (i + 1)) = nth r (2 * i) := rfl
  have e3 : nth (a :: b :: r) (2 * (i + 1) + 1) = nth r (2 * i + 1) := rfl
  rw [e1, e2, e3]; exact this
/-- What Get returns: the text, and 0 or the error. -/
def getC (k : Int) (b : List UInt8) : Option (List Int) := if k = 12 then decS b else if k = 30 then (if b.length % 2 = 1 then none else some (pairs b)) else some (b.map fun x => (x.toNat : Int))
def getE (k : Int) (b : List UInt8) : Int := if kindI k = 0 then 9 else if 131072 < b.length then 3 else match getC k b with
 | none => 11
 | some l => if l.all (hasB k) = false then 11 else if 65536 < (encS l).length then 3 else 0
def getT (k : Int) (b : List UInt8) : List UInt8 := if getE k b = 0 then encS ((getC k b).getD []) else []
end Go.Proofs.YtaajfbcopafkaaaGreatDoor.Ai
