/- Chapter 9: reading undoes writing, and the other way. Own work of this seat. -/
import Derived.Test.YtaajfbcopafkaaaGreatDoorLawA
namespace Go.Proofs.YtaajfbcopafkaaaGreatDoor.Ai
open Go
set_option linter.unusedSimpArgs false
set_option linter.unusedVariables false
set_option maxHeartbeats 4000000
set_option maxRecDepth 100000
attribute [local irreducible] decodeL
theorem getE_zero {k : Int} {b : List UInt8} (h : getE k b = 0) : kindI k ≠ 0 ∧ ¬ 131072 < b.length ∧ ∃ l, getC k b = some l ∧ l.all (hasB k) = true ∧ (encS l).length ≤ 65536 ∧ getT k b = encS l := by
 have hT : getT k b = encS ((getC k b).getD []) := by simp [getT, h]
 unfold getE at h
 split at h
 ·omega
 ·rename_i h1
  split at h
  ·omega
  ·rename_i h2
   split at h
   ·omega
   ·rename_i l hl
    split at h
    ·omega
    ·rename_i h3
     split at h
     ·omega
     ·exact ⟨h1, h2, l, hl, by simpa using h3, by omega, by rw [hT, hl]; rfl⟩
theorem check_enc {k : Int} {l : List Int} (hk : kindI k ≠ 0) (hl : l.all (hasB k) = true) (hn : (encS l).length ≤ 65536) : checkI k (encS l) = 0 ∧ decS (encS l) = some l := by
 have hd := decS_enc fun c hc => has_ok (List.all_eq_true.1 hl c hc)
 refine ⟨?_, hd⟩
 unfold checkI decT
 rw [if_neg hk, if_neg (by omega), hd]
 simp [hl]
theorem putL_pairs : ∀ {b : List UInt8}, b.length % 2 = 0 → (putL 30 (pairs b)).map (fun n => UInt8.ofNat n.toNat) = b
 | [], _ => rfl
 | [a], h => by simp at h
 | a :: c :: r, h => by
  have ih := putL_pairs (b := r) (by simp at h; omega)
  have ha := a.toNat_lt; have hc := c.toNat_lt
  have e1 : (256 * (a.toNat : Int) + (c.toNat : Int)) / 256 % 256 = (a.toNat : Int) := by omega
  have e2 : (256 * (a.toNat : Int) + (c.toNat : Int)) % 256 = (c.toNat : Int) := by omega
  simp only [pairs, putL, List.map_cons, List.flatten_cons, putOne, if_true, List.map_append, List.map_nil, e1, e2] at ih ⊢
  simp only [Int.toNat_natCast, UInt8.ofNat_toNat, List.cons_append, List.nil_append]
  rw [ih]
theorem putL_bytes {k : Int} (hk : k ≠ 30) (b : List UInt8) : (putL k (b.map fun x => (x.toNat : Int))).map (fun n => UInt8.ofNat n.toNat) = b := by
 induction b with
 | nil => rfl
 | cons a r ih =>
  have ha := a.toNat_lt
  have e1 : (a.toNat : Int) % 256 = (a.toNat : Int) := by omega
  simp only [putL, List.map_cons, List.flatten_cons, putOne, if_neg hk, List.map_append, List.map_nil, e1] at ih ⊢
  rw [ih]
  simp
/-- What was read is written again. -/
theorem get_put {k : Int} {b : List UInt8} (h : getE k b = 0) : checkI k (getT k b) = 0 ∧ putR k (getT k b) = b ∧ (getT k b).length ≤ 65536 := by
 obtain ⟨hk, hb, l, hC, hl, hn, hT⟩ := getE_zero h
 obtain ⟨h1, h2⟩ := check_enc hk hl hn
 rw [hT]
 refine ⟨h1, ?_, hn⟩
 unfold putR
 rw [if_pos h1]
 unfold putI decT
 rw [h2, Option.getD_some]
 unfold getC at hC
 by_cases h12 : k = 12
 ·rw [if_pos h12] at hC ⊢
  exact encS_dec hC
 ·rw [if_neg h12] at hC ⊢
  by_cases h30 : k = 30
  ·rw [if_pos h30] at hC
   split at hC
   ·cases hC
   ·cases hC
    subst h30
    exact putL_pairs (by omega)
  ·rw [if_neg h30] at hC
   cases hC
   exact putL_bytes h30 b
theorem pairs_back : ∀ {l : List Int}, (∀ c, c ∈ l → 0 ≤ c ∧ c ≤ 65535) → pairs ((putL 30 l).map fun n => UInt8.ofNat n.toNat) = l ∧ ((putL 30 l).map fun n => UInt8.ofNat n.toNat).length = 2 * l.length
 | [], _ => ⟨rfl, rfl⟩
 | c :: r, h => by
  obtain ⟨i1, i2⟩ := pairs_back (l := r) fun d hd => h d (List.mem_cons_of_mem _ hd)
  have hc := h c List.mem_cons_self
  have e1 : ((UInt8.ofNat (c / 256 % 256).toNat).toNat : Int) = c / 256 := by
   rw [UInt8.toNat_ofNat', Nat.mod_eq_of_lt (by omega)]; omega
  have e2 : ((UInt8.ofNat (c % 256).toNat).toNat : Int) = c % 256 := by
   rw [UInt8.toNat_ofNat', Nat.mod_eq_of_lt (by omega)]; omega
  have e : (putL 30 (c :: r)).map (fun n => UInt8.ofNat n.toNat) = UInt8.ofNat (c / 256 % 256).toNat :: UInt8.ofNat (c % 256).toNat :: (putL 30 r).map fun n => UInt8.ofNat n.toNat := by simp [putL, putOne]
  rw [e]
  simp only [pairs, e1, e2, i1, List.length_cons, i2]
  exact ⟨by rw [show 256 * (c / 256) + c % 256 = c by omega], by omega⟩
theorem bytes_back2 {k : Int} (hk : k ≠ 30) : ∀ {l : List Int}, (∀ c, c ∈ l → 0 ≤ c ∧ c ≤ 255) → (((putL k l).map fun n => UInt8.ofNat n.toNat).map fun x => (x.toNat : Int)) = l ∧ ((putL k l).map fun n => UInt8.ofNat n.toNat).length = l.length
 | [], _ => ⟨rfl, rfl⟩
 | c :: r, h => by
  obtain ⟨i1, i2⟩ := bytes_back2 hk (l := r) fun d hd => h d (List.mem_cons_of_mem _ hd)
  have hc := h c List.mem_cons_self
  have e1 : ((UInt8.ofNat (c % 256).toNat).toNat : Int) = c := by
   rw [UInt8.toNat_ofNat', Nat.mod_eq_of_lt (by omega)]; omega
  have e : (putL k (c :: r)).map (fun n => UInt8.ofNat n.toNat) = UInt8.ofNat (c % 256).toNat :: (putL k r).map fun n => UInt8.ofNat n.toNat := by simp [putL, putOne, hk]
  rw [e]
  simp only [List.map_cons, e1, i1, List.length_cons, i2, and_self]
theorem has_256 {k c : Int} (h0 : kindI k ≠ 0) (h12 : k ≠ 12) (h30 : k ≠ 30) (h : hasB k c = true) : 0 ≤ c ∧ c ≤ 255 := by
 have hb := hasB_bd h
 rcases kind_cases k with rfl | rfl | rfl | rfl | rfl | hk
 ·exact absurd rfl h12
 ·have h' := h
  rw [← q19] at h'
  simp only [Bool.and_eq_true] at h'
  have hp := h'.2
  unfold hasP at hp
  simp only [others, List.any_cons, List.any_nil, Bool.or_eq_true, decide_eq_true_eq, Bool.or_false] at hp
  have e : ((32 : UInt8).toNat : Int) = 32 ∧ ((39 : UInt8).toNat : Int) = 39 ∧ ((40 : UInt8).toNat : Int) = 40 ∧ ((41 : UInt8).toNat : Int) = 41 ∧ ((43 : UInt8).toNat : Int) = 43 ∧ ((44 : UInt8).toNat : Int) = 44 ∧ ((45 : UInt8).toNat : Int) = 45 ∧ ((46 : UInt8).toNat : Int) = 46 ∧ ((47 : UInt8).toNat : Int) = 47 ∧ ((58 : UInt8).toNat : Int) = 58 ∧ ((61 : UInt8).toNat : Int) = 61 ∧ ((63 : UInt8).toNat : Int) = 63 := by decide
  omega
 ·rw [← q22] at h; simp [btwP] at h; omega
 ·rw [← q26] at h; simp [btwP] at h; omega
 ·exact absurd rfl h30
 ·exact absurd hk h0
/-- What was written is read again. -/
theorem put_get {k : Int} {s : List UInt8} (h : checkI k s = 0) : getE k (putI k s) = 0 ∧ getT k (putI k s) = s ∧ (putI k s).length ≤ 131072 := by
 obtain ⟨hk, hlen, hsome, hall⟩ := checkI_dec h
 obtain ⟨l, hl⟩ := Option.isSome_iff_exists.1 hsome
 rw [decT_of hl] at hall
 have henc := encS_dec hl
 have hll := (decT_bd s).2
 rw [decT_of hl] at hll
 have key : getC k (putI k s) = some l ∧ (putI k s).length ≤ 131072 := by
  unfold putI getC
  rw [decT_of hl]
  by_cases h12 : k = 12
  ·rw [if_pos h12, if_pos h12]; exact ⟨hl, by omega⟩
  ·rw [if_neg h12, if_neg h12]
   by_cases h30 : k = 30
   ·subst h30
    obtain ⟨p1, p2⟩ := pairs_back (l := l) fun c hc => by
     have := List.all_eq_true.1 hall c hc
     rw [← q30] at this
     simp [btwP] at this; omega
    rw [if_pos rfl, p1, p2, if_neg (by omega)]
    exact ⟨rfl, by omega⟩
   ·obtain ⟨p1, p2⟩ := bytes_back2 h30 (l := l) fun c hc => has_256 hk h12 h30 (List.all_eq_true.1 hall c hc)
    rw [if_neg h30, p1, p2]
    exact ⟨rfl, by omega⟩
 have hE : getE k (putI k s) = 0 := by
  unfold getE
  rw [if_neg hk, if_neg (by omega), key.1]
  simp only [hall, henc]
  rw [if_neg (by decide), if_neg (by omega)]
 refine ⟨hE, ?_, key.2⟩
 simp [getT, hE, key.1, henc]
end Go.Proofs.YtaajfbcopafkaaaGreatDoor.Ai
