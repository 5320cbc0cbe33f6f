/- Times as digits: plain facts without a program. Own work of this seat. -/
import Derived.Lib.Bytealg
import Derived.Lib.ItoaMem
namespace Go.Proofs.YtaajfbcopafkaaaGreatDoor.Ai
open Go
set_option linter.unusedSimpArgs false
set_option linter.unusedVariables false
set_option maxHeartbeats 4000000
set_option maxRecDepth 100000
def dgt (n : Int) : UInt8 := UInt8.ofNat (48 + n.toNat)
def dig2 (n : Int) : List UInt8 := [dgt (n / 10), dgt (n % 10)]
def dig4 (n : Int) : List UInt8 := [dgt (n / 1000), dgt (n / 100 % 10), dgt (n / 10 % 10), dgt (n % 10)]
theorem dgt_nat {n : Int} (h : 0 ≤ n ∧ n ≤ 9) : ((dgt n).toNat : Int) = 48 + n := by
  unfold dgt
  rw [UInt8.toNat_ofNat', Nat.mod_eq_of_lt (by omega)]
  omega
theorem dgt_lt {n m : Int} (h : 0 ≤ n ∧ n ≤ 9) (k : 0 ≤ m ∧ m ≤ 9) : (dgt n < dgt m) ↔ n < m := by
  rw [UInt8.lt_iff_toNat_lt]
  have h1 := dgt_nat h
  have h2 := dgt_nat k
  omega
theorem itoa_one {n : Int} (h : 0 ≤ n ∧ n < 10) : Lib.itoa n = [dgt n] := by
  obtain ⟨k, rfl⟩ := Int.eq_ofNat_of_zero_le h.1
  rw [Lib.itoa_nonneg, Lib.decDigits_one (by omega)]
  unfold dgt; simp
theorem itoa_two {n : Int} (h : 10 ≤ n ∧ n < 100) : Lib.itoa n = dig2 n := by
  obtain ⟨k, rfl⟩ := Int.eq_ofNat_of_zero_le (by omega : 0 ≤ n)
  rw [Lib.itoa_nonneg, Lib.decDigits_two (by omega) (by omega)]
  unfold dig2 dgt
  rw [show ((k : Int) / 10).toNat = k / 10 by omega, show ((k : Int) % 10).toNat = k % 10 by omega]
theorem decDigits_big {u : Nat} (h : ¬ u < 10) : Lib.decDigits u = Lib.decDigits (u / 10) ++ [UInt8.ofNat (48 + u % 10)] := by rw [Lib.decDigits, dif_neg h]
theorem itoa_three {n : Int} (h : 100 ≤ n ∧ n < 1000) : Lib.itoa n = [dgt (n / 100), dgt (n / 10 % 10), dgt (n % 10)] := by
  obtain ⟨k, rfl⟩ := Int.eq_ofNat_of_zero_le (by omega : 0 ≤ n)
  rw [Lib.itoa_nonneg, decDigits_big (by omega), Lib.decDigits_two (by omega) (by omega)]
  unfold dgt
  rw [show ((k : Int) / 100).toNat = k / 10 / 10 by omega, show ((k : Int) / 10 % 10).toNat = k / 10 % 10 by omega, show ((k : Int) % 10).toNat = k % 10 by omega]
  rfl
theorem itoa_four {n : Int} (h : 1000 ≤ n ∧ n < 10000) : Lib.itoa n = dig4 n := by
  obtain ⟨k, rfl⟩ := Int.eq_ofNat_of_zero_le (by omega : 0 ≤ n)
  rw [Lib.itoa_nonneg, decDigits_big (by omega), decDigits_big (by omega), Lib.decDigits_two (by omega) (by omega)]
  unfold dig4 dgt
  rw [show ((k : Int) / 1000).toNat = k / 10 / 10 / 10 by omega, show ((k : Int) / 100 % 10).toNat = k / 10 / 10 % 10 by omega, show ((k : Int) / 10 % 10).toNat = k / 10 % 10 by omega, show ((k : Int) % 10).toNat = k % 10 by omega]
  rfl
/-- Compare of two numbers. -/
def cmpZ (n m : Int) : Int := if n < m then -1 else if m < n then 1 else 0
def thenZ (a b : Int) : Int := if a = 0 then b else a
theorem cmp_dgt {n m : Int} (h : 0 ≤ n ∧ n ≤ 9) (k : 0 ≤ m ∧ m ≤ 9) (x y : List UInt8) : Lib.compareBytes (dgt n :: x) (dgt m :: y) = thenZ (cmpZ n m) (Lib.compareBytes x y) := by
  simp only [Lib.compareBytes, dgt_lt h k, dgt_lt k h]
  unfold thenZ cmpZ
  by_cases h1 : n < m
  · simp [h1]
  · by_cases h2 : m < n
    · simp [h1, h2]
    · simp [h1, h2]
theorem then_two {n m c : Int} : thenZ (cmpZ (n / 10) (m / 10)) (thenZ (cmpZ (n % 10) (m % 10)) c) = thenZ (cmpZ n m) c := by
  unfold thenZ cmpZ
  repeat' split
  all_goals first | rfl | (exfalso; omega)
theorem cmp_dig2 {n m : Int} (h : 0 ≤ n ∧ n ≤ 99) (k : 0 ≤ m ∧ m ≤ 99) (x y : List UInt8) : Lib.compareBytes (dig2 n ++ x) (dig2 m ++ y) = thenZ (cmpZ n m) (Lib.compareBytes x y) := by
  simp only [dig2, List.cons_append, List.nil_append]
  rw [cmp_dgt (by omega) (by omega), cmp_dgt (by omega) (by omega), then_two]
theorem cmp_dig4 {n m : Int} (h : 0 ≤ n ∧ n ≤ 9999) (k : 0 ≤ m ∧ m ≤ 9999) (x y : List UInt8) : Lib.compareBytes (dig4 n ++ x) (dig4 m ++ y) = thenZ (cmpZ n m) (Lib.compareBytes x y) := by
  simp only [dig4, List.cons_append, List.nil_append]
  rw [cmp_dgt (by omega) (by omega), cmp_dgt (by omega) (by omega), cmp_dgt (by omega) (by omega), cmp_dgt (by omega) (by omega)]
  rw [show n / 100 % 10 = n / 10 / 10 % 10 by omega, show m / 100 % 10 = m / 10 / 10 % 10 by omega, show n / 1000 = n / 10 / 10 / 10 by omega, show m / 1000 = m / 10 / 10 / 10 by omega]
  rw [then_two, then_two, then_two]
/-- A time: year, month, day, hour, minute, second. -/
structure Tim where
  y : Int
  mo : Int
  d : Int
  h : Int
  mi : Int
  s : Int
def leapI (y : Int) : Bool := decide (y % 4 = 0 ∧ y % 100 ≠ 0 ∨ y % 400 = 0)
def daysI (y m : Int) : Int := if m = 4 ∨ m = 6 ∨ m = 9 ∨ m = 11 then 30 else if m = 2 then (if leapI y = true then 29 else 28) else 31
def Tim.ok (t : Tim) : Prop := (0 ≤ t.y ∧ t.y ≤ 9999) ∧ (1 ≤ t.mo ∧ t.mo ≤ 12) ∧ (1 ≤ t.d ∧ t.d ≤ daysI t.y t.mo) ∧ (0 ≤ t.h ∧ t.h ≤ 23) ∧ (0 ≤ t.mi ∧ t.mi ≤ 59) ∧ (0 ≤ t.s ∧ t.s ≤ 59)
theorem daysI_bd (y m : Int) : 28 ≤ daysI y m ∧ daysI y m ≤ 31 := by
  unfold daysI
  repeat' split
  all_goals omega
def Tim.utc (t : Tim) : Bool := decide (1950 ≤ t.y ∧ t.y ≤ 2049)
def Tim.rest (t : Tim) : List UInt8 := dig2 t.mo ++ (dig2 t.d ++ (dig2 t.h ++ (dig2 t.mi ++ (dig2 t.s ++ [90]))))
def Tim.bytes (t : Tim) : List UInt8 := (if t.utc = true then dig2 (t.y % 100) else dig4 t.y) ++ t.rest
def Tim.cmp (a b : Tim) : Int := thenZ (cmpZ a.y b.y) (thenZ (cmpZ a.mo b.mo) (thenZ (cmpZ a.d b.d) (thenZ (cmpZ a.h b.h) (thenZ (cmpZ a.mi b.mi) (cmpZ a.s b.s)))))
theorem cmp_rest {a b : Tim} (ha : a.ok) (hb : b.ok) : Lib.compareBytes a.rest b.rest = thenZ (cmpZ a.mo b.mo) (thenZ (cmpZ a.d b.d) (thenZ (cmpZ a.h b.h) (thenZ (cmpZ a.mi b.mi) (cmpZ a.s b.s)))) := by
  obtain ⟨a1, a2, a3, a4, a5, a6⟩ := ha
  obtain ⟨b1, b2, b3, b4, b5, b6⟩ := hb
  have hd := daysI_bd a.y a.mo
  have hd' := daysI_bd b.y b.mo
  unfold Tim.rest
  rw [cmp_dig2 (by omega) (by omega), cmp_dig2 (by omega) (by omega), cmp_dig2 (by omega) (by omega), cmp_dig2 (by omega) (by omega), cmp_dig2 (by omega) (by omega)]
  have e : ∀ c : Int, thenZ c (Lib.compareBytes [90] [90]) = c := by
    intro c
    have : Lib.compareBytes [90] [90] = 0 := by decide
    rw [this]
    unfold thenZ
    split
    · omega
    · rfl
  rw [e]
/-- The order of the encodings is that of the times. -/
theorem cmp_bytes {a b : Tim} (ha : a.ok) (hb : b.ok) (hu : a.utc = b.utc) (hc : a.utc = true → (a.y < 2000 ↔ b.y < 2000)) : Lib.compareBytes a.bytes b.bytes = a.cmp b := by
  have hr := cmp_rest ha hb
  obtain ⟨a1, _⟩ := ha
  obtain ⟨b1, _⟩ := hb
  unfold Tim.bytes Tim.cmp
  cases h : a.utc with
  | false =>
    rw [h] at hu
    rw [← hu, if_neg (by decide), if_neg (by decide), cmp_dig4 a1 b1, hr]
  | true =>
    have hc := hc h
    rw [h] at hu
    rw [← hu, if_pos rfl, if_pos rfl, cmp_dig2 (by omega) (by omega), hr]
    have h1 : 1950 ≤ a.y ∧ a.y ≤ 2049 := by simpa [Tim.utc] using h
    have h2 : 1950 ≤ b.y ∧ b.y ≤ 2049 := by simpa [Tim.utc] using hu.symm
    congr 1
    unfold cmpZ
    repeat' split
    all_goals first | rfl | (exfalso; omega)
end Go.Proofs.YtaajfbcopafkaaaGreatDoor.Ai
