/- Rules for the bits of numbers. Own work of this seat. -/
import Derived.Test.YtaajfbcopafkaaaGreatDoorAiSymG
namespace Go.Proofs.YtaajfbcopafkaaaGreatDoor.Ai
open Go
theorem wrap_nat {k : IntKind} {n : Nat} (h : (n : Int) ≤ kHi k) : k.wrap (n : Int) = n :=
 wrap_range ⟨by cases k <;> simp only [kLo] <;> omega, h⟩
theorem kHi_lt (k : IntKind) : kHi k < 2 ^ k.bits := by cases k <;> decide
theorem bv_nat {k : IntKind} {n : Nat} (h : (n : Int) ≤ kHi k) : (BitVec.ofInt k.bits (n : Int)).toNat = n := by
 rw [BitVec.toNat_ofInt]
 have h1 := kHi_lt k
 have h2 : (n : Int) < 2 ^ k.bits := by omega
 rw [Int.emod_eq_of_lt (by omega) (by push_cast; exact h2)]
 omega
theorem or_nat {a b m : Nat} (ha : a % 2 ^ m = 0) (hb : b < 2 ^ m) : a ||| b = a + b := by
 obtain ⟨q, rfl⟩ := Nat.dvd_of_mod_eq_zero ha
 exact (Nat.two_pow_add_eq_or_of_lt hb q).symm
theorem bits_or (m : Nat) {rc : Option Bool} {k : IntKind} {a b e : Int} {K : Int → Prop} (he : a + b = e) (h : Ob rc (0 ≤ a ∧ 0 ≤ b ∧ a % 2 ^ m = 0 ∧ b < 2 ^ m ∧ a + b ≤ kHi k)) (hk : Run (K e)) : HBits rc .or k a b K := by
 subst he
 unfold HBits
 refine ⟨_, ob_iff.2 fun hw => ?_, run' hk⟩
 obtain ⟨h1, h2, h3, h4, h5⟩ := ob_mk h hw
 obtain ⟨a, rfl⟩ := Int.eq_ofNat_of_zero_le h1
 obtain ⟨b, rfl⟩ := Int.eq_ofNat_of_zero_le h2
 have h3' : a % 2 ^ m = 0 := by exact_mod_cast h3
 have h4' : b < 2 ^ m := by exact_mod_cast h4
 simp only [bitsA]
 rw [BitVec.toNat_or, bv_nat (by omega), bv_nat (by omega), or_nat h3' h4']
 rw [wrap_nat (by push_cast; exact h5)]
 push_cast; rfl
theorem bits_or2 (m : Nat) {rc : Option Bool} {k : IntKind} {a b e : Int} {K : Int → Prop} (he : a + b = e) (h : Ob rc (0 ≤ a ∧ 0 ≤ b ∧ b % 2 ^ m = 0 ∧ a < 2 ^ m ∧ a + b ≤ kHi k)) (hk : Run (K e)) : HBits rc .or k a b K := by
 subst he
 unfold HBits
 refine ⟨_, ob_iff.2 fun hw => ?_, run' hk⟩
 obtain ⟨h1, h2, h3, h4, h5⟩ := ob_mk h hw
 obtain ⟨a, rfl⟩ := Int.eq_ofNat_of_zero_le h1
 obtain ⟨b, rfl⟩ := Int.eq_ofNat_of_zero_le h2
 have h3' : b % 2 ^ m = 0 := by exact_mod_cast h3
 have h4' : a < 2 ^ m := by exact_mod_cast h4
 simp only [bitsA]
 rw [BitVec.toNat_or, bv_nat (by omega), bv_nat (by omega), Nat.or_comm, or_nat h3' h4']
 rw [wrap_nat (by push_cast; omega)]
 push_cast; omega
theorem bits_raw {rc : Option Bool} {op : BinOp} {k : IntKind} {a b : Int} {K : Int → Prop} (hk : Run (K (bitsA op k a b))) : HBits rc op k a b K := bits_in rfl hk
theorem bits_and (m : Nat) {rc : Option Bool} {k : IntKind} {a b e : Int} {K : Int → Prop} (hb : b + 1 = 2 ^ m) (he : a % 2 ^ m = e) (h : Ob rc (0 ≤ a ∧ a ≤ kHi k ∧ b ≤ kHi k)) (hk : Run (K e)) : HBits rc .and k a b K := by
 subst he
 unfold HBits
 refine ⟨_, ob_iff.2 fun hw => ?_, run' hk⟩
 obtain ⟨h1, h2, h3⟩ := ob_mk h hw
 have hp : (0 : Int) < 2 ^ m := Int.pow_pos (by decide)
 obtain ⟨a, rfl⟩ := Int.eq_ofNat_of_zero_le h1
 obtain ⟨b, rfl⟩ := Int.eq_ofNat_of_zero_le (a := b) (by omega)
 have hb' : b = 2 ^ m - 1 := by
  have : b + 1 = 2 ^ m := by exact_mod_cast hb
  omega
 simp only [bitsA]
 rw [BitVec.toNat_and, bv_nat (by omega), bv_nat (by omega), hb', Nat.and_two_pow_sub_one_eq_mod]
 have hm : a % 2 ^ m ≤ a := Nat.mod_le _ _
 rw [wrap_nat (by omega)]
 push_cast; rfl
end Go.Proofs.YtaajfbcopafkaaaGreatDoor.Ai
