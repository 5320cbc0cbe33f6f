/- utf8.word. Own work of this seat. -/
import Derived.Test.YtaajfbcopafkaaaGreatDoorLib
import Derived.Test.YtaajfbcopafkaaaGreatDoorAiBits
namespace Go.Proofs.YtaajfbcopafkaaaGreatDoor.Ai
open Go
set_option linter.unusedSimpArgs false
set_option linter.unusedVariables false
set_option maxHeartbeats 4000000
set_option maxRecDepth 100000
def wordI (l : List UInt8) : Int := (nth l 0).toNat + (nth l 1).toNat * 256 + (nth l 2).toNat * 65536 + (nth l 3).toNat * 16777216 + (nth l 4).toNat * 4294967296 + (nth l 5).toNat * 1099511627776 + (nth l 6).toNat * 281474976710656 + (nth l 7).toNat * 72057594037927936
theorem wordB_call (l : List UInt8) (cap : Option Nat) (h : 8 ≤ l.length) : CallF Cx 187 [.slc 1 (l.map bytesRow) cap] [] (.int .u64 (wordI l)) [] := by
 refine sy_call (X := Sx0) (fun _ => false) [] [] (fn := Tryz.f187) Tryz.func187 rfl (by decide) rfl rfl ?_
 repeat' (first | (apply run; conv => whnf) | (with_reducible first | refine snt ?_ | refine snf ?_ | refine sht ?_ | refine shf ?_) | ((first | with_reducible refine split_neg (fun hc => ?_) (fun hc => ?_) | refine split (fun hc => ?_) (fun hc => ?_)) <;> (try simp only [bsl, true_implies, false_implies, Int.reduceEq, Int.reduceLT, Int.reduceLE, Nat.reduceLT, Nat.reduceEqDiff] at hc) <;> try first | (exfalso; omega) | exact btf hc | exact bft hc) | apply shl_in | (apply bits_or2 8 <;> first | ((refine run ?_); conv => whnf) | (first | (exact obs) | (exact eqs) | omega)) | (apply bits_or2 16 <;> first | ((refine run ?_); conv => whnf) | (first | (exact obs) | (exact eqs) | omega)) | (apply bits_or2 24 <;> first | ((refine run ?_); conv => whnf) | (first | (exact obs) | (exact eqs) | omega)) | (apply bits_or2 32 <;> first | ((refine run ?_); conv => whnf) | (first | (exact obs) | (exact eqs) | omega)) | (apply bits_or2 40 <;> first | ((refine run ?_); conv => whnf) | (first | (exact obs) | (exact eqs) | omega)) | (apply bits_or2 48 <;> first | ((refine run ?_); conv => whnf) | (first | (exact obs) | (exact eqs) | omega)) | (apply bits_or2 56 <;> first | ((refine run ?_); conv => whnf) | (first | (exact obs) | (exact eqs) | omega)) | refine fact_in (fun hby => ?_) | refine un_rfl ?_ | refine stp ?_ | exact obs | with_reducible refine And.intro ?_ ?_ | refine nrm ?_ | apply row_eq | refine cte ?_ | refine ctd ?_ | refine cse ?_ | refine csd ?_ | refine wrp ?_ | refine stq ?_ | refine cps ?_ | refine opn ?_ | exact eqs | (intro _; rfl))
 refine ret_eq ?_ (by rfl); rfl
instance {l : List UInt8} {cap : Option Nat} : Con Sx0 187 [.slc 1 (l.map bytesRow) cap] (8 ≤ l.length) (.int .u64 (wordI l)) := con (wordB_call l cap)
theorem wordS_call (l : List UInt8) (h : 8 ≤ l.length) : CallF Cx 229 [.str l] [] (.int .u64 (wordI l)) [] := by
 refine sy_call (X := Sx0) (fun _ => false) [] [] (fn := Tryz.f229) Tryz.func229 rfl (by decide) rfl rfl ?_
 repeat' (first | (apply run; conv => whnf) | (with_reducible first | refine snt ?_ | refine snf ?_ | refine sht ?_ | refine shf ?_) | ((first | with_reducible refine split_neg (fun hc => ?_) (fun hc => ?_) | refine split (fun hc => ?_) (fun hc => ?_)) <;> (try simp only [bsl, true_implies, false_implies, Int.reduceEq, Int.reduceLT, Int.reduceLE, Nat.reduceLT, Nat.reduceEqDiff] at hc) <;> try first | (exfalso; omega) | exact btf hc | exact bft hc) | apply shl_in | (apply bits_or2 8 <;> first | ((refine run ?_); conv => whnf) | (first | (exact obs) | (exact eqs) | omega)) | (apply bits_or2 16 <;> first | ((refine run ?_); conv => whnf) | (first | (exact obs) | (exact eqs) | omega)) | (apply bits_or2 24 <;> first | ((refine run ?_); conv => whnf) | (first | (exact obs) | (exact eqs) | omega)) | (apply bits_or2 32 <;> first | ((refine run ?_); conv => whnf) | (first | (exact obs) | (exact eqs) | omega)) | (apply bits_or2 40 <;> first | ((refine run ?_); conv => whnf) | (first | (exact obs) | (exact eqs) | omega)) | (apply bits_or2 48 <;> first | ((refine run ?_); conv => whnf) | (first | (exact obs) | (exact eqs) | omega)) | (apply bits_or2 56 <;> first | ((refine run ?_); conv => whnf) | (first | (exact obs) | (exact eqs) | omega)) | refine fact_in (fun hby => ?_) | refine un_rfl ?_ | refine stp ?_ | exact obs | with_reducible refine And.intro ?_ ?_ | refine nrm ?_ | apply row_eq | refine cte ?_ | refine ctd ?_ | refine cse ?_ | refine csd ?_ | refine wrp ?_ | refine stq ?_ | refine cps ?_ | refine opn ?_ | exact eqs | (intro _; rfl))
 refine ret_eq ?_ (by rfl); rfl
instance {l : List UInt8} : Con Sx0 229 [.str l] (8 ≤ l.length) (.int .u64 (wordI l)) := con (wordS_call l)
/-! What the words' bits tell. -/
theorem wordI_bd (l : List UInt8) : 0 ≤ wordI l ∧ wordI l ≤ 18446744073709551615 := by
 have h0 := (nth l 0).toNat_lt; have h1 := (nth l 1).toNat_lt; have h2 := (nth l 2).toNat_lt; have h3 := (nth l 3).toNat_lt
 have h4 := (nth l 4).toNat_lt; have h5 := (nth l 5).toNat_lt; have h6 := (nth l 6).toNat_lt; have h7 := (nth l 7).toNat_lt
 unfold wordI
 omega
theorem u64_bits {op : BinOp} {a b : Nat} (ha : a < 2 ^ 64) (hb : b < 2 ^ 64) : bitsA .and .u64 a b = ((a &&& b : Nat) : Int) ∧ bitsA .or .u64 a b = ((a ||| b : Nat) : Int) := by
 have e1 : (BitVec.ofInt IntKind.u64.bits (a : Int)).toNat = a := bv_nat (by simp only [kHi]; omega)
 have e2 : (BitVec.ofInt IntKind.u64.bits (b : Int)).toNat = b := bv_nat (by simp only [kHi]; omega)
 constructor
 ·simp only [bitsA]
  rw [BitVec.toNat_and, e1, e2]
  have : a &&& b ≤ a := Nat.and_le_left
  exact wrap_nat (by simp only [kHi]; omega)
 ·simp only [bitsA]
  rw [BitVec.toNat_or, e1, e2]
  have : a ||| b < 2 ^ 64 := Nat.or_lt_two_pow ha hb
  exact wrap_nat (by simp only [kHi]; omega)
theorem or_zero {a b m : Int} (ha : 0 ≤ a ∧ a ≤ 18446744073709551615) (hb : 0 ≤ b ∧ b ≤ 18446744073709551615) (hm : 0 ≤ m ∧ m ≤ 18446744073709551615) (h : bitsA .and .u64 (bitsA .or .u64 a b) m = 0) : bitsA .and .u64 a m = 0 ∧ bitsA .and .u64 b m = 0 := by
 obtain ⟨a, rfl⟩ := Int.eq_ofNat_of_zero_le ha.1
 obtain ⟨b, rfl⟩ := Int.eq_ofNat_of_zero_le hb.1
 obtain ⟨m, rfl⟩ := Int.eq_ofNat_of_zero_le hm.1
 have h1 : a < 2 ^ 64 := by omega
 have h2 : b < 2 ^ 64 := by omega
 have h3 : m < 2 ^ 64 := by omega
 rw [(u64_bits (op := .and) h1 h2).2] at h
 rw [(u64_bits (op := .and) (Nat.or_lt_two_pow h1 h2) h3).1] at h
 have h : (a ||| b) &&& m = 0 := by exact_mod_cast h
 rw [(u64_bits (op := .and) h1 h3).1, (u64_bits (op := .and) h2 h3).1]
 rw [Nat.and_or_distrib_right] at h
 have := Nat.or_eq_zero_iff.1 h
 exact ⟨by exact_mod_cast this.1, by exact_mod_cast this.2⟩
theorem or_bd {a b : Int} (ha : 0 ≤ a ∧ a ≤ 18446744073709551615) (hb : 0 ≤ b ∧ b ≤ 18446744073709551615) : 0 ≤ bitsA .or .u64 a b ∧ bitsA .or .u64 a b ≤ 18446744073709551615 := by
 obtain ⟨a, rfl⟩ := Int.eq_ofNat_of_zero_le ha.1
 obtain ⟨b, rfl⟩ := Int.eq_ofNat_of_zero_le hb.1
 have h1 : a < 2 ^ 64 := by omega
 have h2 : b < 2 ^ 64 := by omega
 rw [(u64_bits (op := .and) h1 h2).2]
 have := Nat.or_lt_two_pow h1 h2
 omega
theorem word_asc {l : List UInt8} (h : bitsA .and .u64 (wordI l) 9259542123273814144 = 0) : ∀ j, j < 8 → (nth l j).toNat < 128 := by
 have hb := wordI_bd l
 obtain ⟨w, hw⟩ := Int.eq_ofNat_of_zero_le hb.1
 have h1 : w < 2 ^ 64 := by omega
 rw [hw, show (9259542123273814144 : Int) = ((9259542123273814144 : Nat) : Int) from rfl, (u64_bits (op := .and) h1 (by decide)).1] at h
 have h : w &&& 9259542123273814144 = 0 := by exact_mod_cast h
 have hbit : ∀ k, (9259542123273814144 : Nat).testBit k = true → w / 2 ^ k % 2 = 0 := by
  intro k hk
  have h2 : (w &&& 9259542123273814144).testBit k = false := by rw [h]; exact Nat.zero_testBit k
  rw [Nat.testBit_and, hk, Bool.and_true, Nat.testBit_eq_decide_div_mod_eq] at h2
  simp only [decide_eq_false_iff_not] at h2
  omega
 have k0 := hbit 7 (by decide); have k1 := hbit 15 (by decide); have k2 := hbit 23 (by decide); have k3 := hbit 31 (by decide)
 have k4 := hbit 39 (by decide); have k5 := hbit 47 (by decide); have k6 := hbit 55 (by decide); have k7 := hbit 63 (by decide)
 have h0 := (nth l 0).toNat_lt; have h1 := (nth l 1).toNat_lt; have h2 := (nth l 2).toNat_lt; have h3 := (nth l 3).toNat_lt
 have h4 := (nth l 4).toNat_lt; have h5 := (nth l 5).toNat_lt; have h6 := (nth l 6).toNat_lt; have h7 := (nth l 7).toNat_lt
 unfold wordI at hw
 simp only [Nat.reducePow] at k0 k1 k2 k3 k4 k5 k6 k7 h0 h1 h2 h3 h4 h5 h6 h7
 have hw : w = (nth l 0).toNat + (nth l 1).toNat * 256 + (nth l 2).toNat * 65536 + (nth l 3).toNat * 16777216 + (nth l 4).toNat * 4294967296 + (nth l 5).toNat * 1099511627776 + (nth l 6).toNat * 281474976710656 + (nth l 7).toNat * 72057594037927936 := by omega
 intro j hj
 have hj : j = 0 ∨ j = 1 ∨ j = 2 ∨ j = 3 ∨ j = 4 ∨ j = 5 ∨ j = 6 ∨ j = 7 := by omega
 rcases hj with rfl | rfl | rfl | rfl | rfl | rfl | rfl | rfl <;> omega
end Go.Proofs.YtaajfbcopafkaaaGreatDoor.Ai
