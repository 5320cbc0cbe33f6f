/- Long texts of one letter. Own work of this seat. -/
import Derived.Test.YteenamolccbcfaaDoorLaws
namespace Go.Proofs.YteenamolccbcfaaDoor.Ai
open Go
set_option linter.unusedSimpArgs false
set_option linter.unusedVariables false
set_option maxHeartbeats 4000000
set_option maxRecDepth 100000
attribute [local irreducible] decodeL
/-- So many letters 'a'. -/
@[irreducible] def aS (n : Nat) : List UInt8 := List.replicate n 97
theorem aS_len (n : Nat) : (aS n).length = n := by unfold aS; exact List.length_replicate
theorem aS_take {n m : Nat} (h : m ≤ n) : (aS n).take m = aS m := by unfold aS; rw [List.take_replicate, Nat.min_eq_left h]
theorem aS_app (n : Nat) : aS n ++ [97] = aS (n + 1) := by unfold aS; rw [List.replicate_succ']
theorem aS_enc (n : Nat) : encS (List.replicate n 97) = aS n := by
  unfold aS
  induction n with
  | zero => rfl
  | succ n ih => rw [List.replicate_succ, encS_cons, ih]; rfl
theorem aS_dec (n : Nat) : decS (aS n) = some (List.replicate n 97) := by
  rw [← aS_enc]
  exact decS_enc fun c hc => by rw [List.eq_of_mem_replicate hc]; decide
theorem rep_all {p : Int → Bool} {c : Int} (h : p c = true) (n : Nat) : (List.replicate n c).all p = true := by
  rw [List.all_eq_true]; intro d hd; rw [List.eq_of_mem_replicate hd]; exact h
theorem aS_bytes (n : Nat) : (aS n).map (fun x => (x.toNat : Int)) = List.replicate n 97 := by unfold aS; rw [List.map_replicate]; rfl
theorem aS_get22 {n : Nat} (h : n ≤ 131072) : getE 22 (aS n) = if 65536 < n then 3 else 0 := by
  unfold getE getC
  rw [if_neg (by decide), if_neg (by rw [aS_len]; omega), if_neg (by decide), if_neg (by decide), aS_bytes]
  simp only [rep_all (p := hasB 22) (c := 97) (by decide), aS_enc, aS_len]
  rfl
theorem aS_text22 {n : Nat} (h : n ≤ 65536) : getT 22 (aS n) = aS n := by
  have e : getE 22 (aS n) = 0 := by rw [aS_get22 (by omega), if_neg (by omega)]
  unfold getT
  rw [if_pos e]
  unfold getC
  rw [if_neg (by decide), if_neg (by decide), aS_bytes, Option.getD_some, aS_enc]
theorem aS_pairs : ∀ n, pairs (aS (2 * n)) = List.replicate n 24929
  | 0 => by unfold aS; rfl
  | n + 1 => by
    have e : aS (2 * (n + 1)) = 97 :: 97 :: aS (2 * n) := by unfold aS; rw [show 2 * (n + 1) = 2 * n + 1 + 1 by omega, List.replicate_succ, List.replicate_succ]
    rw [e, pairs, aS_pairs n, List.replicate_succ]; rfl
theorem wide_len (n : Nat) : (encS (List.replicate n 24929)).length = 3 * n := by
  induction n with
  | zero => rfl
  | succ n ih => rw [List.replicate_succ, encS_cons, List.length_append, ih]; simp [enc1]; omega
theorem aS_get30 {n : Nat} (h : 2 * n ≤ 131072) : getE 30 (aS (2 * n)) = if 65536 < 3 * n then 3 else 0 := by
  unfold getE getC
  rw [if_neg (by decide), if_neg (by rw [aS_len]; omega), if_neg (by decide), if_pos rfl, if_neg (by rw [aS_len]; omega), aS_pairs]
  simp only [rep_all (p := hasB 30) (c := 24929) (by decide), wide_len]
  rfl
theorem aS_text30 {n : Nat} (h : 3 * n ≤ 65536) : getT 30 (aS (2 * n)) = encS (List.replicate n 24929) := by
  have e : getE 30 (aS (2 * n)) = 0 := by rw [aS_get30 (by omega), if_neg (by omega)]
  unfold getT
  rw [if_pos e]
  unfold getC
  rw [if_neg (by decide), if_pos rfl, if_neg (by rw [aS_len]; omega), aS_pairs, Option.getD_some]
theorem aS_long {n : Nat} (h : 131072 < n) : getE 30 (aS n) = 3 := by
  unfold getE
  rw [if_neg (by decide), if_pos (by rw [aS_len]; omega)]
theorem aS_check {k : Int} (hk : kindI k ≠ 0) (h97 : hasB k 97 = true) (n : Nat) : checkI k (aS n) = if 65536 < n then 3 else 0 := by
  unfold checkI
  rw [if_neg hk, aS_len]
  split
  · rfl
  · rw [decT_of (aS_dec n), aS_dec, rep_all h97]; rfl
theorem aS_kinds {n : Nat} (h : 65536 < n) : kindsI (aS n) 5 = [] := by
  unfold kindsI
  rw [List.filter_eq_nil_iff]
  intro k hk
  have hk : k = 12 ∨ k = 19 ∨ k = 22 ∨ k = 26 ∨ k = 30 := by simpa [kindNo] using hk
  have e : checkI k (aS n) = 3 := by
    rcases hk with rfl | rfl | rfl | rfl | rfl <;> rw [aS_check (by decide) (by decide), if_pos h]
  rw [e]; decide
theorem putL_len30 (l : List Int) : (putL 30 l).length = 2 * l.length := by
  induction l with
  | nil => rfl
  | cons c l ih => simp only [putL, List.map_cons, List.flatten_cons, List.length_append] at ih ⊢; rw [ih]; simp [putOne]; omega
theorem aS_put30 {n : Nat} (h : n ≤ 65536) : (putR 30 (aS n)).length = 2 * n := by
  unfold putR
  rw [if_pos (by rw [aS_check (by decide) (by decide), if_neg (by omega)])]
  unfold putI
  rw [if_neg (by decide), decT_of (aS_dec n), List.length_map, putL_len30, List.length_replicate]
/-- What a slice of 131074 bytes holds, of which some are written. -/
@[irreducible] def fillS (i : Nat) : List UInt8 := List.replicate i 97 ++ List.replicate (131074 - i) 0
theorem fill_len {i : Nat} (h : i ≤ 131074) : (fillS i).length = 131074 := by unfold fillS; rw [List.length_append, List.length_replicate, List.length_replicate]; omega
theorem fill_0 : (fillS 0).map bytesRow = List.replicate 131074 [.int .u8 0] := by
  unfold fillS
  rw [List.replicate_zero, List.nil_append, List.map_replicate]; rfl
theorem fill_end : fillS 131074 = aS 131074 := by unfold fillS aS; rw [Nat.sub_self, List.replicate_zero, List.append_nil]
theorem fill_set {i : Nat} (h : i < 131074) : ((fillS i).map bytesRow).set i [.int .u8 97] = (fillS (i + 1)).map bytesRow := by
  unfold fillS
  rw [show 131074 - i = (131074 - (i + 1)) + 1 by omega, List.replicate_succ, List.map_append, List.set_append_right _ _ (by simp), List.length_map, List.length_replicate, Nat.sub_self, List.map_cons, List.set_cons_zero,
    List.map_append, List.replicate_succ', List.map_append, List.append_assoc]
  rfl
end Go.Proofs.YteenamolccbcfaaDoor.Ai
