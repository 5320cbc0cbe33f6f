/- The order of texts is that of their characters. Own work of this seat. -/
import Derived.Test.YteenamolccbcfaaDoorLawP
namespace Go.Proofs.YteenamolccbcfaaDoor.Ai
open Go
set_option linter.unusedSimpArgs false
set_option linter.unusedVariables false
set_option maxHeartbeats 4000000
set_option maxRecDepth 100000
theorem u8_lt {a b : UInt8} : a < b ↔ a.toNat < b.toNat := Iff.rfl
theorem cmpB_bd : ∀ (a b : List UInt8), Lib.compareBytes a b = -1 ∨ Lib.compareBytes a b = 0 ∨ Lib.compareBytes a b = 1
  | [], [] => .inr (.inl rfl)
  | [], _ :: _ => .inl rfl
  | _ :: _, [] => .inr (.inr rfl)
  | a :: x, b :: y => by
    unfold Lib.compareBytes
    split
    · exact .inl rfl
    · split
      · exact .inr (.inr rfl)
      · exact cmpB_bd x y
theorem cmpB_anti : ∀ (a b : List UInt8), Lib.compareBytes b a = - Lib.compareBytes a b
  | [], [] => rfl
  | [], _ :: _ => rfl
  | _ :: _, [] => rfl
  | a :: x, b :: y => by
    unfold Lib.compareBytes
    have := cmpB_anti x y
    simp only [u8_lt]
    split
    · rw [if_neg (by omega)]
    · split
      · rfl
      · exact this
theorem cmpB_eq : ∀ (a b : List UInt8), Lib.compareBytes a b = 0 ↔ a = b
  | [], [] => by simp [Lib.compareBytes]
  | [], _ :: _ => by simp [Lib.compareBytes]
  | _ :: _, [] => by simp [Lib.compareBytes]
  | a :: x, b :: y => by
    unfold Lib.compareBytes
    have := cmpB_eq x y
    simp only [u8_lt]
    by_cases h1 : a.toNat < b.toNat
    · rw [if_pos h1]
      constructor
      · intro h; cases h
      · intro h; cases h; omega
    · rw [if_neg h1]
      by_cases h2 : b.toNat < a.toNat
      · rw [if_pos h2]
        constructor
        · intro h; cases h
        · intro h; cases h; omega
      · have e : a = b := UInt8.toNat_inj.1 (by omega)
        rw [if_neg h2, this, e]; simp
theorem cmpI_bd (a b : Int) : cmpI a b = -1 ∨ cmpI a b = 0 ∨ cmpI a b = 1 := by unfold cmpI; split; exact .inl rfl; split; exact .inr (.inr rfl); exact .inr (.inl rfl)
theorem cmpI_anti (a b : Int) : cmpI b a = - cmpI a b := by unfold cmpI; (repeat' split) <;> omega
theorem cmpI_eq (a b : Int) : cmpI a b = 0 ↔ a = b := by unfold cmpI; (repeat' split) <;> omega
theorem comp_bd (a : List UInt8) (k : Int) (b : List UInt8) (l : Int) : compI a k b l = -1 ∨ compI a k b l = 0 ∨ compI a k b l = 1 := by unfold compI; split; exact cmpI_bd _ _; exact cmpB_bd _ _
theorem comp_anti (a : List UInt8) (k : Int) (b : List UInt8) (l : Int) : compI b l a k = - compI a k b l := by
  unfold compI
  rw [cmpB_anti a b, cmpI_anti k l]
  (repeat' split) <;> omega
theorem comp_eq (a : List UInt8) (k : Int) (b : List UInt8) (l : Int) : compI a k b l = 0 ↔ k = l ∧ a = b := by
  unfold compI
  split
  · rename_i h; rw [cmpI_eq, (cmpB_eq a b).1 h]; simp
  · rename_i h
    constructor
    · intro h'; exact absurd h' h
    · rintro ⟨_, rfl⟩; exact absurd ((cmpB_eq a a).2 rfl) h
def lexI : List Int → List Int → Int
  | [], [] => 0
  | [], _ :: _ => -1
  | _ :: _, [] => 1
  | a :: x, b :: y => if a < b then -1 else if b < a then 1 else lexI x y
theorem cmpB_head {a b : UInt8} {x y : List UInt8} (h : a.toNat < b.toNat) : Lib.compareBytes (a :: x) (b :: y) = -1 := by unfold Lib.compareBytes; rw [if_pos (u8_lt.2 h)]
theorem cmpB_skip {a b : UInt8} {x y : List UInt8} (h : a.toNat = b.toNat) : Lib.compareBytes (a :: x) (b :: y) = Lib.compareBytes x y := by
  have e : a = b := UInt8.toNat_inj.1 h
  subst e
  conv => lhs; unfold Lib.compareBytes
  rw [if_neg (by rw [u8_lt]; omega), if_neg (by rw [u8_lt]; omega)]
theorem u8_of {n : Int} (h0 : 0 ≤ n) (h1 : n ≤ 255) : ((UInt8.ofNat n.toNat).toNat : Int) = n := by
  rw [UInt8.toNat_ofNat', Nat.mod_eq_of_lt (by omega)]; omega
theorem cmpB_lt {n m : Int} {x y : List UInt8} (hn : 0 ≤ n ∧ n ≤ 255) (hm : 0 ≤ m ∧ m ≤ 255) (h : n < m) : Lib.compareBytes (UInt8.ofNat n.toNat :: x) (UInt8.ofNat m.toNat :: y) = -1 := by
  have e1 := u8_of hn.1 hn.2; have e2 := u8_of hm.1 hm.2
  exact cmpB_head (by omega)
theorem cmpB_same {n m : Int} {x y : List UInt8} (h : n = m) : Lib.compareBytes (UInt8.ofNat n.toNat :: x) (UInt8.ofNat m.toNat :: y) = Lib.compareBytes x y := cmpB_skip (by rw [h])
/-- One character less than another, whatever comes behind. -/
theorem enc_lt {c d : Int} (hc : 0 ≤ c ∧ c ≤ 1114111) (hd : 0 ≤ d ∧ d ≤ 1114111) (h : c < d) (x y : List UInt8) :
    Lib.compareBytes (((enc1 c).map fun n => UInt8.ofNat n.toNat) ++ x) (((enc1 d).map fun n => UInt8.ofNat n.toNat) ++ y) = -1 := by
  unfold enc1
  by_cases c1 : c < 128
  · rw [if_pos c1]
    (repeat' split) <;> exact cmpB_lt (by omega) (by omega) (by omega)
  · rw [if_neg c1, if_neg (show ¬ d < 128 by omega)]
    by_cases c2 : c < 2048
    · rw [if_pos c2]
      by_cases d2 : d < 2048
      · rw [if_pos d2]
        simp only [List.map_cons, List.map_nil, List.cons_append, List.nil_append]
        by_cases e : c / 64 = d / 64
        · rw [cmpB_same (by omega)]; exact cmpB_lt (by omega) (by omega) (by omega)
        · exact cmpB_lt (by omega) (by omega) (by omega)
      · rw [if_neg d2]
        split <;> exact cmpB_lt (by omega) (by omega) (by omega)
    · rw [if_neg c2, if_neg (show ¬ d < 2048 by omega)]
      by_cases c3 : c < 65536
      · rw [if_pos c3]
        by_cases d3 : d < 65536
        · rw [if_pos d3]
          simp only [List.map_cons, List.map_nil, List.cons_append, List.nil_append]
          by_cases e : c / 4096 = d / 4096
          · rw [cmpB_same (by omega)]
            by_cases e' : c / 64 % 64 = d / 64 % 64
            · rw [cmpB_same (by omega)]; exact cmpB_lt (by omega) (by omega) (by omega)
            · exact cmpB_lt (by omega) (by omega) (by omega)
          · exact cmpB_lt (by omega) (by omega) (by omega)
        · rw [if_neg d3]; exact cmpB_lt (by omega) (by omega) (by omega)
      · rw [if_neg c3, if_neg (show ¬ d < 65536 by omega)]
        simp only [List.map_cons, List.map_nil, List.cons_append, List.nil_append]
        by_cases e : c / 262144 = d / 262144
        · rw [cmpB_same (by omega)]
          by_cases e' : c / 4096 % 64 = d / 4096 % 64
          · rw [cmpB_same (by omega)]
            by_cases e2 : c / 64 % 64 = d / 64 % 64
            · rw [cmpB_same (by omega)]; exact cmpB_lt (by omega) (by omega) (by omega)
            · exact cmpB_lt (by omega) (by omega) (by omega)
          · exact cmpB_lt (by omega) (by omega) (by omega)
        · exact cmpB_lt (by omega) (by omega) (by omega)
theorem cmpB_app (u x y : List UInt8) : Lib.compareBytes (u ++ x) (u ++ y) = Lib.compareBytes x y := by
  induction u with
  | nil => rfl
  | cons a u ih => rw [List.cons_append, List.cons_append, cmpB_skip rfl, ih]
theorem encS_cons (c : Int) (l : List Int) : encS (c :: l) = ((enc1 c).map fun n => UInt8.ofNat n.toNat) ++ encS l := by simp [encS, encI]
theorem encS_ne (c : Int) (l : List Int) : ∃ a r, encS (c :: l) = a :: r := by
  rw [encS_cons]
  unfold enc1
  (repeat' split) <;> exact ⟨_, _, rfl⟩
theorem cmp_enc : ∀ (l m : List Int), (∀ c, c ∈ l → 0 ≤ c ∧ c ≤ 1114111) → (∀ c, c ∈ m → 0 ≤ c ∧ c ≤ 1114111) → Lib.compareBytes (encS l) (encS m) = lexI l m
  | [], [], _, _ => rfl
  | [], c :: m, _, _ => by obtain ⟨a, r, e⟩ := encS_ne c m; rw [e]; rfl
  | c :: l, [], _, _ => by obtain ⟨a, r, e⟩ := encS_ne c l; rw [e]; rfl
  | c :: l, d :: m, hl, hm => by
    have h1 := hl c List.mem_cons_self
    have h2 := hm d List.mem_cons_self
    rw [encS_cons, encS_cons]
    unfold lexI
    by_cases h : c < d
    · rw [if_pos h]; exact enc_lt h1 h2 h _ _
    · rw [if_neg h]
      by_cases h' : d < c
      · rw [if_pos h', cmpB_anti, enc_lt h2 h1 h' _ _]; rfl
      · have e : c = d := by omega
        subst e
        rw [if_neg h', cmpB_app]
        exact cmp_enc l m (fun c hc => hl c (List.mem_cons_of_mem _ hc)) (fun c hc => hm c (List.mem_cons_of_mem _ hc))
theorem lex_bd : ∀ (l m : List Int), lexI l m = -1 ∨ lexI l m = 0 ∨ lexI l m = 1
  | [], [] => .inr (.inl rfl)
  | [], _ :: _ => .inl rfl
  | _ :: _, [] => .inr (.inr rfl)
  | a :: x, b :: y => by unfold lexI; split; exact .inl rfl; split; exact .inr (.inr rfl); exact lex_bd x y
theorem lex_step {l m : List Int} {i : Nat} (h1 : i < l.length) (h2 : i < m.length) : lexI (l.drop i) (m.drop i) = if nth l i < nth m i then -1 else if nth m i < nth l i then 1 else lexI (l.drop (i + 1)) (m.drop (i + 1)) := by
  rw [drop_nth h1, drop_nth h2]; rfl
theorem lex_left {l m : List Int} {i : Nat} (h1 : l.length ≤ i) (h2 : i < m.length) : lexI (l.drop i) (m.drop i) = -1 := by
  rw [List.drop_of_length_le h1, drop_nth h2]; rfl
theorem lex_right {l m : List Int} {i : Nat} (h1 : i < l.length) (h2 : m.length ≤ i) : lexI (l.drop i) (m.drop i) = 1 := by
  rw [List.drop_of_length_le h2, drop_nth h1]; rfl
theorem lex_end {l m : List Int} {i : Nat} (h1 : l.length ≤ i) (h2 : m.length ≤ i) : lexI (l.drop i) (m.drop i) = 0 := by
  rw [List.drop_of_length_le h1, List.drop_of_length_le h2]; rfl
theorem comp_text (n m : Nat) (cs ds : List Int) : compI (textC n cs) (kindC n) (textC m ds) (kindC m) = if lexI (decT (textC n cs)) (decT (textC m ds)) = 0 then cmpI (kindC n) (kindC m) else lexI (decT (textC n cs)) (decT (textC m ds)) := by
  have e : Lib.compareBytes (textC n cs) (textC m ds) = lexI (decT (textC n cs)) (decT (textC m ds)) := by
    rw [decT_of (dec_text n cs), decT_of (dec_text m ds)]
    exact cmp_enc _ _ (fun c hc => (has_ok (List.all_eq_true.1 charC_has c hc)).1) (fun c hc => (has_ok (List.all_eq_true.1 charC_has c hc)).1)
  unfold compI
  rw [e]
end Go.Proofs.YteenamolccbcfaaDoor.Ai
