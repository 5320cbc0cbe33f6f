/- Symbolic runs: what the parts mean. Symbolic runs: what the operations on memory mean. Symbolic runs: operations, regions, code. Own work of this seat. -/
import Derived.Test.YtaajfbcopafkaaaGreatDoorAiLe
namespace Go.Proofs.YtaajfbcopafkaaaGreatDoor.Ai
open Go
set_option linter.unusedVariables false
set_option linter.unusedSimpArgs false
set_option linter.unusedSectionVars false

theorem ob_iff {rc : Option Bool} {p : Prop} : Ob rc p ↔ (When rc → p) := by
  cases rc with
  | none => exact ⟨fun h _ => h, fun h => h trivial⟩
  | some b => exact Iff.rfl

section
variable {α : Type} {d : α} {K : List α → Prop}
theorem getK_eq {K : α → Prop} : ∀ {l : List α} {i : Nat}, getK d l i K = K (l.getD i d) := by
  intro l
  induction l with
  | nil => intro i; cases i <;> rfl
  | cons x xs ih => intro i; cases i with
    | zero => rfl
    | succ i => exact ih
theorem setK_eq : ∀ {l : List α} {i : Nat} {v : α} {K : List α → Prop}, setK l i v K = K (l.set i v) := by
  intro l
  induction l with
  | nil => intro i v K; rfl
  | cons x xs ih => intro i v K; cases i with
    | zero => rfl
    | succ i => exact ih
theorem appK_eq : ∀ {xs ys : List α} {K : List α → Prop}, appK xs ys K = K (xs ++ ys) := by
  intro xs
  induction xs with
  | nil => intro ys K; rfl
  | cons x xs ih => intro ys K; exact ih
theorem dropK_eq : ∀ {n : Nat} {xs : List α}, dropK n xs K = K (xs.drop n) := by
  intro n
  induction n with
  | zero => intro xs; rfl
  | succ n ih => intro xs; cases xs with
    | nil => simp [dropK]
    | cons x xs => exact ih
theorem takeK_sound : ∀ {n : Nat} {xs : List α} {K : List α → Prop}, takeK n xs K → n ≤ xs.length ∧ K (xs.take n) := by
  intro n
  induction n with
  | zero => intro xs K h; exact ⟨Nat.zero_le _, by simpa [takeK] using h⟩
  | succ n ih =>
    intro xs K h
    cases xs with
    | nil => exact h.elim
    | cons x xs => obtain ⟨h1, h2⟩ := ih h; exact ⟨by simpa using h1, h2⟩
theorem forceK_eq : ∀ {xs : List α} {K : List α → Prop}, forceK xs K = K xs := by
  intro xs
  induction xs with
  | nil => intro K; rfl
  | cons x xs ih => intro K; exact ih
theorem repK_eq {x : α} : ∀ {n : Nat} {K : List α → Prop}, repK x n K = K (List.replicate n x) := by
  intro n
  induction n with
  | zero => intro K; rfl
  | succ n ih => intro K; exact ih
end
theorem succK_eq {n : Nat} {K : Nat → Prop} : succK n K = K (n + 1) := by
  unfold succK
  split <;> rfl
theorem addK_eq : ∀ {n a : Nat} {K : Nat → Prop}, addK a n K = K (a + n) := by
  intro n
  induction n with
  | zero => intro a K; rfl
  | succ n ih => intro a K; simp only [addK, succK_eq, ih]; rw [Nat.add_right_comm]; rfl
theorem lenK_eq {α : Type} : ∀ {xs : List α} {K : Nat → Prop}, lenK xs K = K xs.length := by
  intro xs
  induction xs with
  | nil => intro K; rfl
  | cons x xs ih => intro K; simp only [lenK, ih, succK_eq]; rfl
theorem natK_eq : ∀ {n : Nat} {K : Nat → Prop}, natK n K = K n := by
  intro n
  induction n with
  | zero => intro K; rfl
  | succ n ih => intro K; simp only [natK, ih, succK_eq]
theorem overK_sound : ∀ {cs : List AVal} {off : Nat} {vs : List AVal} {K : List AVal → Prop}, overK cs off vs K → off + vs.length ≤ cs.length ∧ K (setAt cs off vs) := by
  have zero : ∀ (vs cs : List AVal) (K : List AVal → Prop), overK cs 0 vs K → vs.length ≤ cs.length ∧ K (vs ++ cs.drop vs.length) := by
    intro vs
    induction vs with
    | nil => intro cs K h; exact ⟨Nat.zero_le _, by cases cs <;> exact h⟩
    | cons v vs ih =>
      intro cs K h
      cases cs with
      | nil => exact h.elim
      | cons c cs => obtain ⟨h1, h2⟩ := ih cs _ h; exact ⟨by simpa using h1, by simpa using h2⟩
  intro cs
  induction cs with
  | nil =>
    intro off vs K h
    cases off with
    | zero => obtain ⟨h1, h2⟩ := zero vs [] K h; exact ⟨by simpa using h1, by simpa [setAt] using h2⟩
    | succ n => exact h.elim
  | cons c cs ih =>
    intro off vs K h
    cases off with
    | zero => obtain ⟨h1, h2⟩ := zero vs _ K h; exact ⟨by simpa using h1, by simpa [setAt] using h2⟩
    | succ n =>
      obtain ⟨h1, h2⟩ := ih (off := n) h
      refine ⟨by simp only [List.length_cons]; omega, ?_⟩
      have e : n + 1 + vs.length = (n + vs.length) + 1 := by omega
      simpa [setAt, e] using h2
theorem eachK_sound {α β : Type} {f : α → (β → Prop) → Prop} {g : α → β} (hf : ∀ x K, f x K → K (g x)) : ∀ {xs : List α} {K : List β → Prop}, eachK f xs K → K (xs.map g) := by
  intro xs
  induction xs with
  | nil => intro K h; exact h
  | cons x xs ih => intro K h; exact ih (hf _ _ h)
theorem ifK_iff {b : Bool} {K : Prop} : ifK b K ↔ b = true ∧ K := by cases b <;> simp [ifK]
theorem lenIs_iff {α : Type} : ∀ {xs : List α} {n : Nat}, lenIs xs n = true ↔ xs.length = n := by
  intro xs
  induction xs with
  | nil => intro n; cases n <;> simp [lenIs]
  | cons x xs ih => intro n; cases n <;> simp [lenIs, ih]
theorem kEq_iff {k k' : IntKind} : kEq k k' = true ↔ k = k' := by
  cases k <;> cases k' <;> simp [kEq, IntKind.ctorIdx] <;> decide

variable {X : Sx} {rc : Option Bool} {tm : List SV} {sto : List SB}

theorem constK_eq {v : Value} {K : AVal → Prop} : constK v K = K (ofVal v) := by
  unfold constK
  split <;> first | rfl | (rw [forceK_eq]; rfl)

theorem den_getD {t : Nat} : (tm.map SV.den).getD t .dead = (tm.getD t (.v .dead)).den := by
  rw [List.getD_eq_getElem?_getD, List.getD_eq_getElem?_getD, List.getElem?_map]
  cases tm[t]? <;> rfl
theorem sden_getD {b : Nat} : ∀ {B : SB}, sto.getD b .gone = B → B ≠ .gone → (sto.map SB.den)[b]? = some B.den := by
  intro B h hne
  rw [List.getD_eq_getElem?_getD] at h
  rw [List.getElem?_map]
  cases hb : sto[b]? with
  | none => rw [hb] at h; exact (hne h.symm).elim
  | some B' => rw [hb] at h; simp at h; subst h; rfl

theorem ob_mk {p : Prop} (h : Ob rc p) : When rc → p := ob_iff.1 h

theorem opdK_sound {x : Operand} {K : AVal → Prop} (h : opdK X rc tm x K) : ∃ v, (When rc → tmpEval X.C (tm.map SV.den) x = v) ∧ K v := by
  cases x with
  | tmp t =>
    simp only [opdK, getK_eq] at h
    have e : tmpEval X.C (tm.map SV.den) (.tmp t) = (tm.getD t (.v .dead)).den := den_getD
    rw [e]
    split at h
    · rename_i x hx; exact ⟨x, fun _ => by rw [hx]; rfl, h⟩
    · rename_i b x hx
      unfold HOb at h
      exact ⟨x, fun hw => by rw [hx]; simp [SV.den, ob_mk h.1 hw], h.2⟩
  | const v => simp only [opdK, constK_eq] at h; exact ⟨_, fun _ => rfl, h⟩
  | func f => exact ⟨_, fun _ => rfl, h⟩
  | global g => exact ⟨_, fun _ => rfl, h⟩
theorem opdK_none {x : Operand} {K : AVal → Prop} (h : opdK X none tm x K) : ∃ v, tmpEval X.C (tm.map SV.den) x = v ∧ K v := by
  obtain ⟨v, h1, h2⟩ := opdK_sound h
  exact ⟨v, h1 trivial, h2⟩
theorem svK_sound {x : Operand} {K : SV → Prop} (h : svK X tm x K) : ∃ v : SV, tmpEval X.C (tm.map SV.den) x = v.den ∧ K v := by
  cases x with
  | tmp t => simp only [svK, getK_eq] at h; exact ⟨_, den_getD, h⟩
  | const v => simp only [svK, constK_eq] at h; exact ⟨_, rfl, h⟩
  | func f => exact ⟨_, rfl, h⟩
  | global g => exact ⟨_, rfl, h⟩
theorem opdsK_sound : ∀ {xs : List Operand} {K : List AVal → Prop}, opdsK X rc tm xs K → ∃ vs, (When rc → xs.map (tmpEval X.C (tm.map SV.den)) = vs) ∧ K vs := by
  intro xs
  induction xs with
  | nil => intro K h; exact ⟨[], fun _ => rfl, h⟩
  | cons x xs ih =>
    intro K h
    obtain ⟨v, h1, h2⟩ := opdK_sound h
    obtain ⟨vs, h3, h4⟩ := ih h2
    exact ⟨v :: vs, fun hw => by simp [h1 hw, h3 hw], h4⟩
theorem optK_sound {x : Option Operand} {K : Option AVal → Prop} (h : optK X rc tm x K) : ∃ v, (When rc → x.map (tmpEval X.C (tm.map SV.den)) = v) ∧ K v := by
  cases x with
  | none => exact ⟨none, fun _ => rfl, h⟩
  | some x => obtain ⟨v, h1, h2⟩ := opdK_sound h; exact ⟨some v, fun hw => by simp [h1 hw], h2⟩
theorem partsK_sound : ∀ {xs : List (Nat × Operand)} {K : List (Nat × AVal) → Prop}, partsK X rc tm xs K → ∃ vs, (When rc → xs.map (fun p => (p.1, tmpEval X.C (tm.map SV.den) p.2)) = vs) ∧ K vs := by
  intro xs
  induction xs with
  | nil => intro K h; exact ⟨[], fun _ => rfl, h⟩
  | cons p xs ih =>
    obtain ⟨f, x⟩ := p
    intro K h
    obtain ⟨v, h1, h2⟩ := opdK_sound h
    obtain ⟨vs, h3, h4⟩ := ih h2
    exact ⟨(f, v) :: vs, fun hw => by simp [h1 hw]; simpa using h3 hw, h4⟩

theorem cellsK_eq {x : AVal} {K : List AVal → Prop} : cellsK x K = K x.cells := by cases x <;> rfl
theorem mkVK_sound {ag : Bool} {cs : List AVal} {K : AVal → Prop} (h : mkVK ag cs K) : ∃ v, mkV ag cs = some v ∧ K v := by
  cases ag with
  | true => exact ⟨_, rfl, h⟩
  | false =>
    match cs, h with
    | [x], h => exact ⟨x, rfl, h⟩
theorem layK_sound {t : TypeId} {K : Bool → Nat → Prop} (h : layK X t K) : ∃ a n, lay X.C.P t = some (a, n) ∧ szOf X.C.P t = n ∧ K a n := by
  unfold layK at h
  split at h
  · rename_i i hi
    obtain ⟨a, n, _, _, _, _, _, _, _, _, _, _, _⟩ := i
    exact ⟨a, n, (X.ok t _ hi).lay, (X.ok t _ hi).size, h⟩
  · exact h.elim
theorem cellN_eq (a : Bool) (n : Nat) : cellN a n = if a = true then n else 1 := by cases a <;> rfl
theorem elemK_sound {t : TypeId} {K : TypeId → Nat → Prop} (h : elemK X t K) : ∃ e n, elemT X.C.P t = some e ∧ szOf X.C.P e = n ∧ (∃ j, X.TI e = some j) ∧ K e n := by
  unfold elemK at h
  split at h
  · rename_i i hi
    split at h
    · rename_i e he
      split at h
      · rename_i j hj
        obtain ⟨a, n, _, _, _, _, _, _, _, _, _, _, _⟩ := j
        exact ⟨e, n, by rw [(X.ok t _ hi).elem, he], (X.ok e _ hj).size, ⟨_, hj⟩, h⟩
      · exact h.elim
    · exact h.elim
  · exact h.elim
theorem zeroK_sound {t : TypeId} {K : List AVal → Prop} (h : zeroK X t K) : ∃ z, zeroT X.C.P t = some z ∧ K z := by
  unfold zeroK at h
  split at h
  · rename_i i hi
    rw [forceK_eq] at h
    exact ⟨_, (X.ok t _ hi).zero, h⟩
  · exact h.elim

theorem hwrap {k : IntKind} {e : Int} {K : Int → Prop} (h : HWrap rc k e K) : ∃ n, (When rc → k.wrap e = n) ∧ K n := by
  unfold HWrap at h; obtain ⟨n, h1, h2⟩ := h; exact ⟨n, ob_mk h1, h2⟩
theorem hob {p K : Prop} (h : HOb rc p K) : (When rc → p) ∧ K := by unfold HOb at h; exact ⟨ob_mk h.1, h.2⟩
theorem hob0 {p K : Prop} (h : HOb none p K) : p ∧ K := ⟨(hob h).1 trivial, (hob h).2⟩

theorem binIntK_sound {op : BinOp} {k : IntKind} {a b : Int} {K : AVal → Prop} (h : binIntK rc op k a b K) : ∃ v, (When rc → intA op k a b = some v) ∧ K v := by
  unfold binIntK at h
  cases op <;> simp only at h <;> try exact h.elim
  case add => obtain ⟨n, h1, h2⟩ := hwrap h; exact ⟨_, fun hw => by simp [intA, h1 hw], h2⟩
  case sub => obtain ⟨n, h1, h2⟩ := hwrap h; exact ⟨_, fun hw => by simp [intA, h1 hw], h2⟩
  case mul => obtain ⟨n, h1, h2⟩ := hwrap h; exact ⟨_, fun hw => by simp [intA, h1 hw], h2⟩
  case quo => unfold HQuo at h; obtain ⟨n, h1, h2⟩ := h; exact ⟨_, fun hw => by have := ob_mk h1 hw; simp [intA, this.1, this.2], h2⟩
  case rem => unfold HRem at h; obtain ⟨n, h1, h2⟩ := h; exact ⟨_, fun hw => by have := ob_mk h1 hw; simp [intA, this.1, this.2], h2⟩
  case and => unfold HBits at h; obtain ⟨n, h1, h2⟩ := h; exact ⟨_, fun hw => by simp [intA, ob_mk h1 hw], h2⟩
  case or => unfold HBits at h; obtain ⟨n, h1, h2⟩ := h; exact ⟨_, fun hw => by simp [intA, ob_mk h1 hw], h2⟩
  case xor => unfold HBits at h; obtain ⟨n, h1, h2⟩ := h; exact ⟨_, fun hw => by simp [intA, ob_mk h1 hw], h2⟩
  case andNot => unfold HBits at h; obtain ⟨n, h1, h2⟩ := h; exact ⟨_, fun hw => by simp [intA, ob_mk h1 hw], h2⟩
  all_goals exact ⟨_, fun _ => by simp [intA], h⟩
theorem binStrK_sound {op : BinOp} {a b : List UInt8} {K : AVal → Prop} (h : binStrK rc op a b K) : ∃ v, (When rc → strA op a b = some v) ∧ K v := by
  unfold binStrK at h
  cases op <;> simp only at h <;> try exact h.elim
  case add => exact ⟨_, fun hw => by simp [strA, (hob h).1 hw], (hob h).2⟩
  all_goals exact ⟨_, fun _ => by simp [strA], h⟩
theorem eqLK_sound : ∀ {ks : List LK} {xs ys : List AVal} {K : Bool → Prop}, eqLK ks xs ys K → ∃ r, eqL ks xs ys = some r ∧ K r := by
  intro ks
  induction ks with
  | nil =>
    intro xs ys K h
    match xs, ys, h with
    | [], [], h => exact ⟨true, rfl, h⟩
  | cons k ks ih =>
    intro xs ys K h
    match xs, ys, h with
    | x :: xs, y :: ys, h =>
      cases k with
      | i =>
        cases x <;> simp only [eqLK] at h <;> try exact h.elim
        cases y <;> simp only [eqLK] at h <;> try exact h.elim
        obtain ⟨h1, h2⟩ := ifK_iff.1 h
        obtain ⟨r, h3, h4⟩ := ih h2
        exact ⟨_, by simp [eqL, h3, kEq_iff.1 h1], h4⟩
      | b =>
        cases x <;> simp only [eqLK] at h <;> try exact h.elim
        cases y <;> simp only [eqLK] at h <;> try exact h.elim
        obtain ⟨r, h3, h4⟩ := ih h
        exact ⟨_, by simp [eqL, h3], h4⟩
      | s =>
        cases x <;> simp only [eqLK] at h <;> try exact h.elim
        cases y <;> simp only [eqLK] at h <;> try exact h.elim
        obtain ⟨r, h3, h4⟩ := ih h
        exact ⟨_, by simp [eqL, h3], h4⟩
theorem eqK_sound {t : TypeId} {x y : AVal} {K : Bool → Prop} (h : eqK X t x y K) : ∃ r, eqA X.C.P t x y = some r ∧ K r := by
  cases x <;> simp only [eqK] at h <;> try exact h.elim
  · cases y <;> simp only [eqK] at h <;> try exact h.elim
    split at h
    · rename_i i hi
      obtain ⟨h1, h2⟩ := ifK_iff.1 h
      exact ⟨_, by simp [eqA, (X.ok t _ hi).bool, h1], h2⟩
    · exact h.elim
  · cases y <;> simp only [eqK] at h <;> try exact h.elim
    split at h
    · rename_i i hi
      obtain ⟨h1, h2⟩ := ifK_iff.1 h
      exact ⟨_, by simp [eqA, (X.ok t _ hi).func, h1], h2⟩
    · exact h.elim
  · cases y <;> simp only [eqK] at h <;> try exact h.elim
    split at h
    · rename_i i hi
      obtain ⟨h1, h2⟩ := ifK_iff.1 h
      exact ⟨_, by simp [eqA, (X.ok t _ hi).func, h1], h2⟩
    · exact h.elim
  · cases y <;> simp only [eqK] at h <;> try exact h.elim
    split at h
    · rename_i i hi
      obtain ⟨h1, h2⟩ := ifK_iff.1 h
      split at h2
      · rename_i ks hks
        obtain ⟨r, h3, h4⟩ := eqLK_sound h2
        exact ⟨r, by simp [eqA, (X.ok t _ hi).lay, h1, (X.ok t _ hi).leaves _ hks, h3], h4⟩
      · exact h2.elim
    · exact h.elim
theorem binK_sound {op : BinOp} {t : TypeId} {x y : AVal} {K : AVal → Prop} (h : binK X rc op t x y K) : ∃ v, (When rc → binA X.C.P op t x y = some v) ∧ K v := by
  cases x with
  | int k a =>
    cases y <;> simp only [binK] at h <;> try exact h.elim
    rename_i k' b
    cases op <;> simp only at h
    case shl => unfold HShl at h; obtain ⟨n, h1, h2⟩ := h; exact ⟨_, fun hw => by have := ob_mk h1 hw; simp [binA, shiftA, Int.not_lt.2 this.1, this.2], h2⟩
    case shr => unfold HShr at h; obtain ⟨n, h1, h2⟩ := h; exact ⟨_, fun hw => by have := ob_mk h1 hw; simp [binA, shiftA, Int.not_lt.2 this.1, this.2], h2⟩
    all_goals
      obtain ⟨h1, h2⟩ := ifK_iff.1 h
      have e := kEq_iff.1 h1
      subst e
      obtain ⟨v, h3, h4⟩ := binIntK_sound h2
      exact ⟨v, fun hw => by have := h3 hw; simpa only [binA, if_true] using this, h4⟩
  | str a =>
    cases y <;> simp only [binK] at h <;> try exact h.elim
    obtain ⟨v, h3, h4⟩ := binStrK_sound h
    exact ⟨v, fun hw => by simpa [binA] using h3 hw, h4⟩
  | _ =>
    cases op <;> simp only [binK] at h <;> try exact h.elim
    all_goals (obtain ⟨r, h3, h4⟩ := eqK_sound h; exact ⟨_, fun _ => by simp [binA, h3], h4⟩)
theorem unK_sound {op : UnOp} {x : AVal} {K : AVal → Prop} (h : unK rc op x K) : ∃ v, (When rc → unA op x = some v) ∧ K v := by
  unfold unK at h
  cases op <;> simp only at h <;> try exact h.elim
  all_goals cases x <;> simp only at h <;> try exact h.elim
  · obtain ⟨n, h1, h2⟩ := hwrap h; exact ⟨_, fun hw => by have := h1 hw; simp [unA] at this ⊢; exact this, h2⟩
  · unfold HBits at h; obtain ⟨n, h1, h2⟩ := h; exact ⟨_, fun hw => by simp [unA, ob_mk h1 hw], h2⟩
  · exact ⟨_, fun _ => rfl, h⟩
end Go.Proofs.YtaajfbcopafkaaaGreatDoor.Ai

namespace Go.Proofs.YtaajfbcopafkaaaGreatDoor.Ai
open Go
set_option linter.unusedVariables false
set_option linter.unusedSimpArgs false
set_option linter.unusedSectionVars false

variable {X : Sx} {rc : Option Bool} {tm : List SV} {sto : List SB}

theorem mkBuf_some {t sz : Nat} {rows : List (List AVal)} (h : rows ≠ []) : mkBuf t sz rows = .buf t sz rows none := by unfold mkBuf; rw [if_neg h]
theorem sb_cur {b m : Nat} {B : SB} (hb : sto.getD b .gone = B) (hm : curSB B = some m) : curOf (sto.map SB.den) b = some m := by
  have hne : B ≠ .gone := by intro e; subst e; cases hm
  unfold curOf
  rw [sden_getD hb hne]
  cases B with
  | buf t sz rows cap => simpa [SB.den, curSB] using hm
  | mk t sz rows =>
    simp only [SB.den, mkBuf]
    by_cases h : rows = []
    · subst h; simpa [curSB] using hm
    · simpa [h, curSB] using hm
  | arr t sz rows => simpa [SB.den, curSB] using hm
  | _ => cases hm
theorem rowsOf_sb {b : Nat} {B : SB} {t sz : Nat} {rows : List (List AVal)} (hb : sto.getD b .gone = B) (hB : (∃ cap, B = .buf t sz rows cap) ∨ B = .mk t sz rows) : rowsOf (sto.map SB.den) (.bsl b rows.length) = some (sz, rows) := by
  have hne : B ≠ .gone := by rcases hB with ⟨c, rfl⟩ | rfl <;> intro e <;> cases e
  unfold rowsOf
  simp only [sden_getD hb hne]
  rcases hB with ⟨c, rfl⟩ | rfl
  · simp [SB.den]
  · simp only [SB.den, mkBuf]
    by_cases h : rows = []
    · subst h; simp
    · simp [h]
theorem rowsK_sound {x : AVal} {K : Nat → List (List AVal) → Prop} (h : rowsK rc sto x K) : ∃ sz rows, (When rc → rowsOf (sto.map SB.den) x = some (sz, rows)) ∧ K sz rows := by
  cases x <;> simp only [rowsK, getK_eq] at h <;> try exact h.elim
  · exact ⟨_, _, fun _ => rfl, h⟩
  · split at h
    · rename_i t sz rows cap hB
      obtain ⟨h1, h2⟩ := hob h
      exact ⟨sz, rows, fun hw => by rw [← h1 hw]; exact rowsOf_sb hB (.inl ⟨_, rfl⟩), h2⟩
    · rename_i t sz rows hB
      obtain ⟨h1, h2⟩ := hob h
      exact ⟨sz, rows, fun hw => by rw [← h1 hw]; exact rowsOf_sb hB (.inr rfl), h2⟩
    · exact h.elim
theorem hrow {rows : List (List AVal)} {i : Nat} {K : List AVal → Prop} (h : HRow rc rows i K) : ∃ r, (When rc → rows[i]? = some r) ∧ K r := by
  unfold HRow at h; obtain ⟨r, h1, h2⟩ := h; exact ⟨r, ob_mk h1, h2⟩
theorem takeN_of {n : Nat} {l : List AVal} (h : n ≤ l.length) : takeN n l = some (l.take n) := by unfold takeN; rw [if_pos h]
theorem rdK_sound {p : AVal} {n : Nat} {K : List AVal → Prop} (h : rdK rc sto p n K) : ∃ cs, (When rc → rdCells (sto.map SB.den) p n = some cs) ∧ K cs := by
  cases p <;> simp only [rdK, getK_eq, dropK_eq] at h <;> try exact h.elim
  · unfold HRd at h
    obtain ⟨ds, h1, h2⟩ := h
    exact ⟨ds, fun hw => by have := ob_mk h1 hw; simp only [rdCells]; rw [takeN_of this.1, this.2], h2⟩
  · split at h
    · rename_i t cs hB
      obtain ⟨h1, h2⟩ := takeK_sound h
      exact ⟨_, fun _ => by simp only [rdCells, sden_getD hB (by intro e; cases e), SB.den]; exact takeN_of h1, h2⟩
    · exact h.elim
  · rename_i b m i j
    split at h
    · rename_i t sz rows cap hB
      obtain ⟨h1, h2⟩ := hob h
      obtain ⟨r, h3, h4⟩ := hrow h2
      obtain ⟨h5, h6⟩ := takeK_sound h4
      exact ⟨_, fun hw => by simp only [rdCells, sden_getD hB (by intro e; cases e), SB.den]; rw [if_pos (h1 hw), h3 hw]; exact takeN_of h5, h6⟩
    · rename_i t sz rows hB
      obtain ⟨h1, h2⟩ := hob h
      obtain ⟨r, h3, h4⟩ := hrow h2
      obtain ⟨h5, h6⟩ := takeK_sound h4
      refine ⟨_, fun hw => ?_, h6⟩
      have hne : rows ≠ [] := by intro e; subst e; have := h3 hw; cases this
      simp only [rdCells, sden_getD hB (by intro e; cases e), SB.den, mkBuf_some hne]; rw [if_pos (h1 hw), h3 hw]; exact takeN_of h5
    · rename_i t sz rows hB
      obtain ⟨h1, h2⟩ := hob h
      obtain ⟨r, h3, h4⟩ := hrow h2
      obtain ⟨h5, h6⟩ := takeK_sound h4
      exact ⟨_, fun hw => by simp only [rdCells, sden_getD hB (by intro e; cases e), SB.den]; rw [if_pos (h1 hw), h3 hw]; exact takeN_of h5, h6⟩
    · exact h.elim
theorem solidK_sound {x : AVal} {K : Prop} (h : solidK sto x K) : solid (sto.map SB.den) x = true ∧ K := by
  cases x <;> simp only [solidK, getK_eq] at h <;> first | exact h.elim | exact ⟨rfl, h⟩ | skip
  all_goals
    split at h
    · rename_i m hm
      obtain ⟨h1, h2⟩ := hob0 h
      exact ⟨by simp [solid, sb_cur rfl hm, h1], h2⟩
    · exact h.elim
theorem solidsK_sound : ∀ {cs : List AVal} {K : Prop}, solidsK sto cs K → cs.all (solid (sto.map SB.den)) = true ∧ K := by
  intro cs
  induction cs with
  | nil => intro K h; exact ⟨rfl, h⟩
  | cons x xs ih =>
    intro K h
    obtain ⟨h1, h2⟩ := solidK_sound h
    obtain ⟨h3, h4⟩ := ih h2
    exact ⟨by rw [List.all_cons, h1, h3]; rfl, h4⟩
theorem wrK_sound {p : AVal} {vs : List AVal} {K : Nat → SB → Prop} (h : wrK sto p vs K) : ∃ b B, wrCells (sto.map SB.den) p vs = some (b, SB.den B) ∧ K b B := by
  cases p <;> simp only [wrK, getK_eq] at h <;> try exact h.elim
  · split at h
    · rename_i t cs hB
      obtain ⟨h1, h2⟩ := overK_sound h
      exact ⟨_, _, by simp only [wrCells, sden_getD hB (by intro e; cases e), SB.den]; rw [if_pos h1], h2⟩
    · exact h.elim
  · rename_i b m i j
    obtain ⟨h0, h⟩ := ifK_iff.1 h
    split at h
    · rename_i t sz rows cap hB
      obtain ⟨h1, h2⟩ := hob0 h
      obtain ⟨r, h3, h4⟩ := hrow h2
      obtain ⟨h5, h6⟩ := overK_sound h4
      unfold HSetR at h6
      obtain ⟨rows', rfl, h7⟩ := h6
      exact ⟨_, _, by simp only [wrCells, sden_getD hB (by intro e; cases e), SB.den]; rw [if_pos h1, h3 trivial]; simp only [if_pos h5]; rw [if_pos h0], h7⟩
    · rename_i t sz rows hB
      obtain ⟨h1, h2⟩ := hob0 h
      obtain ⟨r, h3, h4⟩ := hrow h2
      obtain ⟨h5, h6⟩ := overK_sound h4
      unfold HSetR at h6
      obtain ⟨rows', rfl, h7⟩ := h6
      have hne : rows ≠ [] := by intro e; subst e; have := h3 trivial; cases this
      have hne' : rows.set i (setAt r j vs) ≠ [] := by intro e; exact hne (by have := congrArg List.length e; simpa using this)
      exact ⟨_, _, by simp only [wrCells, sden_getD hB (by intro e; cases e), SB.den, mkBuf_some hne, mkBuf_some hne']; rw [if_pos h1, h3 trivial]; simp only [if_pos h5]; rw [if_pos h0], h7⟩
    · exact h.elim
theorem ptrAddK_sound {p : AVal} {off : Nat} {K : AVal → Prop} (h : ptrAddK rc sto p off K) : ∃ v, (When rc → ptrAdd (sto.map SB.den) p off = some v) ∧ K v := by
  cases p <;> simp only [ptrAddK, getK_eq, addK_eq, dropK_eq] at h <;> try exact h.elim
  · exact ⟨_, fun _ => rfl, h⟩
  · exact ⟨_, fun _ => rfl, h⟩
  · split at h
    · rename_i m hm
      obtain ⟨h1, h2⟩ := hob h
      exact ⟨_, fun hw => by simp only [ptrAdd, sb_cur rfl hm, h1 hw, if_true], h2⟩
    · exact h.elim
theorem cellsOKK_sound {x : AVal} {K : Prop} (h : cellsOKK sto x K) : cellsOK (sto.map SB.den) x = true ∧ K := by
  cases x <;> simp only [cellsOKK, getK_eq] at h <;> first | exact h.elim | exact ⟨rfl, h⟩ | skip
  all_goals
    split at h
    · rename_i m hm
      obtain ⟨h1, h2⟩ := hob0 h
      exact ⟨by simp [cellsOK, sb_cur rfl hm, h1], h2⟩
    · exact h.elim
theorem partK_sound {t f : Nat} {K : Nat → Nat → Prop} (h : partK X t f K) : ∃ off n, partA X.C.P t f = some (off, n) ∧ K off n := by
  unfold partK at h
  split at h
  · rename_i i hi
    split at h
    · rename_i pl hpl
      split at h
      · rename_i off n hp
        exact ⟨off, n, by simp only [partA, (X.ok t _ hi).parts, hpl]; exact hp, h⟩
      · exact h.elim
    · rename_i hpl
      split at h
      · rename_i n' e he
        obtain ⟨a, n, h1, h2, h3⟩ := layK_sound h
        rw [natK_eq] at h3
        exact ⟨_, _, by simp only [partA, (X.ok t _ hi).parts, hpl, (X.ok t _ hi).arr, he, Option.bind_some, h1, Option.map_some], h3⟩
      · exact h.elim
  · exact h.elim
theorem goBK_sound {t : Nat} : ∀ {parts : List (Nat × AVal)} {cs : List AVal} {K : List AVal → Prop}, goBK X sto t cs parts K → ∃ ds, goB X.C.P (sto.map SB.den) t cs parts = some ds ∧ K ds := by
  intro parts
  induction parts with
  | nil => intro cs K h; exact ⟨cs, rfl, h⟩
  | cons p rest ih =>
    obtain ⟨f, v⟩ := p
    intro cs K h
    obtain ⟨off, n, h1, h2⟩ := partK_sound h
    obtain ⟨h3, h4⟩ := cellsOKK_sound h2
    rw [cellsK_eq] at h4
    obtain ⟨h5, h6⟩ := ifK_iff.1 h4
    obtain ⟨h7, h8⟩ := overK_sound h6
    obtain ⟨ds, h9, h10⟩ := ih h8
    exact ⟨ds, by simp only [goB, h1, h3, if_true, if_pos (lenIs_iff.1 h5), if_pos h7, h9], h10⟩
theorem goRK_sound {e n : Nat} (hn : szOf X.C.P e = n) : ∀ {parts : List (Nat × AVal)} {rows : List (List AVal)} {K : List (List AVal) → Prop}, goRK X sto n rows parts K → ∃ ds, goR X.C.P (sto.map SB.den) e rows parts = some ds ∧ K ds := by
  intro parts
  induction parts with
  | nil => intro cs K h; exact ⟨cs, rfl, h⟩
  | cons p rest ih =>
    obtain ⟨i, v⟩ := p
    intro rows K h
    obtain ⟨h3, h4⟩ := cellsOKK_sound h
    rw [cellsK_eq] at h4
    obtain ⟨h5, h6⟩ := ifK_iff.1 h4
    obtain ⟨h7, h8⟩ := ifK_iff.1 h6
    rw [setK_eq] at h8
    obtain ⟨ds, h9, h10⟩ := ih h8
    have h7' : i < rows.length := by simpa using h7
    exact ⟨ds, by simp only [goR, h3, if_true, hn, if_pos (lenIs_iff.1 h5), if_pos h7', h9], h10⟩
theorem bldK_sound {t : Nat} {K : Prop} (h : bldK X t K) : ((structT X.C.P t).isSome || ((arrT X.C.P t).bind fun p => lay X.C.P p.2).isSome) = true ∧ K := by
  unfold bldK at h
  split at h
  · rename_i i hi
    split at h
    · rename_i pl hpl; exact ⟨by simp [(X.ok t _ hi).parts, hpl], h⟩
    · split at h
      · rename_i n' e he
        obtain ⟨a, n, h1, h2, h3⟩ := layK_sound h
        exact ⟨by simp [(X.ok t _ hi).arr, he, h1], h3⟩
      · exact h.elim
  · exact h.elim
theorem hnat {n : Int} {K : Nat → Prop} (h : HNat rc n K) : ∃ m, (When rc → 0 ≤ n ∧ n.toNat = m) ∧ K m := by
  unfold HNat at h; obtain ⟨m, h1, h2⟩ := h; exact ⟨m, ob_mk h1, h2⟩
theorem hlen {rows : List (List AVal)} {K : Nat → Prop} (h : HLen rows K) : K rows.length := by
  unfold HLen at h; obtain ⟨m, rfl, h2⟩ := h; exact h2
theorem natOfK_sound {x : AVal} {K : Nat → Prop} (h : natOfK rc x K) : ∃ m, (When rc → asNat x = some m) ∧ K m := by
  cases x <;> simp only [natOfK] at h <;> try exact h.elim
  obtain ⟨m, h1, h2⟩ := hnat h
  exact ⟨m, fun hw => by have := h1 hw; simp [asNat, this.1, this.2], h2⟩
theorem loK_sound {lo : Option AVal} {K : Nat → Prop} (h : cutK.loK rc lo K) : ∃ l, (When rc → optNat 0 lo = some l) ∧ K l := by
  unfold cutK.loK at h
  cases lo with
  | none => exact ⟨0, fun _ => rfl, h⟩
  | some v => exact natOfK_sound h
theorem hiK_sound {rows : List (List AVal)} {hi : Option AVal} {K : Nat → Prop} (h : cutK.hiK rc rows hi K) : ∃ l, (When rc → optNat rows.length hi = some l) ∧ K l := by
  unfold cutK.hiK at h
  cases hi with
  | none => exact ⟨_, fun _ => rfl, hlen h⟩
  | some v => exact natOfK_sound h
theorem cutK_sound {sz : Nat} {rows : List (List AVal)} {cap : Option Nat} {capK : Nat → (Option Nat → Prop) → Prop} (hcap : ∀ l K, capK l K → K (cap.map (· - l))) {lo hi mx : Option AVal} {K : AVal → Prop} (h : cutK rc sz rows capK lo hi mx K) :
    ∃ v, (When rc → cutRows sz rows cap lo hi mx = some v) ∧ K v := by
  unfold cutK at h
  obtain ⟨l, h1, h⟩ := loK_sound h
  obtain ⟨h', h2, h⟩ := hiK_sound h
  obtain ⟨h3, h⟩ := hob h
  cases mx with
  | none =>
    obtain ⟨h4, h⟩ := hob h
    unfold HCut at h
    obtain ⟨rows', rfl, h5⟩ := h
    exact ⟨_, fun hw => by simp only [cutRows, h1 hw, h2 hw, if_pos (h3 hw), if_pos (h4 hw)], hcap _ _ h5⟩
  | some m =>
    cases hi with
    | none => exact h.elim
    | some v =>
      obtain ⟨m', h4, h⟩ := natOfK_sound h
      obtain ⟨h5, h⟩ := hob h
      obtain ⟨h6, h⟩ := hob h
      unfold HCut at h
      obtain ⟨rows', rfl, h7⟩ := h
      exact ⟨_, fun hw => by simp only [cutRows, h1 hw, h2 hw, if_pos (h3 hw), h4 hw, if_pos (h5 hw), if_pos (h6 hw)], h7⟩
theorem capLK_sound {cap : Option Nat} {l : Nat} {K : Option Nat → Prop} (h : capLK cap l K) : K (cap.map (· - l)) := by
  cases cap <;> exact h
theorem convK_sound {own : Bool} {src dst : Nat} {x : AVal} {K : AVal → Prop} (h : convK X rc sto own src dst x K) : ∃ v, (When rc → convA X.C.P (sto.map SB.den) own src dst x = some v) ∧ K v := by
  unfold convK at h
  split at h
  · exact h.elim
  · rename_i si hs
    split at h
    · exact h.elim
    · rename_i di hd
      have S := X.ok _ _ hs
      have D := X.ok _ _ hd
      have slow : ∀ x : AVal, (∀ k n, x ≠ .int k n) → (∀ s, x ≠ .str s) → ifK di.str (match si.elem with
        | some e => (match X.TI e with
          | some ei => rowsK rc sto x fun sz rows => HOb rc (sz = 1 ∨ rows.length = 0) (match ei.intk with
            | some .u8 => HBytes rc rows fun s => K (.str s)
            | some .i32 => HRunes rc rows fun l => K (.str (l.map encRune).flatten)
            | _ => False)
          | none => False)
        | none => False) → ∃ v, (When rc → convA X.C.P (sto.map SB.den) own src dst x = some v) ∧ K v := by
        intro x hx1 hx2 h
        obtain ⟨h1, h2⟩ := ifK_iff.1 h
        split at h2
        · rename_i e he
          split at h2
          · rename_i ei hei
            have EI := X.ok _ _ hei
            obtain ⟨sz, rows, h3, h4⟩ := rowsK_sound h2
            obtain ⟨h5, h6⟩ := hob h4
            have e0 : ∀ v, (if strT X.C.P dst = true then (match elemT X.C.P src, rowsOf (sto.map SB.den) x with
              | some e, some (sz, rows) => if sz = 1 ∨ rows.length = 0 then (match intT X.C.P e with
                | some .u8 => (bytesOfRows rows).map fun s => AVal.str s
                | some .i32 => (runesOfRows rows).map fun l => AVal.str (l.map encRune).flatten
                | _ => none) else none
              | _, _ => none) else none) = some v → convA X.C.P (sto.map SB.den) own src dst x = some v := by
              intro v hv
              unfold convA
              rw [if_pos S.ok]
              cases x <;> first | exact hv | exact (hx1 _ _ rfl).elim | exact (hx2 _ rfl).elim
            split at h6
            · rename_i hk
              unfold HBytes at h6
              obtain ⟨s, h7, h8⟩ := h6
              exact ⟨_, fun hw => e0 _ (by rw [D.str, h1, S.elem, he, h3 hw]; simp only [if_true, if_pos (h5 hw), EI.intk, hk, ob_mk h7 hw, Option.map_some]), h8⟩
            · rename_i hk
              unfold HRunes at h6
              obtain ⟨s, h7, h8⟩ := h6
              exact ⟨_, fun hw => e0 _ (by rw [D.str, h1, S.elem, he, h3 hw]; simp only [if_true, if_pos (h5 hw), EI.intk, hk, ob_mk h7 hw, Option.map_some]), h8⟩
            · exact h6.elim
          · exact h2.elim
        · exact h2.elim
      cases x with
      | int k n =>
        simp only at h
        split at h
        · rename_i k' hk
          obtain ⟨m, h1, h2⟩ := hwrap h
          exact ⟨_, fun hw => by simp only [convA, S.ok, if_true, D.intk, hk, h1 hw], h2⟩
        · rename_i hk
          obtain ⟨h1, h2⟩ := ifK_iff.1 h
          exact ⟨_, fun hw => by simp only [convA, S.ok, if_true, D.intk, hk, D.str, h1], h2⟩
      | str s =>
        simp only at h
        split at h
        · rename_i h1
          exact ⟨_, fun hw => by simp only [convA, S.ok, if_true, D.str, h1], h⟩
        · rename_i h1
          split at h
          · exact h.elim
          · split at h
            · rename_i e he
              split at h
              · rename_i ei hei
                have EI := X.ok _ _ hei
                split at h
                · rename_i hk
                  obtain ⟨h2, h3⟩ := hob h
                  exact ⟨_, fun hw => by simp only [convA, S.ok, if_true, D.str, h1, Bool.false_eq_true, if_false, D.elem, he, if_pos (h2 hw), EI.intk, hk], h3⟩
                · rename_i hk
                  obtain ⟨h2, h3⟩ := hob h
                  exact ⟨_, fun hw => by simp only [convA, S.ok, if_true, D.str, h1, Bool.false_eq_true, if_false, D.elem, he, if_pos (h2 hw), EI.intk, hk], h3⟩
                · exact h.elim
              · exact h.elim
            · exact h.elim
      | _ => exact slow _ (by intro k n e; cases e) (by intro s e; cases e) h
theorem lenSK_sound {t : Nat} {x : AVal} {K : AVal → Prop} (h : lenSK X rc sto t x K) : ∃ v, (When rc → lenS X.C.P (sto.map SB.den) t x = some v) ∧ K v := by
  unfold lenSK at h
  split at h
  · exact h.elim
  · rename_i i hi
    have T := X.ok _ _ hi
    cases x <;> simp only [getK_eq] at h <;> try exact h.elim
    · obtain ⟨h1, h2⟩ := ifK_iff.1 h
      exact ⟨_, fun _ => by simp [lenS, lenA, T.str, h1], h2⟩
    · obtain ⟨h1, h2⟩ := ifK_iff.1 h
      exact ⟨_, fun _ => by simp [lenS, lenA, T.elem, h1], hlen h2⟩
    · split at h
      · rename_i n e he
        exact ⟨_, fun _ => by simp [lenS, lenA, T.arr, he], h⟩
      · exact h.elim
    · obtain ⟨h1, h2⟩ := ifK_iff.1 h
      split at h2
      · rename_i m hm
        obtain ⟨h3, h4⟩ := hob h2
        exact ⟨_, fun hw => by simp [lenS, T.elem, h1, sb_cur rfl hm, h3 hw], h4⟩
      · exact h2.elim
theorem capSK_sound {t : Nat} {x : AVal} {K : AVal → Prop} (h : capSK X rc sto t x K) : ∃ v, (When rc → capA X.C.P (sto.map SB.den) t x = some v) ∧ K v := by
  unfold capSK at h
  split at h
  · exact h.elim
  · rename_i i hi
    have T := X.ok _ _ hi
    obtain ⟨h1, h⟩ := ifK_iff.1 h
    split at h
    · exact ⟨_, fun _ => by simp [capA, T.elem, h1], h⟩
    · rw [getK_eq] at h
      split at h
      · rename_i t' sz rows c hB
        obtain ⟨h3, h4⟩ := hob h
        exact ⟨_, fun hw => by simp only [capA, sden_getD hB (by intro e; cases e), SB.den]; rw [if_pos (h3 hw), if_pos (by rw [T.elem]; exact h1)], h4⟩
      · exact h.elim
    · exact h.elim
theorem idxK_sound {t : Nat} {x : AVal} {n : Int} {K : AVal → Prop} (h : idxK X rc sto t x n K) : ∃ v, (When rc → idxA X.C.P (sto.map SB.den) t x n = some v) ∧ K v := by
  have arr : ∀ x : AVal, (match X.TI t with
    | some i => (match i.arr with
      | some (k, e) => layK X e fun _ s => HNat rc n fun i => HOb rc (i < k) (natK (i * s) fun off => ptrAddK rc sto x off K)
      | none => False)
    | none => False) → (∀ sz rows c, x ≠ .slc sz rows c) → (∀ b m, x ≠ .bsl b m) → ∃ v, (When rc → idxA X.C.P (sto.map SB.den) t x n = some v) ∧ K v := by
    intro x h hx1 hx2
    split at h
    · rename_i i hi
      split at h
      · rename_i k e he
        obtain ⟨a, s, h1, h2, h3⟩ := layK_sound h
        obtain ⟨m, h4, h5⟩ := hnat h3
        obtain ⟨h6, h7⟩ := hob h5
        rw [natK_eq] at h7
        obtain ⟨v, h8, h9⟩ := ptrAddK_sound h7
        refine ⟨v, fun hw => ?_, h9⟩
        have := h4 hw
        unfold idxA
        rw [if_pos this.1]
        cases x <;> first | exact (hx1 _ _ _ rfl).elim | exact (hx2 _ _ rfl).elim | (simp only [(X.ok _ _ hi).arr, he, this.2, if_pos (h6 hw), h1, Option.bind_some]; exact h8 hw)
      · exact h.elim
    · exact h.elim
  cases x with
  | slc sz rows c =>
    simp only [idxK] at h
    obtain ⟨e, m, h1, h2, _, h3⟩ := elemK_sound h
    obtain ⟨h4, h5⟩ := ifK_iff.1 h3
    obtain ⟨h6, h7⟩ := ifK_iff.1 h5
    obtain ⟨i, h8, h9⟩ := hnat h7
    obtain ⟨r, h10, h11⟩ := hrow h9
    have e1 : sz = m := by simpa using h4
    have e2 : 0 < sz := by simpa using h6
    exact ⟨_, fun hw => by have := h8 hw; simp only [idxA, if_pos this.1, h1, Option.bind_some, h2, if_pos e1, if_pos e2, this.2, h10 hw], h11⟩
  | bsl b m =>
    simp only [idxK] at h
    obtain ⟨e, k, h1, h2, _, h3⟩ := elemK_sound h
    rw [getK_eq] at h3
    split at h3
    · rename_i t' sz rows c hB
      obtain ⟨h4, h5⟩ := ifK_iff.1 h3
      obtain ⟨h6, h7⟩ := hob h5
      obtain ⟨i, h8, h9⟩ := hnat h7
      obtain ⟨h10, h11⟩ := hob h9
      have e1 : sz = k := by simpa using h4
      exact ⟨_, fun hw => by have := h8 hw; simp only [idxA, if_pos this.1, h1, Option.bind_some, sden_getD hB (by intro e; cases e), SB.den, h2, if_pos (h6 hw), if_pos e1, this.2, if_pos (h10 hw)], h11⟩
    · rename_i t' sz rows hB
      obtain ⟨h4, h5⟩ := ifK_iff.1 h3
      obtain ⟨h6, h7⟩ := hob h5
      obtain ⟨i, h8, h9⟩ := hnat h7
      obtain ⟨h10, h11⟩ := hob h9
      have e1 : sz = k := by simpa using h4
      refine ⟨_, fun hw => ?_, h11⟩
      have hne : rows ≠ [] := by intro e; subst e; have := h6 hw; have := h10 hw; simp at *; omega
      have := h8 hw
      simp only [idxA, if_pos this.1, h1, Option.bind_some, sden_getD hB (by intro e; cases e), SB.den, mkBuf_some hne, h2, if_pos (h6 hw), if_pos e1, this.2, if_pos (h10 hw)]
    · exact h3.elim
  | rptr cs =>
    simp only [idxK] at h
    split at h
    · rename_i i hi
      split at h
      · rename_i k e he
        obtain ⟨a, s, h1, h2, h3⟩ := layK_sound h
        obtain ⟨m, h4, h5⟩ := hnat h3
        obtain ⟨h6, h7⟩ := hob h5
        unfold HArr at h7
        obtain ⟨ds, rfl, h8⟩ := h7
        refine ⟨_, fun hw => ?_, h8⟩
        have := h4 hw
        unfold idxA
        rw [if_pos this.1]
        simp only [(X.ok _ _ hi).arr, he, this.2, if_pos (h6 hw), h1, Option.bind_some]; rfl
      · exact h.elim
    · exact h.elim
  | _ => exact arr _ h (by intro a b c e; cases e) (by intro a b e; cases e)
theorem indexK_sound {t : Nat} {x : AVal} {n : Int} {K : AVal → Prop} (h : indexK X rc t x n K) : ∃ v, (When rc → indexA X.C.P t x n = some v) ∧ K v := by
  unfold indexK at h
  split at h
  · exact h.elim
  · rename_i ti hi
    have T := X.ok _ _ hi
    cases x <;> simp only at h <;> try exact h.elim
    · rename_i s
      obtain ⟨h1, h⟩ := ifK_iff.1 h
      obtain ⟨i, h2, h3⟩ := hnat h
      obtain ⟨h4, h5⟩ := hob h3
      unfold HFact at h5
      refine ⟨_, fun hw => ?_, h5 (nth s i).toNat_lt⟩
      have := h2 hw
      have hlt := h4 hw
      simp only [indexA, if_pos this.1, T.str, h1, if_true, this.2, List.getElem?_eq_getElem hlt]
      have e : nth s i = s[i] := by unfold nth; rw [List.getD_eq_getElem?_getD, List.getElem?_eq_getElem hlt]; rfl
      rw [e]
    · split at h
      · rename_i k e he
        obtain ⟨a, s, h1, h2, h3⟩ := layK_sound h
        obtain ⟨i, h4, h5⟩ := hnat h3
        obtain ⟨h6, h7⟩ := hob h5
        rw [natK_eq, dropK_eq] at h7
        obtain ⟨h8, h9⟩ := takeK_sound h7
        obtain ⟨v, h10, h11⟩ := mkVK_sound h9
        refine ⟨v, fun hw => ?_, h11⟩
        have := h4 hw
        simp only [indexA, if_pos this.1, T.arr, he, this.2, if_pos (h6 hw), h1, Option.bind_some, ← cellN_eq, takeN_of h8, h10]
      · exact h.elim
theorem viewK_sound : ∀ {d : Nat} (x : AVal) (K : AVal → Prop), viewK sto d x K → K (view (sto.map SB.den) d x) := by
  intro d
  induction d with
  | zero => intro x K h; exact h.elim
  | succ d ih =>
    intro x K h
    cases x <;> simp only [viewK, getK_eq, dropK_eq] at h <;> first | exact h.elim | exact h | skip
    · exact eachK_sound ih (eachK_sound ih h)
    · exact eachK_sound ih h
    · exact eachK_sound ih h
    · exact ih _ _ h
    · rename_i b off
      split at h
      · rename_i t cs hB
        obtain ⟨h1, h2⟩ := ifK_iff.1 (eachK_sound ih h)
        simp only [view, sden_getD hB (by intro e; cases e), SB.den]
        rw [if_pos h1]
        exact h2
      · exact h.elim
    · rename_i b n
      split at h
      · rename_i t sz rows cap hB
        obtain ⟨h1, h2⟩ := hob0 h
        simp only [view, sden_getD hB (by intro e; cases e), SB.den]
        rw [if_pos h1]; exact h2
      · rename_i t sz rows hB
        obtain ⟨h1, h2⟩ := hob0 h
        simp only [view, sden_getD hB (by intro e; cases e), SB.den]
        by_cases hr : rows = []
        · subst hr
          subst h1
          simpa [mkBuf] using h2
        · rw [mkBuf_some hr]
          simp only [if_pos h1]
          simpa [hr] using h2
      · exact h.elim
theorem goneK_eq : ∀ {bs : List Nat} {sto : List SB} {K : List SB → Prop}, goneK sto bs K → ∃ s', s'.map SB.den = gones (sto.map SB.den) bs ∧ K s' := by
  intro bs
  induction bs with
  | nil => intro sto K h; exact ⟨sto, rfl, h⟩
  | cons b bs ih =>
    intro sto K h
    simp only [goneK, setK_eq] at h
    obtain ⟨s', h1, h2⟩ := ih h
    exact ⟨s', by rw [h1]; simp only [gones, List.map_set]; rfl, h2⟩
theorem wrsK_sound : ∀ {ws : List (Nat × SB)} {sto : List SB} {K : List SB → Prop}, wrsK sto ws K → ∃ s', s'.map SB.den = wrs (sto.map SB.den) (ws.map fun p => (p.1, p.2.den)) ∧ K s' := by
  intro ws
  induction ws with
  | nil => intro sto K h; exact ⟨sto, rfl, h⟩
  | cons p ws ih =>
    obtain ⟨b, B⟩ := p
    intro sto K h
    simp only [wrsK, setK_eq, appK_eq] at h
    split at h
    · rename_i hlt
      obtain ⟨s', h1, h2⟩ := ih h
      have hlt' : b < sto.length := by rw [← Nat.blt_eq]; exact hlt
      exact ⟨s', by rw [h1]; simp only [wrs, wr1, List.map_cons, List.length_map, if_pos hlt', List.map_set], h2⟩
    · rename_i hlt
      obtain ⟨s', h1, h2⟩ := ih h
      have hlt' : ¬ b < sto.length := fun h' => by
        have e : Nat.blt b sto.length = true := by rw [Nat.blt_eq]; exact h'
        rw [e] at hlt; cases hlt
      exact ⟨s', by rw [h1]; simp only [wrs, wr1, List.map_cons, List.length_map, if_neg hlt', List.map_append, List.map_nil], h2⟩
end Go.Proofs.YtaajfbcopafkaaaGreatDoor.Ai

namespace Go.Proofs.YtaajfbcopafkaaaGreatDoor.Ai
open Go
set_option linter.unusedVariables false
set_option linter.unusedSimpArgs false
set_option linter.unusedSectionVars false

variable {X : Sx} {rc : Option Bool} {tm : List SV} {sto : List SB}

def wsD (ws : List (Nat × SB)) : List (Nat × Blk) := ws.map fun p => (p.1, p.2.den)
/-- What is written, but for a buffer that stays empty. -/
def WsRel (dr : Bool) (sto : List SB) (ws' : List (Nat × Blk)) (ws : List (Nat × SB)) : Prop :=
  ws' = wsD ws ∨ (dr = false ∧ ws' = [] ∧ wrs (sto.map SB.den) (wsD ws) = sto.map SB.den)
theorem wsRel (dr : Bool) (sto : List SB) (ws : List (Nat × SB)) : WsRel dr sto (wsD ws) ws := .inl rfl

theorem newK_sound {tx : Nat} {x : AVal} {K : Nat → List (List AVal) → Prop} (h : newK X sto tx x K) : ∃ sx new, newRows X.C.P (sto.map SB.den) tx x = some (sx, new) ∧ K sx new := by
  unfold newK at h
  split at h
  · exact h.elim
  · rename_i i hi
    have T := X.ok _ _ hi
    split at h
    · obtain ⟨h1, h2⟩ := ifK_iff.1 h
      exact ⟨_, _, by simp [newRows, T.str, h1], h2⟩
    · rename_i x hx
      split at h
      · rename_i e he
        obtain ⟨sz, rows, h1, h2⟩ := rowsK_sound h
        exact ⟨sz, rows, by
          have := h1 trivial
          cases x <;> first | exact (hx _ rfl).elim | (simp only [newRows, T.elem, he, Option.isSome_some, if_true]; exact this), h2⟩
      · exact h.elim
theorem roomK_sound {e n : Nat} {rows new : List (List AVal)} {K : Prop} (hn : szOf X.C.P e = n) (h : appendK.roomK X e rows new K) :
    0 < szOf X.C.P e ∧ zokT X.C.P e = true ∧ (rows.length + new.length) * byOf X.C.P e ≤ maxRoom ∧ rows.length + new.length ≤ 9223372036854775807 ∧ K := by
  unfold appendK.roomK at h
  split at h
  · rename_i i hi
    have T := X.ok _ _ hi
    obtain ⟨a, n', by', _, _, _, _, _, _, _, _, _, _⟩ := i
    obtain ⟨h1, h2⟩ := ifK_iff.1 h
    obtain ⟨h3, h4⟩ := hob0 h2
    exact ⟨by rw [T.size]; simpa using h1, T.zok, by rw [T.bytes]; exact h3.1, h3.2, h4⟩
  · exact h.elim
theorem appendK_sound {dr : Bool} {id t tx : Nat} {s x : AVal} {K : AVal → List (Nat × SB) → Prop} (h : appendK X dr sto id t tx s x K) :
    ∃ v ws ws', appendA X.C.P (sto.map SB.den) id t tx s x = some (v, ws') ∧ WsRel dr sto ws' ws ∧ K v ws := by
  unfold appendK at h
  obtain ⟨e, n, h1, h2, _, h⟩ := elemK_sound h
  obtain ⟨sx, new, h3, h⟩ := newK_sound h
  obtain ⟨h4, h⟩ := hob0 h
  have h4' : sx = szOf X.C.P e ∨ new.length = 0 := by rw [h2]; exact h4
  cases s with
  | bsl b m =>
    simp only [getK_eq] at h
    split at h
    · rename_i te sz rows cap hB
      obtain ⟨h5, h⟩ := ifK_iff.1 h
      obtain ⟨h6, h⟩ := ifK_iff.1 h
      obtain ⟨h7, h⟩ := hob0 h
      obtain ⟨h8, h9, h10, h11, h⟩ := roomK_sound h2 h
      have e5 : te = e := by simpa using h5
      have e6 : sz = szOf X.C.P e := by rw [h2]; simpa using h6
      refine ⟨_, _, _, ?_, wsRel _ _ _, hlen h⟩
      simp only [appendA, h1, h3, if_pos h8, h9, if_true, if_pos h4', sden_getD hB (by intro e; cases e), SB.den, if_pos h7, if_pos e5, if_pos e6, if_pos h10, if_pos h11, wsD, List.map_cons, List.map_nil]
    · rename_i te sz rows hB
      obtain ⟨h5, h⟩ := ifK_iff.1 h
      obtain ⟨h6, h⟩ := ifK_iff.1 h
      obtain ⟨h7, h⟩ := hob0 h
      obtain ⟨h8, h9, h10, h11, h⟩ := roomK_sound h2 h
      have h := hlen h
      have e5 : te = e := by simpa using h5
      have e6 : sz = szOf X.C.P e := by rw [h2]; simpa using h6
      have hdr : (dr = true → new ≠ []) ∧ K (.bsl b (rows ++ new).length) [(b, .mk te sz (rows ++ new))] := by
        cases dr with
        | true => have h := hob0 h; exact ⟨fun _ => h.1, h.2⟩
        | false => exact ⟨(fun e => by cases e), h⟩
      obtain ⟨hd, h⟩ := hdr
      have hsb := sden_getD (sto := sto) hB (by intro e; cases e)
      by_cases hr : rows = []
      · subst hr
        have hsb' : (sto.map SB.den)[b]? = some (.nbuf te sz) := hsb
        simp only [List.length_nil, Nat.zero_add, List.nil_append] at h7 h10 h11 h
        by_cases hn : new = []
        · subst hn
          refine ⟨_, _, [], ?_, .inr ⟨?_, rfl, ?_⟩, h⟩
          · simp only [List.length_nil] at h4' h10 h11
            simp only [appendA, h1, h3, if_pos h8, h9, if_true, hsb', if_pos h7.symm, if_pos e5, if_pos e6, List.length_nil, or_true, Nat.zero_mul, Nat.zero_le]
          · cases dr with
            | true => exact (hd rfl rfl).elim
            | false => rfl
          · have hlt : b < (sto.map SB.den).length := (List.getElem?_eq_some_iff.1 hsb').1
            have he := (List.getElem?_eq_some_iff.1 hsb').2
            simp only [wsD, List.map_cons, List.map_nil, wrs, wr1, if_pos hlt, SB.den]
            have : mkBuf te sz [] = (sto.map SB.den)[b] := by rw [he]; rfl
            rw [this]
            exact List.set_getElem_self hlt
        · refine ⟨_, _, _, ?_, wsRel _ _ _, h⟩
          simp only [appendA, h1, h3, if_pos h8, h9, if_true, if_pos h4', hsb', if_pos h7.symm, if_pos e5, if_pos e6, if_pos h10, if_pos h11, if_neg hn, wsD, List.map_cons, List.map_nil, SB.den, mkBuf_some hn]
      · have hsb' : (sto.map SB.den)[b]? = some (.buf te sz rows none) := by rw [hsb]; simp only [SB.den, mkBuf_some hr]
        have hr' : rows ++ new ≠ [] := by intro e; exact hr (List.append_eq_nil_iff.1 e).1
        refine ⟨_, _, _, ?_, wsRel _ _ _, h⟩
        simp only [appendA, h1, h3, if_pos h8, h9, if_true, if_pos h4', hsb', if_pos h7, if_pos e5, if_pos e6, if_pos h10, if_pos h11, wsD, List.map_cons, List.map_nil, SB.den, mkBuf_some hr']
    · exact h.elim
  | slc sz rows c =>
    cases c with
    | none => exact h.elim
    | some c =>
    subst h2
    obtain ⟨h5, h⟩ := hob0 h
    obtain ⟨h6, h⟩ := hob0 h
    obtain ⟨h7, h⟩ := hob0 h
    obtain ⟨h8, h9, h10, h11, h⟩ := roomK_sound rfl h
    have h := hlen h
    have h5' : sz = szOf X.C.P e ∨ rows.length = 0 := h5
    have hr' : rows ++ new ≠ [] := by intro e; exact h7 (List.append_eq_nil_iff.1 e).2
    refine ⟨_, _, _, ?_, wsRel _ _ _, h⟩
    simp only [appendA, h1, h3, if_pos h8, h9, if_true, if_pos h4', if_neg h7, if_pos h5', if_pos h6, if_pos h10, if_pos h11, wsD, List.map_cons, List.map_nil, SB.den, mkBuf_some hr']
  | _ => exact h.elim

theorem makeK_sound {id t : Nat} {l c : AVal} {K : AVal → List (Nat × SB) → Prop} (h : makeK X id t l c K) : ∃ v ws, makeA X.C.P id t l c = some (v, wsD ws) ∧ K v ws := by
  unfold makeK at h
  obtain ⟨e, n, h1, rfl, _, h⟩ := elemK_sound h
  have inv : ∀ {x : AVal} {K : Nat → Prop}, natOfK none x K → ∃ k n m, x = .int k n ∧ 0 ≤ n ∧ n.toNat = m ∧ K m := by
    intro x K h
    cases x with
    | int k n => obtain ⟨m, h1, h2⟩ := hnat h; exact ⟨k, n, m, rfl, (h1 trivial).1, (h1 trivial).2, h2⟩
    | _ => exact h.elim
  obtain ⟨kl, ln, l', rfl, h3a, rfl, h⟩ := inv h
  obtain ⟨kc, cn, c', rfl, h4a, rfl, h⟩ := inv h
  split at h
  · rename_i i hi
    have T := X.ok _ _ hi
    obtain ⟨a, n', by', s1, s2, s3, s4, s5, s6, z, s7, s8, s9⟩ := i
    obtain ⟨h5, h⟩ := ifK_iff.1 h
    obtain ⟨h6, h⟩ := hob0 h
    obtain ⟨h7, h⟩ := ifK_iff.1 h
    obtain ⟨h8, h⟩ := ifK_iff.1 h
    have e5 : 0 < szOf X.C.P e := by simpa using h5
    have e7 : z.length = szOf X.C.P e := lenIs_iff.1 h7
    have hz : zeroT X.C.P e = some z := T.zero
    have hb : byOf X.C.P e = by' := T.bytes
    refine ⟨_, _, ?_, h⟩
    have a1 : ln ≤ cn := by omega
    have a2 : cn ≤ 9223372036854775807 := by omega
    have a3 : cn.toNat * byOf X.C.P e ≤ maxRoom := by rw [hb]; exact h6.2.2
    simp only [makeA, h1, if_pos h3a, if_pos a1, if_pos a2, if_pos e5, if_pos a3, hz, Option.bind_some, if_pos e7, if_pos h8, wsD, List.map_cons, List.map_nil, SB.den]
  · exact h.elim

theorem forceRowsK_eq : ∀ {rs : List (List AVal)} {K : List (List AVal) → Prop}, sliceK.forceRowsK rs K = K rs := by
  intro rs
  induction rs with
  | nil => intro K; rfl
  | cons r rs ih => intro K; simp only [sliceK.forceRowsK, forceK_eq, ih]
theorem sloK_sound {lo : Option AVal} {K : Nat → Prop} (h : sliceK.loK rc lo K) : ∃ l, (When rc → optNat 0 lo = some l) ∧ K l := by
  unfold sliceK.loK at h
  cases lo with
  | none => exact ⟨0, fun _ => rfl, h⟩
  | some v => exact natOfK_sound h
theorem shiK_sound {s : List UInt8} {hi : Option AVal} {K : Nat → Prop} (h : sliceK.hiK rc hi s K) : ∃ l, (When rc → optNat s.length hi = some l) ∧ K l := by
  unfold sliceK.hiK at h
  cases hi with
  | none => exact ⟨_, fun _ => rfl, h⟩
  | some v => exact natOfK_sound h
theorem sliceK_sound {t : Nat} {x : AVal} {lo hi mx : Option AVal} {K : AVal → List (Nat × SB) → Prop} (h : sliceK X rc sto t x lo hi mx K) :
    ∃ v ws, (When rc → sliceA X.C.P (sto.map SB.den) t x lo hi mx = some (v, wsD ws)) ∧ K v ws := by
  unfold sliceK at h
  split at h
  · exact h.elim
  · rename_i ti hi'
    have T := X.ok _ _ hi'
    cases x with
    | str s =>
      obtain ⟨h1, h⟩ := ifK_iff.1 h
      cases mx with
      | some _ => exact h.elim
      | none =>
        obtain ⟨l, h2, h⟩ := sloK_sound h
        obtain ⟨h', h3, h⟩ := shiK_sound h
        obtain ⟨h4, h⟩ := hob h
        unfold HCutS at h
        obtain ⟨u, hu, h⟩ := h
        exact ⟨_, _, fun hw => by simp only [sliceA, T.str, h1, if_true, h2 hw, h3 hw, if_pos (h4 hw).1, if_pos (h4 hw).2, hu]; rfl, h⟩
    | rptr cs =>
      simp only at h
      split at h
      · rename_i n e he
        obtain ⟨a, s, h1, h2, h⟩ := layK_sound h
        obtain ⟨h3, h⟩ := ifK_iff.1 h
        obtain ⟨h4, h⟩ := ifK_iff.1 h
        obtain ⟨h5, h⟩ := ifK_iff.1 h
        rw [forceRowsK_eq] at h
        obtain ⟨v, h6, h7⟩ := cutK_sound (fun l K h => capLK_sound h) h
        have e3 : cs.length = n * szOf X.C.P e := by rw [h2]; simpa using h3
        have e4 : 0 < szOf X.C.P e ∧ n ≤ 16777216 := by rw [h2]; exact ⟨by simpa using h4, by simpa using h5⟩
        exact ⟨v, [], fun hw => by simp only [sliceA, T.arr, he, if_pos e3, if_pos e4]; rw [h2, h6 hw]; rfl, h7⟩
      · exact h.elim
    | ptr b off =>
      simp only [getK_eq] at h
      split at h
      · rename_i ty cs hB
        obtain ⟨h0, h⟩ := ifK_iff.1 h
        split at h
        · rename_i n e he
          obtain ⟨a, s, h1, h2, h⟩ := layK_sound h
          rw [dropK_eq] at h
          obtain ⟨h3, h⟩ := ifK_iff.1 h
          obtain ⟨h4, h⟩ := ifK_iff.1 h
          obtain ⟨h5, h⟩ := ifK_iff.1 h
          rw [forceRowsK_eq] at h
          obtain ⟨v, h6, h7⟩ := cutK_sound (fun l K h => capLK_sound h) h
          have e3 : (cs.drop off).length = n * szOf X.C.P e := by rw [h2]; simpa using h3
          have e4 : 0 < szOf X.C.P e ∧ n ≤ 16777216 := by rw [h2]; exact ⟨by simpa using h4, by simpa using h5⟩
          exact ⟨v, _, fun hw => by
            simp only [sliceA, sden_getD hB (by intro e; cases e), SB.den, h0, if_true, T.arr, he, if_pos e3, if_pos e4]; rw [h2, h6 hw]; rfl, h7⟩
        · exact h.elim
      · exact h.elim
    | slc sz rows cap =>
      obtain ⟨e, n, h1, h2, ⟨j, hj⟩, h⟩ := elemK_sound h
      obtain ⟨h3, h⟩ := hob h
      obtain ⟨v, h4, h5⟩ := cutK_sound (fun l K h => capLK_sound h) h
      exact ⟨v, [], fun hw => by
        have h3' : sz = szOf X.C.P e ∨ rows.length = 0 := by rw [h2]; exact h3 hw
        have hl : lay X.C.P e ≠ none := by rw [(X.ok _ _ hj).lay]; intro e; cases e
        simp only [sliceA, h1, Option.bind_some, if_neg hl, if_pos h3', h4 hw, Option.map_some]; rfl, h5⟩
    | bsl b m =>
      obtain ⟨e, n, h1, h2, _, h⟩ := elemK_sound h
      rw [getK_eq] at h
      split at h
      · rename_i te sz rows cap hB
        obtain ⟨h3, h⟩ := ifK_iff.1 h
        obtain ⟨h4, h⟩ := hob h
        obtain ⟨v, h5, h6⟩ := cutK_sound (fun l K h => capLK_sound h) h
        have e3 : sz = szOf X.C.P e := by rw [h2]; simpa using h3
        exact ⟨v, _, fun hw => by
          simp only [sliceA, sden_getD hB (by intro e; cases e), SB.den, if_pos (h4 hw), h1, Option.bind_some, if_pos e3, h5 hw, Option.map_some]; rfl, h6⟩
      · rename_i te sz rows hB
        obtain ⟨h3, h⟩ := ifK_iff.1 h
        obtain ⟨h0, h⟩ := ifK_iff.1 h
        obtain ⟨h4, h⟩ := hob h
        obtain ⟨v, h5, h6⟩ := cutK_sound (cap := (if rows = [] then some 0 else none)) (fun l K h => h) h
        have e3 : sz = szOf X.C.P e := by rw [h2]; simpa using h3
        refine ⟨v, _, fun hw => ?_, h6⟩
        by_cases hr : rows = []
        · subst hr
          have hsb : (sto.map SB.den)[b]? = some (.nbuf te sz) := sden_getD (sto := sto) hB (by intro e; cases e)
          have h4' : m = 0 := (h4 hw).symm
          have e0 : 0 < sz := by simpa using h0
          have h5 := h5 hw
          rw [if_pos rfl] at h5
          simp only [sliceA, hsb, if_pos h4', h1, Option.bind_some, if_pos e3, if_pos e0, h5, Option.map_some]; rfl
        · have h5 := h5 hw
          rw [if_neg hr] at h5
          simp only [sliceA, sden_getD hB (by intro e; cases e), SB.den, mkBuf_some hr, if_pos (h4 hw), h1, Option.bind_some, if_pos e3, h5, Option.map_some]; rfl
      · exact h.elim
    | _ => exact h.elim
end Go.Proofs.YtaajfbcopafkaaaGreatDoor.Ai
