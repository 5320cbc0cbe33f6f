/- Closed runs: an evaluator of calls over abstract values that the kernel runs, and its soundness. Own work of this seat. -/
import Derived.Test.YtepnbdacekkapaaGreatDoorAiEvD
namespace Go.Proofs.YtepnbdacekkapaaGreatDoor.Ai
open Go
set_option linter.unusedVariables false
set_option linter.unusedSimpArgs false

/-! Tries. -/
inductive Tr (α : Type) where
  | e
  | n (l : Tr α) (v : Option α) (r : Tr α)

noncomputable def Tr.get {α : Type} (t : Tr α) : Nat → Option α :=
  Tr.rec (motive := fun _ => Nat → Option α) (fun _ => none) (fun _ v _ ihl ihr i => Nat.casesOn i v fun i => cond (Nat.beq (i % 2) 0) (ihl (i / 2)) (ihr (i / 2))) t
noncomputable def Tr.set {α : Type} (f : Nat) : Tr α → Nat → α → Tr α :=
  Nat.rec (motive := fun _ => Tr α → Nat → α → Tr α) (fun _ _ _ => .e) (fun _ ih t i v => Tr.casesOn t
      (Nat.casesOn i (.n .e (some v) .e) fun i => cond (Nat.beq (i % 2) 0) (.n (ih .e (i / 2) v) none .e) (.n .e none (ih .e (i / 2) v)))
      (fun l x r => Nat.casesOn i (.n l (some v) r) fun i => cond (Nat.beq (i % 2) 0) (.n (ih l (i / 2) v) x r) (.n l x (ih r (i / 2) v)))) f
noncomputable def Tr.put {α : Type} (t : Tr α) (i : Nat) (v : α) : Tr α := Tr.set (i + 1) t i v

theorem Tr.get_e {α : Type} (i : Nat) : (Tr.e : Tr α).get i = none := rfl
theorem Tr.get_z {α : Type} (l r : Tr α) (v : Option α) : (Tr.n l v r).get 0 = v := rfl
theorem Tr.get_s {α : Type} (l r : Tr α) (v : Option α) (i : Nat) : (Tr.n l v r).get (i + 1) = cond (Nat.beq (i % 2) 0) (l.get (i / 2)) (r.get (i / 2)) := rfl
theorem Tr.set_s {α : Type} (f : Nat) (t : Tr α) (i : Nat) (v : α) : Tr.set (f + 1) t i v = (match t, i with
    | .e, 0 => .n .e (some v) .e
    | .e, i + 1 => cond (Nat.beq (i % 2) 0) (.n (Tr.set f .e (i / 2) v) none .e) (.n .e none (Tr.set f .e (i / 2) v))
    | .n l x r, 0 => .n l (some v) r
    | .n l x r, i + 1 => cond (Nat.beq (i % 2) 0) (.n (Tr.set f l (i / 2) v) x r) (.n l x (Tr.set f r (i / 2) v))) := by
  cases t <;> cases i <;> rfl

theorem Tr.get_set {α : Type} : ∀ (f : Nat) (t : Tr α) (i : Nat) (v : α) (j : Nat), i < f → (Tr.set f t i v).get j = if j = i then some v else t.get j := by
  intro f
  induction f with
  | zero => intro t i v j h; omega
  | succ f ih =>
    intro t i v j h
    rw [Tr.set_s]
    have par : ∀ a b : Nat, (Nat.beq (a % 2) 0 = true) → (Nat.beq (b % 2) 0 = true) → (a / 2 = b / 2 ↔ a = b) := fun a b ha hb => by
      have ha := Nat.eq_of_beq_eq_true ha
      have hb := Nat.eq_of_beq_eq_true hb
      omega
    have par1 : ∀ a b : Nat, (Nat.beq (a % 2) 0 = false) → (Nat.beq (b % 2) 0 = false) → (a / 2 = b / 2 ↔ a = b) := fun a b ha hb => by
      have ha := Nat.ne_of_beq_eq_false ha
      have hb := Nat.ne_of_beq_eq_false hb
      omega
    cases t with
    | e =>
      cases i with
      | zero =>
        cases j with
        | zero => simp [Tr.get_z]
        | succ j => simp only [Tr.get_s, Tr.get_e]; simp
      | succ i =>
        simp only
        cases hi : Nat.beq (i % 2) 0 with
        | true =>
          cases j with
          | zero => simp [Tr.get_z, Tr.get_e]
          | succ j =>
            simp only [cond_true, Tr.get_s, Tr.get_e, Nat.add_right_cancel_iff]
            cases hj : Nat.beq (j % 2) 0 with
            | true =>
              rw [cond_true, ih _ _ _ _ (by omega)]
              simp only [par j i hj hi, Tr.get_e]
            | false =>
              rw [cond_false, if_neg]
              intro e; subst e; rw [hi] at hj; cases hj
        | false =>
          cases j with
          | zero => simp [Tr.get_z, Tr.get_e]
          | succ j =>
            simp only [cond_false, Tr.get_s, Tr.get_e, Nat.add_right_cancel_iff]
            cases hj : Nat.beq (j % 2) 0 with
            | false =>
              rw [cond_false, ih _ _ _ _ (by omega)]
              simp only [par1 j i hj hi, Tr.get_e]
            | true =>
              rw [cond_true, if_neg]
              intro e; subst e; rw [hi] at hj; cases hj
    | n l x r =>
      cases i with
      | zero =>
        cases j with
        | zero => simp [Tr.get_z]
        | succ j => simp only [Tr.get_s]; simp
      | succ i =>
        simp only
        cases hi : Nat.beq (i % 2) 0 with
        | true =>
          cases j with
          | zero => simp [Tr.get_z]
          | succ j =>
            simp only [cond_true, Tr.get_s, Nat.add_right_cancel_iff]
            cases hj : Nat.beq (j % 2) 0 with
            | true =>
              rw [cond_true, ih _ _ _ _ (by omega)]
              simp only [par j i hj hi, cond_true]
            | false =>
              rw [cond_false, cond_false, if_neg]
              intro e; subst e; rw [hi] at hj; cases hj
        | false =>
          cases j with
          | zero => simp [Tr.get_z]
          | succ j =>
            simp only [cond_false, Tr.get_s, Nat.add_right_cancel_iff]
            cases hj : Nat.beq (j % 2) 0 with
            | false =>
              rw [cond_false, ih _ _ _ _ (by omega)]
              simp only [par1 j i hj hi, cond_false]
            | true =>
              rw [cond_true, cond_true, if_neg]
              intro e; subst e; rw [hi] at hj; cases hj
theorem Tr.get_put {α : Type} (t : Tr α) (i : Nat) (v : α) (j : Nat) : (t.put i v).get j = if j = i then some v else t.get j := Tr.get_set _ _ _ _ _ (Nat.lt_succ_self _)

/-! Values that are worked out. -/
def forceI {β : Type} (i : Int) (K : Int → β) : β := match i with
  | .ofNat n => forceN n fun n => K (.ofNat n)
  | .negSucc n => forceN n fun n => K (.negSucc n)
def forceV0 {β : Type} (x : AVal) (K : AVal → β) : β := match x with
  | .int k n => forceI n fun n => K (.int k n)
  | x => K x
def forceL {β : Type} : List AVal → (List AVal → β) → β
  | [], K => K []
  | x :: xs, K => forceV0 x fun x => forceL xs fun xs => K (x :: xs)
def forceV {β : Type} (x : AVal) (K : AVal → β) : β := match x with
  | .int k n => forceI n fun n => K (.int k n)
  | .agg cs => forceL cs fun cs => K (.agg cs)
  | .tup vs => forceL vs fun vs => K (.tup vs)
  | x => K x
theorem forceN_eq {β : Type} (n : Nat) (K : Nat → β) : forceN n K = K n := by cases n <;> rfl
theorem forceI_eq {β : Type} (i : Int) (K : Int → β) : forceI i K = K i := by cases i <;> simp [forceI, forceN_eq]
theorem forceV0_eq {β : Type} (x : AVal) (K : AVal → β) : forceV0 x K = K x := by cases x <;> simp [forceV0, forceI_eq]
theorem forceL_eq {β : Type} : ∀ (xs : List AVal) (K : List AVal → β), forceL xs K = K xs := by
  intro xs
  induction xs with
  | nil => intro K; rfl
  | cons x xs ih => intro K; simp [forceL, forceV0_eq, ih]
theorem forceV_eq {β : Type} (x : AVal) (K : AVal → β) : forceV x K = K x := by cases x <;> simp [forceV, forceI_eq, forceL_eq]

/-! States. -/
structure ES where
  tm : Tr AVal
  nt : Nat
  st : Tr Blk
  ns : Nat
noncomputable def rdS (st : Tr Blk) (ns b : Nat) : Option Blk := match st.get b with
  | some B => some B
  | none => cond (Nat.blt b ns) (some .gone) none
noncomputable def ES.tv (e : ES) (t : Nat) : AVal := match e.tm.get t with
  | some v => v
  | none => cond (Nat.blt t e.nt) .undef .dead
noncomputable def ES.ev (C : Ctx) (e : ES) : Operand → AVal
  | .tmp t => e.tv t
  | .const v => ofVal v
  | .global g => C.glob g
  | .func f => .func f [] []
noncomputable def ES.put (e : ES) (dst : Option Tmp) (v : AVal) : Option ES := match dst with
  | none => some e
  | some d => cond (Nat.blt d e.nt) (some ⟨e.tm.put d v, e.nt, e.st, e.ns⟩) none
def forceB {β : Type} (B : Blk) (K : Blk → β) : β := match B with
  | .cells t cs => forceL cs fun cs => K (.cells t cs)
  | B => K B
theorem forceB_eq {β : Type} (B : Blk) (K : Blk → β) : forceB B K = K B := by cases B <;> simp [forceB, forceL_eq]
noncomputable def wrsE : List (Nat × Blk) → Tr Blk → Nat → Option (Tr Blk × Nat)
  | [], st, ns => some (st, ns)
  | (b, B) :: rest, st, ns => forceB B fun B => cond (Nat.blt b ns) (wrsE rest (st.put b B) ns) (cond (Nat.beq b ns) (forceN (ns + 1) fun n => wrsE rest (st.put b B) n) none)
noncomputable def guardE (ops : Array Oper) (e : ES) (o : Oper) : Guard :=
  match o.guard with
  | none => .run
  | some (j, want) =>
    match (ops[j]?).bind (·.dst) with
    | some d => (match e.tv d with
      | .bool b => if b = want then .run else .skip
      | .undef => .skip
      | _ => .lost)
    | none => .lost

structure CorS (st : Tr Blk) (ns : Nat) (sto : List Blk) : Prop where
  len : ns = sto.length
  get : ∀ b, rdS st ns b = sto[b]?
structure Cor (e : ES) (s : St) : Prop where
  nt : e.nt = s.tmps.length
  tm : ∀ t, e.tv t = s.tmps.getD t .dead
  cs : CorS e.st e.ns s.sto

theorem Cor.ev {C : Ctx} {e : ES} {s : St} (h : Cor e s) : e.ev C = s.eval C := by
  funext x; cases x <;> first | rfl | exact h.tm _
theorem CorS.rd {st : Tr Blk} {ns : Nat} {sto : List Blk} (h : CorS st ns sto) : rdS st ns = rd sto := by funext b; exact h.get b
theorem Cor.guard {e : ES} {s : St} (h : Cor e s) (ops : Array Oper) (o : Oper) : guardE ops e o = guardOf ops s.tmps o := by
  unfold guardE guardOf
  cases o.guard with
  | none => rfl
  | some p =>
    obtain ⟨j, want⟩ := p
    simp only
    cases (ops[j]?).bind (·.dst) with
    | none => rfl
    | some d => simp only; rw [h.tm d]; rfl
theorem Cor.put {e e' : ES} {s : St} {sto : List Blk} {st : Tr Blk} {ns : Nat} (h : Cor e s) (hc : CorS st ns sto) {dst : Option Tmp} {v : AVal} (hp : ES.put ⟨e.tm, e.nt, st, ns⟩ dst v = some e') : Cor e' ⟨Ai.put s.tmps dst v, sto⟩ := by
  unfold ES.put at hp
  cases dst with
  | none => cases hp; exact ⟨h.nt, h.tm, hc⟩
  | some d =>
    simp only at hp
    cases hd : Nat.blt d e.nt with
    | false => rw [hd] at hp; cases hp
    | true =>
      rw [hd] at hp; cases hp
      have hlt : d < s.tmps.length := by rw [← h.nt]; simpa using hd
      refine ⟨by simp [Ai.put, h.nt], fun t => ?_, hc⟩
      simp only [ES.tv, Ai.put, Tr.get_put]
      rw [List.getD_eq_getElem?_getD, List.getElem?_set]
      by_cases e1 : t = d
      · subst e1; simp [hlt]
      · rw [if_neg e1, if_neg (fun h => e1 h.symm)]
        have := h.tm t
        rw [List.getD_eq_getElem?_getD] at this
        rw [← this]; rfl
theorem wrsE_sound : ∀ (ws : List (Nat × Blk)) {st st' : Tr Blk} {ns ns' : Nat} {sto : List Blk}, CorS st ns sto → wrsE ws st ns = some (st', ns') → CorS st' ns' (wrs sto ws) := by
  intro ws
  induction ws with
  | nil => intro st st' ns ns' sto h hw; cases hw; exact h
  | cons p ws ih =>
    intro st st' ns ns' sto h hw
    obtain ⟨b, B⟩ := p
    simp only [wrsE, forceB_eq, forceN_eq] at hw
    have hlen := h.len
    have one : ∀ ns2, b ≤ ns → ns2 = max ns (b + 1) → CorS (st.put b B) ns2 (wr1 sto b B) := fun ns2 hb h2 => by
      have hb' : b ≤ sto.length := by omega
      refine ⟨by rw [wr1_length hb']; omega, fun x => ?_⟩
      rw [wr1_get hb']
      simp only [rdS, Tr.get_put]
      by_cases e : x = b
      · subst e; simp
      · rw [if_neg e, if_neg e, ← h.get x]
        simp only [rdS]
        cases st.get x with
        | some y => rfl
        | none =>
          simp only
          congr 1
          rw [Bool.eq_iff_iff]
          simp only [Nat.blt_eq]
          omega
    cases hb : Nat.blt b ns with
    | true =>
      rw [hb, cond_true] at hw
      have hlt : b < ns := by simpa using hb
      exact ih (one ns (by omega) (by omega)) hw
    | false =>
      rw [hb, cond_false] at hw
      cases he : Nat.beq b ns with
      | false => rw [he] at hw; cases hw
      | true =>
        rw [he, cond_true] at hw
        have heq := Nat.eq_of_beq_eq_true he
        exact ih (one (ns + 1) (by omega) (by omega)) hw

/-! Operations. -/
theorem denB_sound {C : Ctx} {ρ : Operand → AVal} {sto : List Blk} {id : Nat} {op : Op} {y : AVal × List (Nat × Blk)} (h : denG op (fpOf C) ρ (rd sto) id = some y) : den C ρ sto id false op = some y ∨ denx C ρ sto id op = some y := by
  rw [denG_eq, fpOf_eq] at h
  cases op <;> simp only [denB] at h <;> first
    | exact .inr (by rw [← denxE_eq]; exact h)
    | exact .inl (denE_le h)
    | (split at h
       · rename_i r hr; cases h; exact .inr (by rw [← denxE_eq]; exact hr)
       · exact .inl (denE_le h))

noncomputable def callOf (ρ : Operand → AVal) (o : Oper) : Option (Option (FuncId × List AVal)) :=
  match isCall o.op with
  | some c => (match c.callee with
    | .value f => some (match ρ f with | .func g first caps => some (g, first ++ c.args.toList.map ρ ++ caps) | _ => none)
    | _ => none)
  | none => none
theorem callOf_some {ρ : Operand → AVal} {o : Oper} {g : FuncId} {args : List AVal} (h : callOf ρ o = some (some (g, args))) :
    ∃ c f first caps, o.op = .call c ∧ c.callee = .value f ∧ ρ f = .func g first caps ∧ args = first ++ c.args.toList.map ρ ++ caps := by
  unfold callOf at h
  split at h
  · rename_i c ho
    split at h
    · rename_i f hc
      have h := Option.some.inj h
      split at h
      · rename_i g' first caps hf
        cases h
        exact ⟨c, f, first, caps, isCall_some ho, hc, hf, rfl⟩
      · cases h
    · cases h
  · cases h

abbrev CallE := FuncId → List AVal → Tr Blk → Nat → Option (AVal × Tr Blk × Nat)
/-- What an evaluated call is. -/
def CSound (CF : CallRel) (call : CallE) : Prop := ∀ g args st ns r st' ns' sto, CorS st ns sto → call g args st ns = some (r, st', ns') → ∃ sto', CF g args sto r sto' ∧ CorS st' ns' sto' ∧ sto.length ≤ sto'.length

noncomputable def opE (C : Ctx) (call : CallE) (ops : Array Oper) (o : Oper) (e : ES) : Option ES :=
  match guardE ops e o with
  | .lost => none
  | .skip => ES.put ⟨e.tm, e.nt, e.st, e.ns⟩ o.dst .undef
  | .run => (match callOf (e.ev C) o with
    | some none => none
    | some (some (g, args)) => (match call g args e.st e.ns with
      | some (r, st, ns) => forceV r fun r => forceN ns fun ns => ES.put ⟨e.tm, e.nt, st, ns⟩ o.dst r
      | none => none)
    | none => (match denG o.op (fpOf C) (e.ev C) (rdS e.st e.ns) e.ns with
      | some (v, ws) => (match wrsE ws e.st e.ns with
        | some (st, ns) => forceV v fun v => ES.put ⟨e.tm, e.nt, st, ns⟩ o.dst v
        | none => none)
      | none => none))

section
variable {C : Ctx} {CF : CallRel} {call : CallE} {ops : Array Oper}
theorem opE_sound (hc : CSound CF call) {o : Oper} {e e' : ES} {s : St} (h : Cor e s) (ho : opE C call ops o e = some e') :
    ∃ s', OpStep C CF (fun _ => false) ops s.sto.length o s s' ∧ Cor e' s' ∧ s.sto.length ≤ s'.sto.length := by
  unfold opE at ho
  rw [h.guard ops o] at ho
  split at ho
  · cases ho
  · rename_i hg
    exact ⟨_, .skip hg, h.put h.cs ho, Nat.le_refl _⟩
  · rename_i hg
    rw [h.ev] at ho
    split at ho
    · cases ho
    · rename_i g args hcall
      split at ho
      · rename_i r st ns hr
        simp only [forceV_eq, forceN_eq] at ho
        obtain ⟨c, f, first, caps, h1, h2, h3, rfl⟩ := callOf_some hcall
        obtain ⟨sto', h4, h5, h6⟩ := hc _ _ _ _ _ _ _ _ h.cs hr
        exact ⟨_, .call hg h1 h2 h3 (.full h4), h.put h5 ho, h6⟩
      · cases ho
    · split at ho
      · rename_i v ws hd
        split at ho
        · rename_i st ns hw
          simp only [forceV_eq] at ho
          have hc' := wrsE_sound ws h.cs hw
          rw [h.cs.rd, h.cs.len] at hd
          have hcc := h.put hc' ho
          rcases denB_sound hd with hd | hd
          · refine ⟨_, .den hg ?_, hcc, wrs_ge _ _⟩
            cases hdst : o.dst <;> exact hd
          · exact ⟨_, .ext hg hd, hcc, wrs_ge _ _⟩
        · cases ho
      · cases ho

noncomputable def opsE (C : Ctx) (call : CallE) (ops : Array Oper) : List Oper → ES → Option ES
  | [], e => some e
  | o :: rest, e => (match opE C call ops o e with
    | some e => opsE C call ops rest e
    | none => none)
theorem opsE_sound (hc : CSound CF call) : ∀ (l : List Oper) {e e' : ES} {s : St}, Cor e s → opsE C call ops l e = some e' → ∃ s', RunU C CF (fun _ => false) ops l s s' ∧ Cor e' s' ∧ s.sto.length ≤ s'.sto.length := by
  intro l
  induction l with
  | nil => intro e e' s h ho; cases ho; exact ⟨s, .nil s, h, Nat.le_refl _⟩
  | cons o l ih =>
    intro e e' s h ho
    unfold opsE at ho
    split at ho
    · rename_i e1 h1
      obtain ⟨s1, h2, h3, h4⟩ := opE_sound hc h h1
      obtain ⟨s2, h5, h6, h7⟩ := ih h3 ho
      exact ⟨s2, .cons h2 h5, h6, Nat.le_trans h4 h7⟩
    · cases ho

/-! Calls that a part of the store is lent to. -/
mutual
def refsV : AVal → List Nat
  | .func _ first caps => refsVL first ++ refsVL caps
  | .agg cs => refsVL cs
  | .tup vs => refsVL vs
  | .iface _ v => refsV v
  | .ptr b _ => [b]
  | .eptr b _ _ _ => [b]
  | .bsl b _ => [b]
  | .sub b _ _ _ _ => [b]
  | .csl b _ _ _ _ => [b]
  | .mapr b => [b]
  | _ => []
def refsVL : List AVal → List Nat
  | [] => []
  | x :: xs => refsV x ++ refsVL xs
end
def refsB : Blk → List Nat
  | .cells _ cs => refsVL cs
  | .arr _ _ rows => (rows.map refsVL).flatten
  | .map es _ => (es.map fun p => refsV p.1 ++ refsV p.2.1).flatten
  | .miter mv _ _ _ => refsV mv
  | _ => []
def liveE : Option Blk → Bool
  | some .gone => false
  | some (.nbuf _ _) => false
  | some _ => true
  | none => false
def hasN : List Nat → Nat → Bool
  | [], _ => false
  | x :: xs, b => cond (Nat.beq x b) true (hasN xs b)
def closE {β : Type} (gt : Nat → Option Blk) : Nat → List Nat → List Nat → (List Nat → β) → β
  | 0, _, acc, K => K acc
  | _, [], acc, K => K acc
  | f + 1, b :: rest, acc, K => forceN b fun b => cond (hasN acc b) (closE gt f rest acc K) (cond (liveE (gt b)) (closE gt f ((match gt b with | some B => refsB B | none => []) ++ rest) (b :: acc) K) (closE gt f rest acc K))
theorem closE_eq {β : Type} (gt : Nat → Option Blk) : ∀ (f : Nat) (w acc : List Nat) (K : List Nat → β), ∃ l, closE gt f w acc K = K l := by
  intro f
  induction f with
  | zero => intro w acc K; exact ⟨acc, by cases w <;> rfl⟩
  | succ f ih =>
    intro w acc K
    cases w with
    | nil => exact ⟨acc, rfl⟩
    | cons b rest =>
      simp only [closE, forceN_eq]
      cases hasN acc b with
      | true => exact ih rest acc K
      | false =>
        cases liveE (gt b) with
        | true => exact ih _ _ K
        | false => exact ih rest acc K
noncomputable def subT (gt : Nat → Option Blk) : List Nat → Tr Blk → Tr Blk
  | [], t => t
  | b :: bs, t => (match gt b with | some B => subT gt bs (t.put b B) | none => subT gt bs t)
theorem subT_get (gt : Nat → Option Blk) : ∀ (l : List Nat) (t : Tr Blk) (j : Nat), (subT gt l t).get j = if j ∈ l ∧ (gt j).isSome = true then gt j else t.get j := by
  intro l
  induction l with
  | nil => intro t j; simp [subT]
  | cons b bs ih =>
    intro t j
    simp only [subT]
    cases hb : gt b with
    | none =>
      simp only; rw [ih]
      by_cases h1 : j ∈ bs ∧ (gt j).isSome = true
      · rw [if_pos h1, if_pos ⟨List.mem_cons_of_mem _ h1.1, h1.2⟩]
      · rw [if_neg h1, if_neg]
        rintro ⟨h2, h3⟩
        rcases List.mem_cons.1 h2 with rfl | h2
        · rw [hb] at h3; cases h3
        · exact h1 ⟨h2, h3⟩
    | some B =>
      simp only; rw [ih, Tr.get_put]
      by_cases h1 : j ∈ bs ∧ (gt j).isSome = true
      · rw [if_pos h1, if_pos ⟨List.mem_cons_of_mem _ h1.1, h1.2⟩]
      · rw [if_neg h1]
        by_cases h2 : j = b
        · subst h2; rw [if_pos rfl, if_pos ⟨List.mem_cons_self, by rw [hb]; rfl⟩, hb]
        · rw [if_neg h2, if_neg]
          rintro ⟨h3, h4⟩
          rcases List.mem_cons.1 h3 with h5 | h5
          · exact h2 h5
          · exact h1 ⟨h5, h4⟩
theorem insAll_of {L : Nat} {rd : List Nat} : ∀ (sto : List Blk) (k : Nat), (∀ (b : Nat) B, sto[b]? = some B → (L ≤ k + b ∨ rd.contains (k + b) = true) → inB L rd B = true) → insAll L rd k sto = true := by
  intro sto
  induction sto with
  | nil => intro k _; rfl
  | cons A as ih =>
    intro k h
    simp only [insAll, Bool.and_eq_true, Bool.or_eq_true, Bool.not_eq_true', Bool.or_eq_false_iff]
    refine ⟨?_, ih (k + 1) fun b B hb hin => h (b + 1) B (by simpa using hb) (by rw [Nat.add_assoc, Nat.add_comm 1 b] at hin; exact hin)⟩
    by_cases h1 : Nat.ble L k = false ∧ rd.contains k = false
    · exact .inl h1
    · right
      refine h 0 A rfl ?_
      rw [Nat.add_zero]
      cases h2 : Nat.ble L k with
      | true => exact .inl (Nat.le_of_ble_eq_true h2)
      | false =>
        right
        cases h3 : rd.contains k with
        | true => rfl
        | false => exact (h1 ⟨h2, h3⟩).elim
noncomputable def inE (L : Nat) (rd : List Nat) : Option Blk → Bool
  | some B => inB L rd B
  | none => true
/-- A call that what its arguments lead to is lent to. -/
noncomputable def lentC (call : CallE) (g : FuncId) (args : List AVal) (st0 : Tr Blk) (ns0 : Nat) : Option (List Nat × AVal × Tr Blk × Nat) :=
  closE (rdS st0 ns0) 4000 (refsVL args) [] fun rd => cond (rd.all fun b => liveE (rdS st0 ns0 b)) (match call g args (subT (rdS st0 ns0) rd .e) ns0 with
    | some (r, st, ns) => forceV r fun r => forceN ns fun ns => cond (inR ns0 rd r && ((rd.all fun b => inE ns0 rd (rdS st ns b)) && ((List.range' ns0 (ns - ns0)).all fun b => inE ns0 rd (rdS st ns b))))
      (some (rd, r, subT (rdS st ns) (rd ++ List.range' ns0 (ns - ns0)) st0, ns)) none
    | none => none) none
noncomputable def lentE (C : Ctx) (call : CallE) (o : Oper) (g : FuncId) (args : List AVal) (e : ES) : Option (Lab × ES) :=
  match lentC call g args e.st e.ns with
  | some (rd, r, st, ns) => (match ES.put ⟨e.tm, e.nt, st, ns⟩ o.dst r with
    | some e' => some (⟨rd, rd, some e.ns, false⟩, e')
    | none => none)
  | none => none

theorem rdS_some {st : Tr Blk} {ns b : Nat} {B : Blk} (h : st.get b = some B) : rdS st ns b = some B := by unfold rdS; rw [h]
theorem rdS_none {st : Tr Blk} {ns b : Nat} (h : st.get b = none) : rdS st ns b = if b < ns then some .gone else none := by
  unfold rdS; rw [h]
  by_cases hb : b < ns
  · have : Nat.blt b ns = true := by simpa using hb
    simp only [this, cond_true, if_pos hb]
  · have : Nat.blt b ns = false := by rw [Bool.eq_false_iff]; simp; omega
    simp only [this, cond_false, if_neg hb]
theorem subT_in {gt : Nat → Option Blk} {l : List Nat} {t : Tr Blk} {j : Nat} {B : Blk} (h : j ∈ l) (hg : gt j = some B) : (subT gt l t).get j = some B := by
  rw [subT_get, if_pos ⟨h, by rw [hg]; rfl⟩, hg]
theorem subT_out {gt : Nat → Option Blk} {l : List Nat} {t : Tr Blk} {j : Nat} (h : j ∉ l ∨ gt j = none) : (subT gt l t).get j = t.get j := by
  rw [subT_get, if_neg]
  rintro ⟨h1, h2⟩
  rcases h with h | h
  · exact h h1
  · rw [h] at h2; cases h2

theorem subT_mask {st : Tr Blk} {ns : Nat} {sto : List Blk} (h : CorS st ns sto) {rds : List Nat} (hlt : ∀ b, b ∈ rds → b < sto.length) : CorS (subT (rdS st ns) rds .e) ns (mask sto rds) := by
  have hlen := h.len
  refine ⟨by rw [mask_length]; exact hlen, fun b => ?_⟩
  rw [mask_get]
  have hgb := h.get b
  by_cases hb : b ∈ rds
  · have hcb : rds.contains b = true := by simpa using hb
    have hbl := hlt b hb
    rw [List.getElem?_eq_getElem hbl] at hgb ⊢
    rw [rdS_some (subT_in hb hgb)]
    simp only [Option.map_some, hcb, if_true]
  · have hcb : ¬ rds.contains b = true := by simpa using hb
    rw [rdS_none (by rw [subT_out (.inl hb), Tr.get_e])]
    by_cases hbl : b < sto.length
    · rw [List.getElem?_eq_getElem hbl, Option.map_some, if_neg hcb, if_pos (by omega)]
    · rw [List.getElem?_eq_none (by omega), if_neg (by omega)]; rfl

theorem liveE_B {st : Tr Blk} {ns : Nat} {sto : List Blk} (h : CorS st ns sto) {rds : List Nat} (hlv : (rds.all fun b => liveE (rdS st ns b)) = true) : ∀ b, b ∈ rds → liveB sto b = true := fun b hb => by
  have := List.all_eq_true.1 hlv b hb
  rw [h.get b] at this
  unfold liveB
  unfold liveE at this
  exact this

theorem lentC_sound (hc : CSound CF call) {g : FuncId} {args : List AVal} {st st' : Tr Blk} {ns ns' : Nat} {sto : List Blk} {rds : List Nat} {r : AVal} (h : CorS st ns sto) (hl : lentC call g args st ns = some (rds, r, st', ns')) :
    ∃ sto1, CF g args (mask sto rds) r sto1 ∧ (rds.all fun b => liveB sto b) = true ∧ sto.length ≤ sto1.length ∧ inR sto.length rds r = true ∧ insAll sto.length rds 0 sto1 = true ∧ CorS st' ns' (merge sto rds sto1) := by
  unfold lentC at hl
  obtain ⟨rd0, hrd⟩ := closE_eq (rdS st ns) 4000 (refsVL args) [] (fun rd => cond (rd.all fun b => liveE (rdS st ns b)) (match call g args (subT (rdS st ns) rd .e) ns with
    | some (r, st1, ns1) => forceV r fun r => forceN ns1 fun ns1 => cond (inR ns rd r && ((rd.all fun b => inE ns rd (rdS st1 ns1 b)) && ((List.range' ns (ns1 - ns)).all fun b => inE ns rd (rdS st1 ns1 b))))
      (some (rd, r, subT (rdS st1 ns1) (rd ++ List.range' ns (ns1 - ns)) st, ns1)) none
    | none => none) none)
  rw [hrd] at hl
  clear hrd
  cases hlv : (rd0.all fun b => liveE (rdS st ns b)) with
  | false => rw [hlv] at hl; cases hl
  | true =>
    rw [hlv, cond_true] at hl
    have hlen := h.len
    have hlive := liveE_B h hlv
    have hlt : ∀ b, b ∈ rd0 → b < sto.length := fun b hb => live_lt (liveB_iff (hlive b hb))
    have hsub := subT_mask h hlt
    split at hl
    · rename_i r1 st1 ns1 hr
      simp only [forceV_eq, forceN_eq] at hl
      obtain ⟨sto1, h4, h5, h6⟩ := hc _ _ _ _ _ _ _ _ hsub hr
      rw [mask_length] at h6
      cases hck : (inR ns rd0 r1 && ((rd0.all fun b => inE ns rd0 (rdS st1 ns1 b)) && ((List.range' ns (ns1 - ns)).all fun b => inE ns rd0 (rdS st1 ns1 b)))) with
      | false => rw [hck] at hl; cases hl
      | true =>
        rw [hck, cond_true] at hl
        simp only [Bool.and_eq_true] at hck
        obtain ⟨c1, c2, c3⟩ := hck
        cases hl
        have hlen5 := h5.len
        have hmem : ∀ b, b ∈ rds ++ List.range' ns (ns' - ns) ↔ b ∈ rds ∨ (ns ≤ b ∧ b < ns') := fun b => by
          rw [List.mem_append, List.mem_range'_1]
          constructor
          · rintro (h | h)
            · exact .inl h
            · exact .inr (by omega)
          · rintro (h | h)
            · exact .inl h
            · exact .inr (by omega)
        have hcor : CorS (subT (rdS st1 ns') (rds ++ List.range' ns (ns' - ns)) st) ns' (merge sto rds sto1) := by
          refine ⟨by rw [merge_length h6]; exact hlen5, fun b => ?_⟩
          rw [merge_get h6]
          have hgb := h.get b
          have hg5 := h5.get b
          by_cases hin : b ∈ rds ++ List.range' ns (ns' - ns)
          · have hno : ¬ (b < sto.length ∧ rds.contains b = false) := by
              rintro ⟨q1, q2⟩
              rcases (hmem b).1 hin with h7 | h7
              · have : rds.contains b = true := by simpa using h7
                rw [this] at q2; cases q2
              · omega
            rw [if_neg hno]
            have hbn : b < sto1.length := by
              rcases (hmem b).1 hin with h7 | h7
              · have := hlt b h7; omega
              · omega
            rw [List.getElem?_eq_getElem hbn] at hg5 ⊢
            exact rdS_some (subT_in hin hg5)
          · have hnr : b ∉ rds := fun h => hin ((hmem b).2 (.inl h))
            have hcb : rds.contains b = false := by simpa using hnr
            by_cases hbl : b < sto.length
            · rw [if_pos ⟨hbl, hcb⟩, ← hgb]
              cases hst : st.get b with
              | some B => rw [rdS_some (by rw [subT_out (.inl hin)]; exact hst), rdS_some hst]
              | none => rw [rdS_none (by rw [subT_out (.inl hin)]; exact hst), rdS_none hst, if_pos (by omega), if_pos (by omega)]
            · rw [if_neg (fun h => hbl h.1)]
              have hge : ns' ≤ b := by
                rcases Nat.lt_or_ge b ns' with h8 | h8
                · exact (hin ((hmem b).2 (.inr ⟨by omega, h8⟩))).elim
                · exact h8
              rw [List.getElem?_eq_none (by omega)]
              rw [List.getElem?_eq_none (by omega)] at hgb
              cases hst : st.get b with
              | some B => rw [rdS_some hst] at hgb; cases hgb
              | none => rw [rdS_none (by rw [subT_out (.inl hin)]; exact hst), if_neg (by omega)]
        refine ⟨sto1, h4, List.all_eq_true.2 hlive, h6, by rw [← hlen]; exact c1, ?_, hcor⟩
        refine insAll_of sto1 0 fun b B hb hin => ?_
        rw [Nat.zero_add] at hin
        have hg5 := h5.get b
        rw [hb] at hg5
        have hbl := (List.getElem?_eq_some_iff.1 hb).1
        rw [← hlen]
        rcases hin with h7 | h7
        · have := List.all_eq_true.1 c3 b (by rw [List.mem_range'_1]; omega)
          rw [hg5] at this; exact this
        · have := List.all_eq_true.1 c2 b (by simpa using h7)
          rw [hg5] at this; exact this
    · cases hl

theorem lentE_sound (hc : CSound CF call) {id : Nat} {o : Oper} {e e' : ES} {l : Lab} {s : St} {c : Call} {f : Operand} {g : FuncId} {first caps : List AVal} (h : Cor e s) (hg : guardOf ops s.tmps o = .run) (ho : o.op = .call c) (hcl : c.callee = .value f) (hf : s.eval C f = .func g first caps)
    (hl : lentE C call o g (first ++ c.args.toList.map (s.eval C) ++ caps) e = some (l, e')) :
    ∃ s', OpLab C CF (fun _ => false) ops id o l s s' ∧ Cor e' s' ∧ s.sto.length ≤ s'.sto.length := by
  unfold lentE at hl
  split at hl
  · rename_i rds r st ns hcc
    obtain ⟨sto1, h4, h5, h6, h7, h8, h9⟩ := lentC_sound hc h.cs hcc
    split at hl
    · rename_i e1 hp
      cases hl
      refine ⟨_, .fcall (l := ⟨rds, rds, some e.ns, false⟩) hg ho hcl (by rw [tmpEval_eq]; exact hf) (by rw [tmpEval_eq]; exact h4) ⟨by rw [h.cs.len], rfl⟩ rfl h5 h6 h7 h8, h.put h9 hp, by show s.sto.length ≤ (merge s.sto rds sto1).length; rw [merge_length h6]; exact h6⟩
    · cases hl
  · cases hl

/-! Regions whose order is open. -/
noncomputable def tryE (C : Ctx) (ops : Array Oper) (base i : Nat) (o : Oper) (e : ES) (rd : List Nat) : Option (Lab × ES) :=
  match denG o.op (fpOf C) (e.ev C) (fun b => (rdS e.st e.ns b).map fun B => if rd.contains b = true then B else .gone) (idD ops base i o) with
  | some (v, ws) => cond (ws.all fun p => Nat.blt p.1 e.ns) (match wrsE ws e.st e.ns with
    | some (st, ns) => forceV v fun v => (match ES.put ⟨e.tm, e.nt, st, ns⟩ o.dst v with
      | some e' => some (⟨rd, ws.map (·.1), none, false⟩, e')
      | none => none)
    | none => none) none
  | none => none
noncomputable def labE (C : Ctx) (call : CallE) (ops : Array Oper) (base i : Nat) (o : Oper) (e : ES) : Option (Lab × ES) :=
  match guardE ops e o with
  | .lost => none
  | .skip => (match ES.put ⟨e.tm, e.nt, e.st, e.ns⟩ o.dst .undef with
    | some e' => some (⟨[], [], none, false⟩, e')
    | none => none)
  | .run => (match callOf (e.ev C) o with
    | some none => none
    | some (some (g, args)) => lentE C call o g args e
    | none => (match tryE C ops base i o e [] with
      | some r => some r
      | none => tryE C ops base i o e (rdLab (e.ev C) o)))

theorem tryE_sound {base i : Nat} {o : Oper} {e : ES} {rds : List Nat} {l : Lab} {e' : ES} {s : St} (h : Cor e s) (hg : guardOf ops s.tmps o = .run) (ht : tryE C ops base i o e rds = some (l, e')) :
    ∃ s', OpLab C CF (fun _ => false) ops (idD ops base i o) o l s s' ∧ Cor e' s' ∧ s.sto.length ≤ s'.sto.length := by
  unfold tryE at ht
  have hm : (fun b => (rdS e.st e.ns b).map fun B => if rds.contains b = true then B else .gone) = rd (mask s.sto rds) := by
    funext b
    rw [h.cs.get b]
    exact (mask_get rds s.sto b).symm
  rw [hm, h.ev] at ht
  split at ht
  · rename_i v ws hd
    cases hall : (ws.all fun p => Nat.blt p.1 e.ns) with
    | false => rw [hall] at ht; cases ht
    | true =>
      rw [hall, cond_true] at ht
      split at ht
      · rename_i st ns hw
        simp only [forceV_eq] at ht
        split at ht
        · rename_i e1 hp
          cases ht
          have hcc := h.put (wrsE_sound ws h.cs hw) hp
          have hin : ∀ p, p ∈ ws → p.1 < s.sto.length := fun p hp => by
            have := List.all_eq_true.1 hall p hp
            rw [← h.cs.len]; simpa using this
          have hlab : ∀ (hd : OpDo C CF (fun _ => false) ops (idD ops base i o) o s.tmps (mask s.sto rds) v ws), ∃ s', OpLab C CF (fun _ => false) ops (idD ops base i o) o ⟨rds, ws.map (·.1), none, false⟩ s s' ∧ Cor e' s' ∧ s.sto.length ≤ s'.sto.length := fun hd =>
            ⟨_, OpLab.intro (l := ⟨rds, ws.map (·.1), none, false⟩) hd rfl hin ⟨rfl, rfl⟩, hcc, wrs_ge _ _⟩
          rcases denB_sound hd with hd | hd
          · refine hlab (.den hg ?_)
            rw [tmpEval_eq]
            cases hdst : o.dst <;> exact hd
          · exact hlab (.ext hg (by rw [tmpEval_eq]; exact hd))
        · cases ht
      · cases ht
  · cases ht

theorem labE_sound (hc : CSound CF call) {base i : Nat} {o : Oper} {e e' : ES} {l : Lab} {s : St} (h : Cor e s) (ho : labE C call ops base i o e = some (l, e')) :
    ∃ s', OpLab C CF (fun _ => false) ops (idD ops base i o) o l s s' ∧ Cor e' s' ∧ s.sto.length ≤ s'.sto.length := by
  unfold labE at ho
  rw [h.guard ops o] at ho
  split at ho
  · cases ho
  · rename_i hg
    split at ho
    · rename_i e1 hp
      cases ho
      exact ⟨_, OpLab.intro (l := ⟨[], [], none, false⟩) (ws := []) (.skip hg) rfl (fun p hp => by cases hp) ⟨rfl, rfl⟩, h.put h.cs hp, Nat.le_refl _⟩
    · cases ho
  · rename_i hg
    split at ho
    · cases ho
    · rename_i g args hcall
      rw [h.ev] at hcall
      obtain ⟨c, f, first, caps, h1, h2, h3, rfl⟩ := callOf_some hcall
      exact lentE_sound hc h hg h1 h2 h3 ho
    · split at ho
      · rename_i r hr
        cases ho
        exact tryE_sound h hg hr
      · exact tryE_sound h hg ho

noncomputable def opsDE (C : Ctx) (call : CallE) (ops : Array Oper) (base : Nat) : Nat → List Oper → ES → Option (List (Nat × Lab) × ES)
  | _, [], e => some ([], e)
  | k, o :: rest, e => (match labE C call ops base k o e with
    | some (l, e) => (match opsDE C call ops base (k + 1) rest e with
      | some (il, e) => some ((k, l) :: il, e)
      | none => none)
    | none => none)
theorem opsDE_sound (hc : CSound CF call) {base : Nat} : ∀ (l : List Oper) (k : Nat) {e e' : ES} {il : List (Nat × Lab)} {s : St}, ops.toList.drop k = l → Cor e s → opsDE C call ops base k l e = some (il, e') →
    ∃ s', RunD C CF (fun _ => false) ops base il s s' ∧ Cor e' s' ∧ s.sto.length ≤ s'.sto.length ∧ il.map (·.1) = List.range' k l.length := by
  intro l
  induction l with
  | nil => intro k e e' il s hl h ho; cases ho; exact ⟨s, .nil s, h, Nat.le_refl _, rfl⟩
  | cons o l ih =>
    intro k e e' il s hl h ho
    unfold opsDE at ho
    split at ho
    · rename_i lb e1 h1
      split at ho
      · rename_i il' e2 h2
        cases ho
        have hk : ops[k]? = some o := by
          have : (ops.toList.drop k)[0]? = some o := by rw [hl]; rfl
          rw [List.getElem?_drop, Nat.add_zero, Array.getElem?_toList] at this
          exact this
        have hl' : ops.toList.drop (k + 1) = l := by
          have : (ops.toList.drop k).drop 1 = l := by rw [hl]; rfl
          rwa [List.drop_drop] at this
        obtain ⟨s1, h3, h4, h5⟩ := labE_sound hc h h1
        obtain ⟨s2, h6, h7, h8, h9⟩ := ih (k + 1) hl' h4 h2
        exact ⟨s2, .cons hk h3 h6, h7, Nat.le_trans h5 h8, by simp [h9, List.range'_succ]⟩
      · cases ho
    · cases ho

theorem Cor.reserve {e : ES} {s : St} (h : Cor e s) (ops : Array Oper) : Cor ⟨e.tm, e.nt, e.st, e.ns + rank ops.toList ops.size⟩ (Ai.reserve ops s) := by
  refine ⟨h.nt, h.tm, ⟨by simp [Ai.reserve, h.cs.len], fun b => ?_⟩⟩
  have hb := h.cs.get b
  have hn := h.cs.len
  simp only [Ai.reserve, List.getElem?_append]
  simp only [rdS] at hb ⊢
  cases hg : e.st.get b with
  | some B =>
    rw [hg] at hb
    have hlt := (List.getElem?_eq_some_iff.1 hb.symm).1
    rw [if_pos hlt, ← hb]
  | none =>
    rw [hg] at hb
    simp only at hb ⊢
    by_cases hlt : b < s.sto.length
    · rw [if_pos hlt, ← hb]
      have e1 : Nat.blt b e.ns = true := by simp; omega
      have e2 : Nat.blt b (e.ns + rank ops.toList ops.size) = true := by simp; omega
      rw [e1, e2]
    · rw [if_neg hlt, List.getElem?_replicate]
      by_cases h2 : b - s.sto.length < rank ops.toList ops.size
      · have e2 : Nat.blt b (e.ns + rank ops.toList ops.size) = true := by simp; omega
        rw [if_pos h2, e2]; rfl
      · have e2 : Nat.blt b (e.ns + rank ops.toList ops.size) = false := by
          rw [Bool.eq_false_iff]; simp; omega
        rw [if_neg h2, e2]; rfl
end

/-! Code and calls. -/
inductive EOut where
  | norm (e : ES)
  | exit (id : Nat) (e : ES)
  | ret (e : ES)
noncomputable def tmFrom {α : Type} : Nat → List α → Tr α → Tr α
  | _, [], t => t
  | k, x :: xs, t => tmFrom (k + 1) xs (t.put k x)
noncomputable def entryE (n : Nat) (args : List AVal) (st : Tr Blk) (ns : Nat) : Option ES := cond (Nat.ble args.length n) (some ⟨tmFrom 0 args .e, n, st, ns⟩) none
noncomputable def resVE (P : FP) (e : ES) : ResultVar → Option AVal
  | .tmp t => some (e.tv t)
  | .cell a t => (layF P t).bind fun q => (rdCellsE (rdS e.st e.ns) (e.tv a) (if q.1 = true then q.2 else 1)).bind (mkV q.1)
noncomputable def resLE (P : FP) (e : ES) : List ResultVar → Option (List AVal)
  | [] => some []
  | r :: rest => (resVE P e r).bind fun v => (resLE P e rest).map (v :: ·)
noncomputable def resAE (P : FP) (e : ES) (rs : List ResultVar) : Option AVal :=
  (resLE P e rs).map fun vs => match vs with | [v] => v | vs => .tup vs
/-! Steps over maps: all ways. -/
def bindM {α β : Type} (f : α → Option (List β)) : List α → Option (List β)
  | [] => some []
  | x :: xs => (match f x with
    | some l => (match bindM f xs with
      | some m => some (l ++ m)
      | none => none)
    | none => none)
theorem bindM_mem {α β : Type} {f : α → Option (List β)} : ∀ {xs : List α} {ys : List β}, bindM f xs = some ys → ∀ x, x ∈ xs → ∃ l, f x = some l ∧ ∀ y, y ∈ l → y ∈ ys := by
  intro xs
  induction xs with
  | nil => intro ys _ x hx; cases hx
  | cons z zs ih =>
    intro ys h x hx
    simp only [bindM] at h
    split at h
    · rename_i l hl
      split at h
      · rename_i m hm
        cases h
        rcases List.mem_cons.1 hx with rfl | hx
        · exact ⟨l, hl, fun y hy => List.mem_append_left _ hy⟩
        · obtain ⟨l', h1, h2⟩ := ih hm x hx
          exact ⟨l', h1, fun y hy => List.mem_append_right _ (h2 y hy)⟩
      · cases h
    · cases h
noncomputable def singleM (C : Ctx) (call : CallE) (ops : Array Oper) (o : Oper) (e : ES) : Option (List ES) :=
  match opE C call ops o e with
  | some e1 => some [e1]
  | none => none
noncomputable def rangeM (C : Ctx) (o : Oper) (t : TypeId) (b : Nat) (e : ES) : Option (List ES) :=
  cond (mapTF (fpOf C) t).isSome (match rdS e.st e.ns b with
    | some (.map _ clock) => (match wrsE [(e.ns, .miter (.mapr b) clock [] clock)] e.st e.ns with
      | some (st, ns) => (match ES.put ⟨e.tm, e.nt, st, ns⟩ o.dst (.ptr e.ns 0) with
        | some e1 => some [e1]
        | none => none)
      | none => none)
    | _ => none) none
def leftM (es : List (AVal × AVal × Nat)) (seen : List Nat) : List (AVal × AVal × Nat) := es.filter fun p => !(hasN seen p.2.2)
noncomputable def nextM (o : Oper) (b : Nat) (e : ES) : Option (List ES) :=
  match rdS e.st e.ns b with
  | some (.miter (.mapr m) since seen last) => (match rdS e.st e.ns m with
    | some (.map es clock) => cond ((es.all fun p => Nat.blt p.2.2 since) && Nat.ble since last)
      (cond (leftM es seen).isEmpty (match ES.put ⟨e.tm, e.nt, e.st, e.ns⟩ o.dst (.tup [.bool false]) with
        | some e1 => some [e1]
        | none => none)
      (bindM (fun p => (match wrsE [(b, .miter (.mapr m) since (seen ++ [p.2.2]) clock)] e.st e.ns with
        | some (st, ns) => (match ES.put ⟨e.tm, e.nt, st, ns⟩ o.dst (.tup [.bool true, p.1, p.2.1]) with
          | some e1 => some [e1]
          | none => none)
        | none => none)) (leftM es seen))) none
    | _ => none)
  | _ => none
noncomputable def entryM (o : Oper) (b : Nat) (e : ES) : Option (List ES) :=
  match rdS e.st e.ns b with
  | some (.miter (.mapr m) _ seen last) => (match rdS e.st e.ns m with
    | some (.map es clock) => (match seen.getLast? with
      | some n => (match es.find? fun p => Nat.beq p.2.2 n with
        | some p => cond (Nat.beq last clock && decide ((es.map (·.2.2)).Nodup)) (match ES.put ⟨e.tm, e.nt, e.st, e.ns⟩ o.dst (.tup [p.1, p.2.1]) with
          | some e1 => some [e1]
          | none => none) none
        | none => none)
      | none => none)
    | _ => none)
  | _ => none
noncomputable def stepM (C : Ctx) (call : CallE) (ops : Array Oper) (o : Oper) (e : ES) : Option (List ES) :=
  match guardE ops e o with
  | .run => (match mKind o.op with
    | .range t x => (match e.ev C x with
      | .mapr b => rangeM C o t b e
      | _ => singleM C call ops o e)
    | .next it false => (match e.ev C it with
      | .ptr b 0 => nextM o b e
      | _ => none)
    | .entry it => (match e.ev C it with
      | .ptr b 0 => entryM o b e
      | _ => none)
    | _ => singleM C call ops o e)
  | _ => singleM C call ops o e
noncomputable def opsM (C : Ctx) (call : CallE) (ops : Array Oper) : List Oper → ES → Option (List ES)
  | [], e => some [e]
  | o :: rest, e => (match stepM C call ops o e with
    | some es => bindM (opsM C call ops rest) es
    | none => none)

/-! What is equal. -/
mutual
def eqV : AVal → AVal → Bool
  | .int k n, y => (match y with | .int k' n' => decide (k = k') && decide (n = n') | _ => false)
  | .bool b, y => (match y with | .bool b' => b == b' | _ => false)
  | .str s, y => (match y with | .str s' => decide (s = s') | _ => false)
  | .nilptr, y => (match y with | .nilptr => true | _ => false)
  | .nilfunc, y => (match y with | .nilfunc => true | _ => false)
  | .nilif, y => (match y with | .nilif => true | _ => false)
  | .nilmap, y => (match y with | .nilmap => true | _ => false)
  | .undef, y => (match y with | .undef => true | _ => false)
  | .dead, y => (match y with | .dead => true | _ => false)
  | .slc n rows c, y => (match rows with | [] => (match y with | .slc n' [] c' => Nat.beq n n' && decide (c = c') | _ => false) | _ => false)
  | .agg cs, y => (match y with | .agg ds => eqVL cs ds | _ => false)
  | .tup cs, y => (match y with | .tup ds => eqVL cs ds | _ => false)
  | .ptr b o, y => (match y with | .ptr b' o' => Nat.beq b b' && Nat.beq o o' | _ => false)
  | .sub b n lo len c, y => (match y with | .sub b' n' lo' len' c' => Nat.beq b b' && Nat.beq n n' && Nat.beq lo lo' && Nat.beq len len' && decide (c = c') | _ => false)
  | .csl b o s len c, y => (match y with | .csl b' o' s' len' c' => Nat.beq b b' && Nat.beq o o' && Nat.beq s s' && Nat.beq len len' && Nat.beq c c' | _ => false)
  | .mapr b, y => (match y with | .mapr b' => Nat.beq b b' | _ => false)
  | .func g cs es, y => (match y with | .func g' ds fs => Nat.beq g g' && eqVL cs ds && eqVL es fs | _ => false)
  | .iface t x, y => (match y with | .iface t' x' => Nat.beq t t' && eqV x x' | _ => false)
  | .eptr a b c d, y => (match y with | .eptr a' b' c' d' => Nat.beq a a' && Nat.beq b b' && Nat.beq c c' && Nat.beq d d' | _ => false)
  | _, _ => false
def eqVL : List AVal → List AVal → Bool
  | [], ys => (match ys with | [] => true | _ => false)
  | x :: xs, ys => (match ys with | y :: ys => eqV x y && eqVL xs ys | [] => false)
end
mutual
theorem eqV_eq : ∀ (x y : AVal), eqV x y = true → x = y
  | .int k n, y, h => by
    cases y <;> simp only [eqV, Bool.and_eq_true, decide_eq_true_eq] at h <;> first | (obtain ⟨rfl, rfl⟩ := h; rfl) | cases h
  | .bool b, y, h => by cases y <;> simp only [eqV, beq_iff_eq] at h <;> first | (subst h; rfl) | cases h
  | .str s, y, h => by cases y <;> simp only [eqV, decide_eq_true_eq] at h <;> first | (subst h; rfl) | cases h
  | .nilptr, y, h => by cases y <;> simp only [eqV] at h <;> first | rfl | cases h
  | .nilfunc, y, h => by cases y <;> simp only [eqV] at h <;> first | rfl | cases h
  | .nilif, y, h => by cases y <;> simp only [eqV] at h <;> first | rfl | cases h
  | .nilmap, y, h => by cases y <;> simp only [eqV] at h <;> first | rfl | cases h
  | .undef, y, h => by cases y <;> simp only [eqV] at h <;> first | rfl | cases h
  | .dead, y, h => by cases y <;> simp only [eqV] at h <;> first | rfl | cases h
  | .slc n rows c, y, h => by
    cases rows with
    | cons r rows => simp [eqV] at h
    | nil =>
      cases y with
      | slc n' rows' c' =>
        cases rows' with
        | cons r rows' => simp [eqV] at h
        | nil =>
          simp only [eqV, Bool.and_eq_true, decide_eq_true_eq] at h
          rw [Nat.eq_of_beq_eq_true h.1, h.2]
      | _ => simp [eqV] at h
  | .agg cs, y, h => by cases y <;> simp only [eqV] at h <;> first | (rw [eqVL_eq _ _ h]) | cases h
  | .tup cs, y, h => by cases y <;> simp only [eqV] at h <;> first | (rw [eqVL_eq _ _ h]) | cases h
  | .ptr b o, y, h => by
    cases y <;> simp only [eqV, Bool.and_eq_true] at h <;> first | (rw [Nat.eq_of_beq_eq_true h.1, Nat.eq_of_beq_eq_true h.2]) | cases h
  | .sub b n lo len c, y, h => by
    cases y <;> simp only [eqV, Bool.and_eq_true, decide_eq_true_eq] at h <;> first
      | (rw [Nat.eq_of_beq_eq_true h.1.1.1.1, Nat.eq_of_beq_eq_true h.1.1.1.2, Nat.eq_of_beq_eq_true h.1.1.2, Nat.eq_of_beq_eq_true h.1.2, h.2])
      | cases h
  | .csl b o s len c, y, h => by
    cases y <;> simp only [eqV, Bool.and_eq_true] at h <;> first
      | (rw [Nat.eq_of_beq_eq_true h.1.1.1.1, Nat.eq_of_beq_eq_true h.1.1.1.2, Nat.eq_of_beq_eq_true h.1.1.2, Nat.eq_of_beq_eq_true h.1.2, Nat.eq_of_beq_eq_true h.2])
      | cases h
  | .mapr b, y, h => by cases y <;> simp only [eqV] at h <;> first | (rw [Nat.eq_of_beq_eq_true h]) | cases h
  | .rptr _, _, h => by simp [eqV] at h
  | .func g cs es, y, h => by
    cases y <;> simp only [eqV, Bool.and_eq_true] at h <;> first | (rw [Nat.eq_of_beq_eq_true h.1.1, eqVL_eq _ _ h.1.2, eqVL_eq _ _ h.2]) | cases h
  | .iface t x, y, h => by
    cases y <;> simp only [eqV, Bool.and_eq_true] at h <;> first | (rw [Nat.eq_of_beq_eq_true h.1, eqV_eq _ _ h.2]) | cases h
  | .eptr a b c d, y, h => by
    cases y <;> simp only [eqV, Bool.and_eq_true] at h <;> first
      | (rw [Nat.eq_of_beq_eq_true h.1.1.1, Nat.eq_of_beq_eq_true h.1.1.2, Nat.eq_of_beq_eq_true h.1.2, Nat.eq_of_beq_eq_true h.2])
      | cases h
  | .bsl _ _, _, h => by simp [eqV] at h
theorem eqVL_eq : ∀ (xs ys : List AVal), eqVL xs ys = true → xs = ys
  | [], ys, h => by cases ys <;> simp only [eqVL] at h <;> first | rfl | cases h
  | x :: xs, ys, h => by
    cases ys <;> simp only [eqVL, Bool.and_eq_true] at h <;> first | (rw [eqV_eq _ _ h.1, eqVL_eq _ _ h.2]) | cases h
end
def eqRL : List (List AVal) → List (List AVal) → Bool
  | [], ys => (match ys with | [] => true | _ => false)
  | x :: xs, ys => (match ys with | y :: ys => eqVL x y && eqRL xs ys | [] => false)
theorem eqRL_eq : ∀ (xs ys : List (List AVal)), eqRL xs ys = true → xs = ys
  | [], ys, h => by cases ys <;> simp only [eqRL] at h <;> first | rfl | cases h
  | x :: xs, ys, h => by
    cases ys <;> simp only [eqRL, Bool.and_eq_true] at h <;> first | (rw [eqVL_eq _ _ h.1, eqRL_eq _ _ h.2]) | cases h
def eqML : List (AVal × AVal × Nat) → List (AVal × AVal × Nat) → Bool
  | [], ys => (match ys with | [] => true | _ => false)
  | (a, b, n) :: xs, ys => (match ys with | (a', b', n') :: ys => eqV a a' && eqV b b' && Nat.beq n n' && eqML xs ys | [] => false)
theorem eqML_eq : ∀ (xs ys : List (AVal × AVal × Nat)), eqML xs ys = true → xs = ys
  | [], ys, h => by cases ys <;> simp only [eqML] at h <;> first | rfl | cases h
  | (a, b, n) :: xs, ys, h => by
    cases ys with
    | nil => simp [eqML] at h
    | cons y ys =>
      obtain ⟨a', b', n'⟩ := y
      simp only [eqML, Bool.and_eq_true] at h
      rw [eqV_eq _ _ h.1.1.1, eqV_eq _ _ h.1.1.2, Nat.eq_of_beq_eq_true h.1.2, eqML_eq _ _ h.2]
def eqB (x y : Blk) : Bool := match x with
  | .cells t cs => (match y with | .cells t' cs' => Nat.beq t t' && eqVL cs cs' | _ => false)
  | .arr t sz rows => (match y with | .arr t' sz' rows' => Nat.beq t t' && Nat.beq sz sz' && eqRL rows rows' | _ => false)
  | .map es c => (match y with | .map es' c' => eqML es es' && Nat.beq c c' | _ => false)
  | .gone => (match y with | .gone => true | _ => false)
  | _ => false
theorem eqB_eq {x y : Blk} (h : eqB x y = true) : x = y := by
  cases x <;> cases y <;> simp only [eqB, Bool.and_eq_true] at h <;> first
    | rfl
    | (rw [Nat.eq_of_beq_eq_true h.1, eqVL_eq _ _ h.2])
    | (rw [Nat.eq_of_beq_eq_true h.1.1, Nat.eq_of_beq_eq_true h.1.2, eqRL_eq _ _ h.2])
    | (rw [eqML_eq _ _ h.1, Nat.eq_of_beq_eq_true h.2])
    | cases h
def eqO (x y : Option Blk) : Bool := match x with
  | none => (match y with | none => true | _ => false)
  | some x => (match y with | some y => eqB x y | none => false)
theorem eqO_eq {x y : Option Blk} (h : eqO x y = true) : x = y := by
  cases x <;> cases y <;> simp only [eqO] at h <;> first | rfl | (rw [eqB_eq h]) | cases h
noncomputable def eqT (t : Tr Blk) : Tr Blk → Bool :=
  Tr.rec (motive := fun _ => Tr Blk → Bool) (fun u => Tr.casesOn u true fun _ _ _ => false) (fun _ v _ ihl ihr u => Tr.casesOn u false fun l' v' r' => ihl l' && (eqO v v' && ihr r')) t
theorem eqT_eq : ∀ (t u : Tr Blk), eqT t u = true → t = u := by
  intro t
  induction t with
  | e => intro u h; cases u with | e => rfl | n l v r => cases h
  | n l v r ihl ihr =>
    intro u h
    cases u with
    | e => cases h
    | n l' v' r' =>
      have h : (eqT l l' && (eqO v v' && eqT r r')) = true := h
      simp only [Bool.and_eq_true] at h
      rw [ihl _ h.1, eqO_eq h.2.1, ihr _ h.2.2]

/-! The end of a call that steps over maps: what nothing leads to is gone. -/
def lowBE (L : Nat) : Option Blk → Bool
  | some (.cells _ cs) => lowRL L cs
  | some (.arr _ _ rows) => rows.all (lowRL L)
  | some (.map es _) => es.all fun p => lowR L p.1 && lowR L p.2.1
  | some (.buf _ _ _ _) => true
  | some (.nbuf _ _) => true
  | some (.iter _ _) => true
  | some .gone => true
  | _ => false
def resRoots (rs : List ResultVar) : List Nat := rs.map fun r => match r with | .tmp t => t | .cell a _ => a
noncomputable def gcE (args : List AVal) (rs : List ResultVar) (e : ES) : Option ES :=
  closE (rdS e.st e.ns) 4000 (refsVL args ++ refsVL ((resRoots rs).map e.tv)) [] fun K =>
    cond ((K.all fun b => liveE (rdS e.st e.ns b)) && ((K.all fun b => Nat.blt b e.ns && lowBE e.ns (rdS e.st e.ns b)) && ((List.range e.nt).all fun t => lowR e.ns (e.tv t))))
      (some ⟨e.tm, e.nt, subT (rdS e.st e.ns) K .e, e.ns⟩) none
noncomputable def finM (P : FP) (args : List AVal) (fn : Func) (o : EOut) : Option (AVal × Tr Blk × Nat) :=
  match o with
  | .norm e => (match gcE args fn.results.toList e with
    | some e2 => (match resAE P e2 fn.results.toList with | some r => some (r, e2.st, e2.ns) | none => none)
    | none => none)
  | .ret e => (match gcE args fn.results.toList e with
    | some e2 => (match resAE P e2 fn.results.toList with | some r => some (r, e2.st, e2.ns) | none => none)
    | none => none)
  | _ => none
noncomputable def joinM (P : FP) (args : List AVal) (fn : Func) : List EOut → Option (AVal × Tr Blk × Nat)
  | [] => none
  | o :: rest => (match finM P args fn o with
    | some (r, st, ns) => cond (rest.all fun o' => (match finM P args fn o' with | some (r', st', ns') => eqV r r' && (Nat.beq ns ns' && eqT st st') | none => false)) (some (r, st, ns)) none
    | none => none)
noncomputable def callM (C : Ctx) (rm : Code → ES → Option (List EOut)) : CallE := fun g args st ns =>
  match C.J g with
  | some fn => (match fn.body with
    | some c => (match entryE fn.ntmps args st ns with
      | some e => (match rm c e with
        | some os => (match joinM (fpOf C) args fn os with
          | some (r, st1, ns1) => cond (Nat.ble ns ns1) (some (r, st1, ns1)) none
          | none => none)
        | none => none)
      | none => none)
    | none => none)
  | none => none
noncomputable def callS (C : Ctx) (rc : Code → ES → Option EOut) : CallE := fun g args st ns =>
  match C.J g with
  | some fn => (match fn.body with
    | some c => (match entryE fn.ntmps args st ns with
      | some e => (match rc c e with
        | some (.norm e1) => (match resAE (fpOf C) e1 fn.results.toList with | some r => some (r, e1.st, e1.ns) | none => none)
        | some (.ret e1) => (match resAE (fpOf C) e1 fn.results.toList with | some r => some (r, e1.st, e1.ns) | none => none)
        | _ => none)
      | none => none)
    | none => none)
  | none => none
/-! Calls that are known: a table. -/
structure TE where
  g : FuncId
  args : List AVal
  st : Tr Blk
  ns : Nat
  r : AVal
  st' : Tr Blk
  ns' : Nat
noncomputable def TE.is (t : TE) (g : FuncId) (args : List AVal) (st : Tr Blk) (ns : Nat) : Bool := cond (Nat.beq t.g g) (cond (Nat.beq t.ns ns) (cond (eqVL t.args args) (eqT t.st st) false) false) false
noncomputable def callT (call : CallE) : List TE → CallE
  | [], g, args, st, ns => call g args st ns
  | t :: tab, g, args, st, ns => cond (t.is g args st ns) (some (t.r, t.st', t.ns')) (callT call tab g args st ns)
noncomputable def callE (C : Ctx) (Ms : List Nat) (tab : List TE) (rc : Code → ES → Option EOut) (rm : Code → ES → Option (List EOut)) : CallE := fun g args st ns =>
  cond (hasN Ms g) (match lentC (callT (callM C rm) tab) g args st ns with | some (_, r, st, ns) => some (r, st, ns) | none => none) (callS C rc g args st ns)
noncomputable def evDraw (C : Ctx) (call : CallE) (ops : Array Oper) (e : ES) : Option EOut :=
  match opsDE C call ops e.ns 0 ops.toList ⟨e.tm, e.nt, e.st, e.ns + rank ops.toList ops.size⟩ with
  | some (il, e) => cond (openOK ops il) (some (.norm e)) none
  | none => none
noncomputable def evReg (C : Ctx) (call : CallE) (ops : Array Oper) (e : ES) : Option EOut :=
  match opsE C call ops ops.toList e with | some e => some (.norm e) | none => none
noncomputable def evSeq (rc : Code → ES → Option EOut) (a b : Code) (e : ES) : Option EOut :=
  match rc a e with | some (.norm e1) => rc b e1 | r => r
noncomputable def evCond (C : Ctx) (rc : Code → ES → Option EOut) (x : Operand) (a b : Code) (e : ES) : Option EOut :=
  match e.ev C x with | .bool t => rc (cond t a b) e | _ => none
noncomputable def evBlock (rc : Code → ES → Option EOut) (id : Nat) (b : Code) (e : ES) : Option EOut :=
  match rc b e with | some (.exit id' e1) => cond (Nat.beq id' id) (some (.norm e1)) (some (.exit id' e1)) | r => r
noncomputable def evLoop (rc : Code → ES → Option EOut) (b : Code) (e : ES) : Option EOut :=
  match rc b e with | some (.norm e1) => rc (.loop b) e1 | r => r
noncomputable def evStep (C : Ctx) (call : CallE) (rc : Code → ES → Option EOut) (c : Code) (e : ES) : Option EOut :=
  match c with
  | .skip => some (.norm e)
  | .label _ => some (.norm e)
  | .exit id => some (.exit id e)
  | .ret => some (.ret e)
  | .region _ ops false => evReg C call ops e
  | .region _ ops true => evDraw C call ops e
  | .seq a b => evSeq rc a b e
  | .cond x a b => evCond C rc x a b e
  | .block id b => evBlock rc id b e
  | .loop b => evLoop rc b e
  | .scope c => rc c e
  | _ => none
noncomputable def evMReg (C : Ctx) (call : CallE) (ops : Array Oper) (e : ES) : Option (List EOut) :=
  match opsM C call ops ops.toList e with | some es => some (es.map .norm) | none => none
noncomputable def evMSeq (rm : Code → ES → Option (List EOut)) (a b : Code) (e : ES) : Option (List EOut) :=
  match rm a e with | some os => bindM (fun o => (match o with | .norm e1 => rm b e1 | o => some [o])) os | none => none
noncomputable def evMCond (C : Ctx) (rm : Code → ES → Option (List EOut)) (x : Operand) (a b : Code) (e : ES) : Option (List EOut) :=
  match e.ev C x with | .bool t => rm (cond t a b) e | _ => none
noncomputable def evMBlock (rm : Code → ES → Option (List EOut)) (id : Nat) (b : Code) (e : ES) : Option (List EOut) :=
  match rm b e with | some os => some (os.map fun o => (match o with | .exit id' e1 => cond (Nat.beq id' id) (.norm e1) (.exit id' e1) | o => o)) | none => none
noncomputable def evMLoop (rm : Code → ES → Option (List EOut)) (b : Code) (e : ES) : Option (List EOut) :=
  match rm b e with | some os => bindM (fun o => (match o with | .norm e1 => rm (.loop b) e1 | o => some [o])) os | none => none
noncomputable def evMOne (C : Ctx) (call : CallE) (rc : Code → ES → Option EOut) (c : Code) (e : ES) : Option (List EOut) :=
  match evStep C call rc c e with | some o => some [o] | none => none
noncomputable def evMStep (C : Ctx) (call : CallE) (rc : Code → ES → Option EOut) (rm : Code → ES → Option (List EOut)) (c : Code) (e : ES) : Option (List EOut) :=
  match c with
  | .region _ ops false => evMReg C call ops e
  | .seq a b => evMSeq rm a b e
  | .cond x a b => evMCond C rm x a b e
  | .block id b => evMBlock rm id b e
  | .loop b => evMLoop rm b e
  | .scope c => rm c e
  | c => evMOne C call rc c e
structure EP where
  c : Code → ES → Option EOut
  m : Code → ES → Option (List EOut)
noncomputable def evP (C : Ctx) (Ms : List Nat) (tab : List TE) (n : Nat) : EP := Nat.rec (motive := fun _ => EP) ⟨fun _ _ => none, fun _ _ => none⟩ (fun _ ih => ⟨evStep C (callE C Ms tab ih.c ih.m) ih.c, evMStep C (callE C Ms tab ih.c ih.m) ih.c ih.m⟩) n

def EOut.es : EOut → ES
  | .norm e => e
  | .exit _ e => e
  | .ret e => e
inductive CorO : EOut → Out → Prop
  | norm {e : ES} {s : St} (h : Cor e s) : CorO (.norm e) (.norm s)
  | exit {id : Nat} {e : ES} {s : St} (h : Cor e s) : CorO (.exit id e) (.exit id s)
  | ret {e : ES} {s : St} (h : Cor e s) : CorO (.ret e) (.ret s)

theorem tmFrom_get {α : Type} : ∀ (xs : List α) (k : Nat) (t : Tr α) (j : Nat), (tmFrom k xs t).get j = if k ≤ j ∧ j < k + xs.length then xs[j - k]? else t.get j := by
  intro xs
  induction xs with
  | nil => intro k t j; rw [if_neg (by simp)]; rfl
  | cons x xs ih =>
    intro k t j
    simp only [tmFrom, ih, Tr.get_put, List.length_cons]
    by_cases h1 : k + 1 ≤ j ∧ j < k + 1 + xs.length
    · rw [if_pos h1, if_pos (by omega)]
      have : j - k = (j - (k + 1)) + 1 := by omega
      rw [this, List.getElem?_cons_succ]
    · rw [if_neg h1]
      by_cases h2 : j = k
      · subst h2; rw [if_pos rfl, if_pos (by omega), Nat.sub_self]; rfl
      · rw [if_neg h2, if_neg (by omega)]
/-- Tables of a program's types and functions. -/
noncomputable def tabI (P : Program) : TypeId → Option TypeInfo := fun t => match (tmFrom 0 P.types.toList .e).get t with
  | some i => some i
  | none => P.info? t
noncomputable def tabJ (P : Program) : FuncId → Option Func := (tmFrom 0 P.funcs.toList .e).get
theorem tab_get {α : Type} (l : List α) (j : Nat) : (tmFrom 0 l (.e : Tr α)).get j = l[j]? := by
  rw [tmFrom_get]
  by_cases h : j < l.length
  · rw [if_pos ⟨Nat.zero_le _, by omega⟩, Nat.sub_zero]
  · rw [if_neg (by omega), List.getElem?_eq_none (by omega)]; rfl
theorem tabI_eq (P : Program) : tabI P = P.info? := by
  funext t
  unfold tabI
  rw [tab_get, Array.getElem?_toList]
  split
  · rename_i i h
    have hlt := (Array.getElem?_eq_some_iff.1 h).1
    unfold Tables.info?
    rw [if_pos hlt, h]
  · rfl
theorem tabJ_eq (P : Program) : tabJ P = fun g => P.funcs[g]? := by
  funext g
  rw [tabJ, tab_get]
  simp
theorem entryE_sound {n : Nat} {args : List AVal} {st : Tr Blk} {ns : Nat} {sto : List Blk} {e : ES} (h : CorS st ns sto) (he : entryE n args st ns = some e) : Cor e (entry n args sto) := by
  unfold entryE at he
  cases hb : Nat.ble args.length n with
  | false => rw [hb] at he; cases he
  | true =>
    rw [hb] at he; cases he
    have hle := Nat.le_of_ble_eq_true hb
    refine ⟨by simp [entry]; omega, fun t => ?_, h⟩
    simp only [ES.tv, tmFrom_get, entry, Tr.get_e, Nat.zero_le, true_and, Nat.zero_add, Nat.sub_zero]
    rw [List.getD_eq_getElem?_getD, List.getElem?_append]
    by_cases h1 : t < args.length
    · rw [if_pos h1, if_pos h1, List.getElem?_eq_getElem h1]; rfl
    · rw [if_neg h1, if_neg h1, List.getElem?_replicate]
      by_cases h2 : t < n
      · have : Nat.blt t n = true := by simpa using h2
        rw [this, if_pos (by omega)]; rfl
      · have : Nat.blt t n = false := by rw [Bool.eq_false_iff]; simp; omega
        rw [this, if_neg (by omega)]; rfl
theorem resAE_sound0 {P : Program} {e : ES} {s : St} (h : Cor e s) (rs : List ResultVar) : resAE (fo P) e rs = resA P s rs := by
  have hv : ∀ r, resVE (fo P) e r = resV P s r := fun r => by
    cases r with
    | tmp t => simp only [resVE, resV, h.tm]
    | cell a t => simp only [resVE, resV, h.tm, h.cs.rd, rdCellsE_eq, layF_eq]
  have hl : ∀ rs, resLE (fo P) e rs = resL P s rs := fun rs => by
    induction rs with
    | nil => rfl
    | cons r rs ih => simp only [resLE, resL, hv, ih]
  unfold resAE resA
  rw [hl]; rfl

theorem resAE_sound {C : Ctx} {e : ES} {s : St} (h : Cor e s) (rs : List ResultVar) : resAE (fpOf C) e rs = resA C.P s rs := by rw [fpOf_eq]; exact resAE_sound0 h rs

/-- No function with a body bears the one name that is set apart. -/
def NamesOK (P : Program) : Prop := ∀ (g : FuncId) (fn : Func), P.funcs[g]? = some fn → fn.body.isSome = true → fn.name ≠ "runtime.NumGoroutine"

theorem last_split {l : List Nat} {n : Nat} (h : l.getLast? = some n) : l = l.dropLast ++ [n] := by
  cases l with
  | nil => cases h
  | cons x xs =>
    rw [List.getLast?_eq_some_getLast (by simp)] at h
    cases h
    exact (List.dropLast_concat_getLast (by simp)).symm
theorem hasN_iff : ∀ {l : List Nat} {b : Nat}, hasN l b = true ↔ b ∈ l := by
  intro l
  induction l with
  | nil => intro b; simp [hasN]
  | cons x xs ih =>
    intro b
    simp only [hasN, List.mem_cons]
    cases h : Nat.beq x b with
    | true => have := Nat.eq_of_beq_eq_true h; subst this; simp
    | false => have := Nat.ne_of_beq_eq_false h; simp only [cond_false, ih]; constructor
               · exact .inr
               · rintro (h1 | h1)
                 · exact (this h1.symm).elim
                 · exact h1

section
variable {C : Ctx} {CF : CallRel} {call : CallE} {ops : Array Oper}
theorem stepM_sound (hc : CSound CF call) {o : Oper} {e : ES} {s : St} {es : List ES} (h : Cor e s) (ho : stepM C call ops o e = some es) {rest : List Oper} {Q : St → Prop}
    (hk : ∀ e1, e1 ∈ es → ∀ s1, Cor e1 s1 → s.sto.length ≤ s1.sto.length → RunM C CF (fun _ => false) ops rest s1 Q) : RunM C CF (fun _ => false) ops (o :: rest) s Q := by
  have single : singleM C call ops o e = some es → RunM C CF (fun _ => false) ops (o :: rest) s Q := fun hs => by
    unfold singleM at hs
    split at hs
    · rename_i e1 h1
      cases hs
      obtain ⟨s1, h2, h3, h4⟩ := opE_sound hc h h1
      exact .cons h2 (hk e1 (List.mem_singleton.2 rfl) s1 h3 h4)
    · cases hs
  unfold stepM at ho
  split at ho
  · rename_i hg
    rw [h.guard ops o] at hg
    split at ho
    · rename_i t x hop
      have hop := mKind_range hop
      split at ho
      · rename_i b hx
        rw [h.ev] at hx
        unfold rangeM at ho
        have hmt : mapTF (fpOf C) t = mapT C.P t := by rw [fpOf_eq]; rfl
        rw [hmt] at ho
        cases hm : (mapT C.P t).isSome with
        | false => rw [hm] at ho; cases ho
        | true =>
          rw [hm, cond_true] at ho
          split at ho
          · rename_i es0 clock hb
            rw [h.cs.get b] at hb
            split at ho
            · rename_i st ns hw
              split at ho
              · rename_i e1 hp
                cases ho
                have h1 := wrsE_sound _ h.cs hw
                have e2 : wrs s.sto [(e.ns, .miter (.mapr b) clock [] clock)] = s.sto ++ [.miter (.mapr b) clock [] clock] := by simp [wrs, wr1, h.cs.len]
                rw [e2] at h1
                have h2 := h.put h1 hp
                rw [h.cs.len] at h2
                exact .range hg hop hm hx hb (hk _ (List.mem_singleton.2 rfl) _ h2 (by simp))
              · cases ho
            · cases ho
          · cases ho
      · exact single ho
    · rename_i it hop
      have hop := mKind_next hop
      split at ho
      · rename_i b hx
        rw [h.ev] at hx
        unfold nextM at ho
        split at ho
        · rename_i m since seen last hb
          rw [h.cs.get b] at hb
          split at ho
          · rename_i es0 clock hm
            rw [h.cs.get m] at hm
            cases hck : ((es0.all fun p => Nat.blt p.2.2 since) && Nat.ble since last) with
            | false => rw [hck] at ho; cases ho
            | true =>
              rw [hck, cond_true] at ho
              simp only [Bool.and_eq_true, List.all_eq_true] at hck
              have hold : ∀ p, p ∈ es0 → p.2.2 < since := fun p hp => by have := hck.1 p hp; simpa using this
              have hsl := Nat.le_of_ble_eq_true hck.2
              have hblt : b < s.sto.length := (List.getElem?_eq_some_iff.1 hb).1
              have hleft : ∀ p, p ∈ leftM es0 seen ↔ p ∈ es0 ∧ p.2.2 ∉ seen := fun p => by
                unfold leftM
                rw [List.mem_filter]
                simp only [Bool.not_eq_true', ← hasN_iff, Bool.not_eq_true]
              cases hl : (leftM es0 seen).isEmpty with
              | true =>
                rw [hl, cond_true] at ho
                have hnil : leftM es0 seen = [] := List.isEmpty_iff.1 hl
                split at ho
                · rename_i e1 hp
                  cases ho
                  refine .next hg hop hx hb hm hold hsl (fun _ => hk _ (List.mem_singleton.2 rfl) _ (h.put h.cs hp) (Nat.le_refl _)) (fun p h1 h2 => ?_)
                  have := (hleft p).2 ⟨h1, h2⟩
                  rw [hnil] at this; cases this
                · cases ho
              | false =>
                rw [hl, cond_false] at ho
                refine .next hg hop hx hb hm hold hsl (fun hd => ?_) (fun p h1 h2 => ?_)
                · exfalso
                  cases hq : leftM es0 seen with
                  | nil => rw [hq] at hl; cases hl
                  | cons p ps =>
                    have := (hleft p).1 (by rw [hq]; simp)
                    exact this.2 (hd p this.1)
                · obtain ⟨l, h3, h4⟩ := bindM_mem ho p ((hleft p).2 ⟨h1, h2⟩)
                  split at h3
                  · rename_i st ns hw
                    split at h3
                    · rename_i e1 hp
                      cases h3
                      have h5 := wrsE_sound _ h.cs hw
                      have e2 : wrs s.sto [(b, .miter (.mapr m) since (seen ++ [p.2.2]) clock)] = s.sto.set b (.miter (.mapr m) since (seen ++ [p.2.2]) clock) := by simp [wrs, wr1, hblt]
                      rw [e2] at h5
                      exact hk e1 (h4 e1 (List.mem_singleton.2 rfl)) _ (h.put h5 hp) (by simp)
                    · cases h3
                  · cases h3
          · cases ho
        · cases ho
      · cases ho
    · rename_i it hop
      have hop := mKind_entry hop
      split at ho
      · rename_i b hx
        rw [h.ev] at hx
        unfold entryM at ho
        split at ho
        · rename_i m since seen last hb
          rw [h.cs.get b] at hb
          split at ho
          · rename_i es0 clock hm
            rw [h.cs.get m] at hm
            split at ho
            · rename_i n hn
              split at ho
              · rename_i p hp
                cases hck : (Nat.beq last clock && decide ((es0.map (·.2.2)).Nodup)) with
                | false => rw [hck] at ho; cases ho
                | true =>
                  rw [hck, cond_true] at ho
                  simp only [Bool.and_eq_true, decide_eq_true_eq] at hck
                  have e1 := Nat.eq_of_beq_eq_true hck.1
                  subst e1
                  have h9 := List.find?_some hp
                  have e2 : p.2.2 = n := Nat.eq_of_beq_eq_true h9
                  have e3 : seen = seen.dropLast ++ [p.2.2] := by rw [e2]; exact last_split hn
                  split at ho
                  · rename_i e1 hput
                    cases ho
                    rw [e3] at hb
                    exact .entry hg hop hx hb hm (List.mem_of_find?_eq_some hp) hck.2 (hk _ (List.mem_singleton.2 rfl) _ (h.put h.cs hput) (Nat.le_refl _))
                  · cases ho
              · cases ho
            · cases ho
          · cases ho
        · cases ho
      · cases ho
    · exact single ho
  · exact single ho

theorem opsM_sound (hc : CSound CF call) : ∀ (l : List Oper) {e : ES} {es : List ES} {s : St}, Cor e s → opsM C call ops l e = some es →
    RunM C CF (fun _ => false) ops l s (fun s1 => ∃ e1, e1 ∈ es ∧ Cor e1 s1 ∧ s.sto.length ≤ s1.sto.length) := by
  intro l
  induction l with
  | nil => intro e es s h ho; cases ho; exact .nil ⟨e, List.mem_singleton.2 rfl, h, Nat.le_refl _⟩
  | cons o l ih =>
    intro e es s h ho
    unfold opsM at ho
    split at ho
    · rename_i es1 h1
      refine stepM_sound hc h h1 fun e1 he1 s1 hs1 hle => ?_
      obtain ⟨m, h2, h3⟩ := bindM_mem ho e1 he1
      exact (ih hs1 h2).conseq fun s2 ⟨e2, q1, q2, q3⟩ => ⟨e2, h3 e2 q1, q2, Nat.le_trans hle q3⟩
    · cases ho
end

theorem lowBE_wb {L : Nat} {B : Blk} (h : lowBE L (some B) = true) : WB L B B := by
  have wlr : ∀ {xs : List AVal}, lowRL L xs = true → WL L xs xs := by
    intro xs
    induction xs with
    | nil => intro _; exact .nil
    | cons x xs ih => intro h; simp only [lowRL, Bool.and_eq_true] at h; exact .cons (.refl h.1) (ih h.2)
  cases B with
  | cells t cs => exact .cells (wlr h)
  | buf t sz rows cap => exact .buf
  | nbuf t sz => exact .nbuf
  | iter s pos => exact .iter
  | arr t sz rows => exact .arr (fun r hr => List.all_eq_true.1 h r hr)
  | map es clock => exact .map (fun p hp => by have := List.all_eq_true.1 h p hp; simpa using this)
  | gone => exact .gone _
  | miter mv s se l => cases h

theorem ws_mask {L : Nat} {K : List Nat} : ∀ (sto : List Blk) (k : Nat), (∀ (b : Nat) B, sto[b]? = some B → K.contains (k + b) = true → WB L B B) → WS L sto (maskFrom K k sto) := by
  intro sto
  induction sto with
  | nil => intro k _; exact .nil _
  | cons B bs ih =>
    intro k h
    simp only [maskFrom]
    refine .cons ?_ (ih (k + 1) fun b B' hb hc => h (b + 1) B' (by simpa using hb) (by rw [Nat.add_assoc, Nat.add_comm 1 b] at hc; exact hc))
    by_cases hc : K.contains k = true
    · rw [if_pos hc]; exact h 0 B rfl (by simpa using hc)
    · rw [if_neg hc]; exact .gone _

theorem gcE_sound {args : List AVal} {rs : List ResultVar} {e e2 : ES} {s : St} (h : Cor e s) (hg : gcE args rs e = some e2) (m0 : Nat) (hm : m0 ≤ s.sto.length) : ∃ s2, Weak m0 s s2 ∧ Cor e2 s2 ∧ s2.sto.length = s.sto.length := by
  unfold gcE at hg
  obtain ⟨K, hK⟩ := closE_eq (rdS e.st e.ns) 4000 (refsVL args ++ refsVL ((resRoots rs).map e.tv)) [] (fun K =>
    cond ((K.all fun b => liveE (rdS e.st e.ns b)) && ((K.all fun b => Nat.blt b e.ns && lowBE e.ns (rdS e.st e.ns b)) && ((List.range e.nt).all fun t => lowR e.ns (e.tv t))))
      (some (⟨e.tm, e.nt, subT (rdS e.st e.ns) K .e, e.ns⟩ : ES)) none)
  rw [hK] at hg
  cases hck : ((K.all fun b => liveE (rdS e.st e.ns b)) && ((K.all fun b => Nat.blt b e.ns && lowBE e.ns (rdS e.st e.ns b)) && ((List.range e.nt).all fun t => lowR e.ns (e.tv t)))) with
  | false => rw [hck] at hg; cases hg
  | true =>
    rw [hck, cond_true] at hg
    cases hg
    simp only [Bool.and_eq_true] at hck
    obtain ⟨c1, c2, c3⟩ := hck
    have hlive := liveE_B h.cs c1
    have hlt : ∀ b, b ∈ K → b < s.sto.length := fun b hb => live_lt (liveB_iff (hlive b hb))
    have hlen := h.cs.len
    refine ⟨⟨s.tmps, mask s.sto K⟩, ⟨by rw [mask_length]; exact hm, ?_, ?_⟩, ⟨h.nt, h.tm, subT_mask h.cs hlt⟩, mask_length _ _⟩
    · rw [mask_length]
      have : ∀ (xs : List AVal), (∀ x, x ∈ xs → lowR s.sto.length x = true) → WL s.sto.length xs xs := by
        intro xs
        induction xs with
        | nil => intro _; exact .nil
        | cons x xs ih => intro hx; exact .cons (.refl (hx x (by simp))) (ih fun y hy => hx y (by simp [hy]))
      refine this _ fun x hx => ?_
      obtain ⟨i, hi⟩ := List.mem_iff_getElem?.1 hx
      have hil := (List.getElem?_eq_some_iff.1 hi).1
      have h1 := List.all_eq_true.1 c3 i (by rw [List.mem_range, h.nt]; exact hil)
      rw [h.tm i, List.getD_eq_getElem?_getD, hi, hlen] at h1
      exact h1
    · rw [mask_length]
      refine ws_mask s.sto 0 fun b B hb hc => ?_
      rw [Nat.zero_add] at hc
      have h1 := List.all_eq_true.1 c2 b (by simpa using hc)
      simp only [Bool.and_eq_true] at h1
      have h1 := h1.2
      rw [h.cs.get b, hb, hlen] at h1
      exact lowBE_wb h1

/-- The store that is left behind a collection. -/
theorem gcE_cor {args : List AVal} {rs : List ResultVar} {e e2 : ES} (hg : gcE args rs e = some e2) : CorS e2.st e2.ns ((List.range e2.ns).map fun b => (rdS e2.st e2.ns b).getD .gone) := by
  unfold gcE at hg
  obtain ⟨K, hK⟩ := closE_eq (rdS e.st e.ns) 4000 (refsVL args ++ refsVL ((resRoots rs).map e.tv)) [] (fun K =>
    cond ((K.all fun b => liveE (rdS e.st e.ns b)) && ((K.all fun b => Nat.blt b e.ns && lowBE e.ns (rdS e.st e.ns b)) && ((List.range e.nt).all fun t => lowR e.ns (e.tv t))))
      (some (⟨e.tm, e.nt, subT (rdS e.st e.ns) K .e, e.ns⟩ : ES)) none)
  rw [hK] at hg
  cases hck : ((K.all fun b => liveE (rdS e.st e.ns b)) && ((K.all fun b => Nat.blt b e.ns && lowBE e.ns (rdS e.st e.ns b)) && ((List.range e.nt).all fun t => lowR e.ns (e.tv t)))) with
  | false => rw [hck] at hg; cases hg
  | true =>
    rw [hck, cond_true] at hg
    cases hg
    simp only [Bool.and_eq_true] at hck
    refine ⟨by simp, fun b => ?_⟩
    simp only [List.getElem?_map]
    by_cases hb : b < e.ns
    · rw [List.getElem?_range hb, Option.map_some]
      cases hq : (subT (rdS e.st e.ns) K .e).get b with
      | some B => rw [rdS_some hq]; rfl
      | none => rw [rdS_none hq, if_pos hb]; rfl
    · rw [List.getElem?_eq_none (by simp; omega)]
      have hn : (subT (rdS e.st e.ns) K .e).get b = none := by
        rw [subT_get, if_neg]
        · rfl
        · rintro ⟨h1, _⟩
          have h2 := List.all_eq_true.1 hck.2.1 b h1
          simp only [Bool.and_eq_true] at h2
          have h3 : b < e.ns := by simpa using h2.1
          exact hb h3
      rw [rdS_none hn, if_neg hb]; rfl
theorem finM_cor {P : FP} {args : List AVal} {fn : Func} {eo : EOut} {r : AVal} {st : Tr Blk} {ns : Nat} (hf : finM P args fn eo = some (r, st, ns)) : CorS st ns ((List.range ns).map fun b => (rdS st ns b).getD .gone) := by
  cases eo <;> simp only [finM] at hf
  case norm e =>
    split at hf
    · rename_i e2 hg
      split at hf
      · cases hf; exact gcE_cor hg
      · cases hf
    · cases hf
  case ret e =>
    split at hf
    · rename_i e2 hg
      split at hf
      · cases hf; exact gcE_cor hg
      · cases hf
    · cases hf
  case exit => cases hf

theorem finM_sound {C : Ctx} {args : List AVal} {fn : Func} {eo : EOut} {o : Out} {r : AVal} {st : Tr Blk} {ns : Nat} (sto : List Blk) (h : CorO eo o) (hle : sto.length ≤ o.st.sto.length) (hf : finM (fpOf C) args fn eo = some (r, st, ns)) :
    ∃ sto', CorS st ns sto' ∧ EndOK C fn sto r sto' o ∧ sto.length ≤ sto'.length := by
  cases h with
  | norm hs =>
    simp only [finM] at hf
    split at hf
    · rename_i e2 hg
      split at hf
      · rename_i r' hr
        cases hf
        obtain ⟨s2, h1, h2, h3⟩ := gcE_sound hs hg sto.length hle
        rw [resAE_sound h2] at hr
        exact ⟨_, h2.cs, ⟨_, s2, r, .inl rfl, .inr h1, hr, .inl ⟨rfl, rfl⟩⟩, h1.low⟩
      · cases hf
    · cases hf
  | ret hs =>
    simp only [finM] at hf
    split at hf
    · rename_i e2 hg
      split at hf
      · rename_i r' hr
        cases hf
        obtain ⟨s2, h1, h2, h3⟩ := gcE_sound hs hg sto.length hle
        rw [resAE_sound h2] at hr
        exact ⟨_, h2.cs, ⟨_, s2, r, .inr rfl, .inr h1, hr, .inl ⟨rfl, rfl⟩⟩, h1.low⟩
      · cases hf
    · cases hf
  | exit hs => simp [finM] at hf

theorem CorS.uniq {st : Tr Blk} {ns : Nat} {sto sto' : List Blk} (h : CorS st ns sto) (h' : CorS st ns sto') : sto = sto' :=
  List.ext_getElem? fun b => by rw [← h.get b, ← h'.get b]

theorem callM_sound' {C : Ctx} (hN : NamesOK C.P) {CF : CallRel} {rm : Code → ES → Option (List EOut)}
    (hrm : ∀ c e os s m0, rm c e = some os → Cor e s → ExecM C CF (fun _ => false) m0 c s (fun o => ∃ eo, eo ∈ os ∧ CorO eo o ∧ s.sto.length ≤ o.st.sto.length)) : CSound (CallM C CF) (callM C rm) := by
  intro g args st ns r st' ns' sto h hc
  unfold callM at hc
  split at hc
  · rename_i fn hfn
    rw [C.hJ] at hfn
    split at hc
    · rename_i c hb
      have hname := hN g fn hfn (by rw [hb]; rfl)
      split at hc
      · rename_i e he
        have hcor := entryE_sound h he
        split at hc
        · rename_i os hos
          have hx := hrm _ _ _ _ sto.length hos hcor
          cases os with
          | nil => simp [joinM] at hc
          | cons o0 rest =>
            split at hc
            · rename_i r0 st0 ns0 hj
              cases hle : Nat.ble ns ns0 with
              | false => rw [hle] at hc; cases hc
              | true =>
                rw [hle] at hc; cases hc
                simp only [joinM] at hj
                split at hj
                · rename_i r1 st1 ns1 hf0
                  cases hall : (rest.all fun o' => (match finM (fpOf C) args fn o' with | some (r', st', ns') => eqV r1 r' && (Nat.beq ns1 ns' && eqT st1 st') | none => false)) with
                  | false => rw [hall] at hj; cases hj
                  | true =>
                    rw [hall] at hj; cases hj
                    have hfin : ∀ eo, eo ∈ o0 :: rest → finM (fpOf C) args fn eo = some (r, st', ns') := fun eo heo => by
                      rcases List.mem_cons.1 heo with rfl | heo
                      · exact hf0
                      · have := List.all_eq_true.1 hall eo heo
                        split at this
                        · rename_i r' st1 ns1 hf1
                          simp only [Bool.and_eq_true] at this
                          rw [hf1, eqV_eq _ _ this.1, Nat.eq_of_beq_eq_true this.2.1, eqT_eq _ _ this.2.2]
                        · cases this
                    have hcs := finM_cor hf0
                    refine ⟨_, ⟨fn, c, fun _ => false, hfn, hb, hname, ?_⟩, hcs, by have := Nat.le_of_ble_eq_true hle; rw [← h.len, ← hcs.len]; exact this⟩
                    exact hx.conseq fun o ⟨eo, h1, h2, h3⟩ => by
                      obtain ⟨sto2, g1, g2, g3⟩ := finM_sound sto h2 (by simpa [entry] using h3) (hfin eo h1)
                      rw [g1.uniq hcs] at g2; exact g2
                · cases hj
            · cases hc
        · cases hc
      · cases hc
    · cases hc
  · cases hc

theorem callS_sound {C : Ctx} (hN : NamesOK C.P) {rc : Code → ES → Option EOut} {n : Nat} (hrc : ∀ c e o s m0, rc c e = some o → Cor e s → ∃ o', Exec C (CallN C n) (fun _ => false) m0 c s o' ∧ CorO o o' ∧ s.sto.length ≤ o'.st.sto.length) : CSound (CallN C (n + 1)) (callS C rc) := by
  intro g args st ns r st' ns' sto h hc
  unfold callS at hc
  split at hc
  · rename_i fn hfn
    rw [C.hJ] at hfn
    split at hc
    · rename_i c hb
      have hname := hN g fn hfn (by rw [hb]; rfl)
      split at hc
      · rename_i e he
        have hcor := entryE_sound h he
        split at hc
        · rename_i e1 hr1
          split at hc
          · rename_i r' hr2
            cases hc
            obtain ⟨o', h1, h2, h3⟩ := hrc _ _ _ _ sto.length hr1 hcor
            cases h2 with
            | @norm _ s hs =>
              rw [resAE_sound hs] at hr2
              exact ⟨s.sto, .inr <| .inl ⟨fn, c, fun _ => false, .norm s, s, s, r, hfn, hb, hname, h1, .inl rfl, .inl rfl, hr2, .inl ⟨rfl, rfl⟩⟩, hs.cs, h3⟩
          · cases hc
        · rename_i e1 hr1
          split at hc
          · rename_i r' hr2
            cases hc
            obtain ⟨o', h1, h2, h3⟩ := hrc _ _ _ _ sto.length hr1 hcor
            cases h2 with
            | @ret _ s hs =>
              rw [resAE_sound hs] at hr2
              exact ⟨s.sto, .inr <| .inl ⟨fn, c, fun _ => false, .ret s, s, s, r, hfn, hb, hname, h1, .inr rfl, .inl rfl, hr2, .inl ⟨rfl, rfl⟩⟩, hs.cs, h3⟩
          · cases hc
        · cases hc
      · cases hc
    · cases hc
  · cases hc

theorem ExecM.of_ev {C : Ctx} {CF : CallRel} {m0 : Nat} {c : Code} {s : St} {o : Out} {eo : EOut} {os : List EOut} (h : Exec C CF (fun _ => false) m0 c s o) (hc : CorO eo o) (hm : eo ∈ os) (hle : s.sto.length ≤ o.st.sto.length) :
    ExecM C CF (fun _ => false) m0 c s (fun o => ∃ eo, eo ∈ os ∧ CorO eo o ∧ s.sto.length ≤ o.st.sto.length) := .one h ⟨eo, hm, hc, hle⟩

/-- Each entry of a table is the call that it says. -/
def TabOK (C : Ctx) (n : Nat) (tab : List TE) : Prop := ∀ t, t ∈ tab → ∀ sto, CorS t.st t.ns sto → ∃ sto', CallM C (CallN C n) t.g t.args sto t.r sto' ∧ CorS t.st' t.ns' sto' ∧ sto.length ≤ sto'.length
theorem CallM.le {C : Ctx} {n m : Nat} (h : n ≤ m) {f : FuncId} {args : List AVal} {sto sto' : List Blk} {r : AVal} (hc : CallM C (CallN C n) f args sto r sto') : CallM C (CallN C m) f args sto r sto' := by
  obtain ⟨fn, c, own, h1, h2, h3, h4⟩ := hc
  exact ⟨fn, c, own, h1, h2, h3, h4.mono (callN_le h)⟩
theorem TabOK.le {C : Ctx} {n m : Nat} (h : n ≤ m) {tab : List TE} (ht : TabOK C n tab) : TabOK C m tab := fun t h1 sto h2 => by
  obtain ⟨sto', h3, h4, h5⟩ := ht t h1 sto h2
  exact ⟨sto', h3.le h, h4, h5⟩
theorem TE.is_eq {t : TE} {g : FuncId} {args : List AVal} {st : Tr Blk} {ns : Nat} (h : t.is g args st ns = true) : t.g = g ∧ t.args = args ∧ t.st = st ∧ t.ns = ns := by
  unfold TE.is at h
  cases h1 : Nat.beq t.g g with
  | false => rw [h1] at h; cases h
  | true =>
    rw [h1, cond_true] at h
    cases h2 : Nat.beq t.ns ns with
    | false => rw [h2] at h; cases h
    | true =>
      rw [h2, cond_true] at h
      cases h3 : eqVL t.args args with
      | false => rw [h3] at h; cases h
      | true =>
        rw [h3, cond_true] at h
        exact ⟨Nat.eq_of_beq_eq_true h1, eqVL_eq _ _ h3, eqT_eq _ _ h, Nat.eq_of_beq_eq_true h2⟩
theorem callT_sound {C : Ctx} {n : Nat} {call : CallE} (hc : CSound (CallM C (CallN C n)) call) : ∀ {tab : List TE}, TabOK C n tab → CSound (CallM C (CallN C n)) (callT call tab) := by
  intro tab
  induction tab with
  | nil => intro _; exact hc
  | cons t tab ih =>
    intro ht g args st ns r st' ns' sto h hcall
    simp only [callT] at hcall
    cases hi : t.is g args st ns with
    | true =>
      rw [hi, cond_true] at hcall
      cases hcall
      obtain ⟨rfl, rfl, rfl, rfl⟩ := TE.is_eq hi
      exact ht t List.mem_cons_self sto h
    | false =>
      rw [hi, cond_false] at hcall
      exact ih (fun t ht' => ht t (List.mem_cons_of_mem _ ht')) g args st ns r st' ns' sto h hcall
theorem callE_sound {C : Ctx} (hN : NamesOK C.P) {Ms : List Nat} {tab : List TE} {rc : Code → ES → Option EOut} {rm : Code → ES → Option (List EOut)} {n : Nat}
    (hrc : ∀ c e o s m0, rc c e = some o → Cor e s → ∃ o', Exec C (CallN C n) (fun _ => false) m0 c s o' ∧ CorO o o' ∧ s.sto.length ≤ o'.st.sto.length)
    (hrm : ∀ c e os s m0, rm c e = some os → Cor e s → ExecM C (CallN C n) (fun _ => false) m0 c s (fun o => ∃ eo, eo ∈ os ∧ CorO eo o ∧ s.sto.length ≤ o.st.sto.length)) (ht : TabOK C n tab) : CSound (CallN C (n + 1)) (callE C Ms tab rc rm) := by
  intro g args st ns r st' ns' sto h hc
  unfold callE at hc
  cases hm : hasN Ms g with
  | false => rw [hm, cond_false] at hc; exact callS_sound hN hrc g args st ns r st' ns' sto h hc
  | true =>
    rw [hm, cond_true] at hc
    split at hc
    · rename_i rds r1 st1 ns1 hl
      cases hc
      obtain ⟨sto1, h1, h2, h3, h4, h5, h6⟩ := lentC_sound (callT_sound (callM_sound' hN hrm) ht) h hl
      exact ⟨merge sto rds sto1, .inr (.inr (.inr ⟨rds, sto1, h1, h2, h3, h4, h5, rfl⟩)), h6, by rw [merge_length h3]; exact h3⟩
    · cases hc

theorem evP_sound {C : Ctx} (hN : NamesOK C.P) (Ms : List Nat) {tab : List TE} {k : Nat} (ht : TabOK C k tab) : ∀ (n : Nat),
    (∀ (c : Code) (e : ES) (o : EOut) (s : St) (m0 : Nat), (evP C Ms tab n).c c e = some o → Cor e s → ∃ o', Exec C (CallN C (k + n)) (fun _ => false) m0 c s o' ∧ CorO o o' ∧ s.sto.length ≤ o'.st.sto.length) ∧
    (∀ (c : Code) (e : ES) (os : List EOut) (s : St) (m0 : Nat), (evP C Ms tab n).m c e = some os → Cor e s → ExecM C (CallN C (k + n)) (fun _ => false) m0 c s (fun o => ∃ eo, eo ∈ os ∧ CorO eo o ∧ s.sto.length ≤ o.st.sto.length)) := by
  intro n
  induction n with
  | zero => exact ⟨fun c e o s m0 h => (by cases h), fun c e o s m0 h => (by cases h)⟩
  | succ n ih =>
    have hcall := callE_sound (Ms := Ms) hN ih.1 ih.2 (ht.le (Nat.le_add_right k n))
    have one : ∀ (c : Code) (e : ES) (o : EOut) (s : St) (m0 : Nat), evStep C (callE C Ms tab (evP C Ms tab n).c (evP C Ms tab n).m) (evP C Ms tab n).c c e = some o → Cor e s → ∃ o', Exec C (CallN C (k + n + 1)) (fun _ => false) m0 c s o' ∧ CorO o o' ∧ s.sto.length ≤ o'.st.sto.length := by
      intro c e o s m0 h hcor
      have up : ∀ {c : Code} {s : St} {o : Out}, Exec C (CallN C (k + n)) (fun _ => false) m0 c s o → Exec C (CallN C (k + n + 1)) (fun _ => false) m0 c s o := fun h => h.mono (callN_le (Nat.le_succ (k + n)))
      cases c <;> simp only [evStep, evSeq, evCond, evBlock, evLoop] at h
      case skip => cases h; exact ⟨_, .skip s, .norm hcor, Nat.le_refl _⟩
      case label l => cases h; exact ⟨_, .label l s, .norm hcor, Nat.le_refl _⟩
      case exit id => cases h; exact ⟨_, .exit id s, .exit hcor, Nat.le_refl _⟩
      case ret => cases h; exact ⟨_, .ret s, .ret hcor, Nat.le_refl _⟩
      case region id ops b =>
        cases b with
        | false =>
          simp only [evReg] at h
          split at h
          · rename_i e1 h1
            cases h
            obtain ⟨s1, h2, h3, h4⟩ := opsE_sound hcall _ hcor h1
            exact ⟨_, .region h2, .norm h3, h4⟩
          · cases h
        | true =>
          simp only [evDraw] at h
          split at h
          · rename_i il e1 h1
            cases hok : openOK ops il with
            | false => rw [hok] at h; cases h
            | true =>
              rw [hok] at h; cases h
              obtain ⟨s1, h2, h3, h4, h5⟩ := opsDE_sound hcall ops.toList 0 (by simp) (hcor.reserve ops) h1
              rw [hcor.cs.len] at h2
              refine ⟨_, .regionD h2 ?_ hok, .norm h3, ?_⟩
              · rw [h5, List.range_eq_range', Array.length_toList]
              · have : s.sto.length ≤ (reserve ops s).sto.length := by simp [reserve]
                exact Nat.le_trans this h4
          · cases h
      case seq a b =>
        split at h
        · rename_i e1 h1
          obtain ⟨o1, h2, h3, h4⟩ := ih.1 _ _ _ _ m0 h1 hcor
          cases h3 with
          | norm hs =>
            obtain ⟨o2, h5, h6, h7⟩ := ih.1 _ _ _ _ m0 h hs
            exact ⟨o2, .seqN (up h2) (up h5), h6, Nat.le_trans h4 h7⟩
        · rename_i hne
          obtain ⟨o1, h2, h3, h4⟩ := ih.1 _ _ _ _ m0 h hcor
          cases h3 with
          | norm hs => exact (hne _ h).elim
          | exit hs => exact ⟨_, .seqX (up h2), .exit hs, h4⟩
          | ret hs => exact ⟨_, .seqR (up h2), .ret hs, h4⟩
      case cond x a b =>
        split at h
        · rename_i t ht
          rw [hcor.ev] at ht
          obtain ⟨o1, h2, h3, h4⟩ := ih.1 _ _ _ _ m0 h hcor
          refine ⟨o1, .cond (t := t) ht ?_, h3, h4⟩
          cases t <;> exact up h2
        · cases h
      case block id b =>
        split at h
        · rename_i id' e1 h1
          obtain ⟨o1, h2, h3, h4⟩ := ih.1 _ _ _ _ m0 h1 hcor
          cases h3 with
          | exit hs =>
            cases hid : Nat.beq id' id with
            | true =>
              rw [hid] at h; cases h
              have := Nat.eq_of_beq_eq_true hid
              subst this
              exact ⟨_, .blockX (up h2), .norm hs, h4⟩
            | false =>
              rw [hid] at h; cases h
              exact ⟨_, .blockY (Nat.ne_of_beq_eq_false hid) (up h2), .exit hs, h4⟩
        · rename_i hne
          obtain ⟨o1, h2, h3, h4⟩ := ih.1 _ _ _ _ m0 h hcor
          cases h3 with
          | norm hs => exact ⟨_, .blockN (up h2), .norm hs, h4⟩
          | exit hs => exact (hne _ _ h).elim
          | ret hs => exact ⟨_, .blockR (up h2), .ret hs, h4⟩
      case loop b =>
        split at h
        · rename_i e1 h1
          obtain ⟨o1, h2, h3, h4⟩ := ih.1 _ _ _ _ m0 h1 hcor
          cases h3 with
          | norm hs =>
            obtain ⟨o2, h5, h6, h7⟩ := ih.1 _ _ _ _ m0 h hs
            exact ⟨o2, .loopN (up h2) (up h5), h6, Nat.le_trans h4 h7⟩
        · rename_i hne
          obtain ⟨o1, h2, h3, h4⟩ := ih.1 _ _ _ _ m0 h hcor
          cases h3 with
          | norm hs => exact (hne _ h).elim
          | exit hs => exact ⟨_, .loopX (up h2), .exit hs, h4⟩
          | ret hs => exact ⟨_, .loopR (up h2), .ret hs, h4⟩
      case scope c =>
        obtain ⟨o1, h2, h3, h4⟩ := ih.1 _ _ _ _ m0 h hcor
        exact ⟨o1, .scope (up h2), h3, h4⟩
      all_goals cases h
    refine ⟨one, fun c e os s m0 h0 hcor => ?_⟩
    have h : evMStep C (callE C Ms tab (evP C Ms tab n).c (evP C Ms tab n).m) (evP C Ms tab n).c (evP C Ms tab n).m c e = some os := h0
    clear h0
    have up : ∀ {c : Code} {s : St} {Q : Out → Prop}, ExecM C (CallN C (k + n)) (fun _ => false) m0 c s Q → ExecM C (CallN C (k + n + 1)) (fun _ => false) m0 c s Q := fun h => h.mono (callN_le (Nat.le_succ (k + n)))
    have single : (match evStep C (callE C Ms tab (evP C Ms tab n).c (evP C Ms tab n).m) (evP C Ms tab n).c c e with | some o => some [o] | none => none) = some os →
        ExecM C (CallN C (k + n + 1)) (fun _ => false) m0 c s (fun o => ∃ eo, eo ∈ os ∧ CorO eo o ∧ s.sto.length ≤ o.st.sto.length) := fun h => by
      split at h
      · rename_i o1 h1
        cases h
        obtain ⟨o2, h2, h3, h4⟩ := one c e o1 s m0 h1 hcor
        exact .of_ev h2 h3 (List.mem_singleton.2 rfl) h4
      · cases h
    unfold evMStep at h
    split at h
    · rename_i id ops
      unfold evMReg at h
      split at h
      · rename_i es hes
        cases h
        exact .region ((opsM_sound hcall ops.toList hcor hes).conseq fun s1 ⟨e1, h1, h2, h3⟩ => ⟨.norm e1, List.mem_map_of_mem h1, .norm h2, h3⟩)
      · cases h
    · rename_i a b
      unfold evMSeq at h
      split at h
      · rename_i os1 h1
        refine .seq (up (ih.2 _ _ _ _ m0 h1 hcor)) (fun s1 ⟨eo, h2, h3, h4⟩ => ?_) (fun id s1 ⟨eo, h2, h3, h4⟩ => ?_) (fun s1 ⟨eo, h2, h3, h4⟩ => ?_)
        · cases h3 with
          | norm hs =>
            obtain ⟨l, h5, h6⟩ := bindM_mem h _ h2
            exact (up (ih.2 _ _ _ _ m0 h5 hs)).conseq fun o ⟨eo, q1, q2, q3⟩ => ⟨eo, h6 eo q1, q2, Nat.le_trans h4 q3⟩
        · cases h3 with
          | exit hs =>
            obtain ⟨l, h5, h6⟩ := bindM_mem h _ h2
            cases h5
            exact ⟨_, h6 _ (List.mem_singleton.2 rfl), .exit hs, h4⟩
        · cases h3 with
          | ret hs =>
            obtain ⟨l, h5, h6⟩ := bindM_mem h _ h2
            cases h5
            exact ⟨_, h6 _ (List.mem_singleton.2 rfl), .ret hs, h4⟩
      · cases h
    · rename_i x a b
      unfold evMCond at h
      split at h
      · rename_i t ht
        rw [hcor.ev] at ht
        refine .cond (t := t) ht ?_
        have := up (ih.2 _ _ _ _ m0 h hcor)
        cases t <;> exact this
      · cases h
    · rename_i id b
      unfold evMBlock at h
      split at h
      · rename_i os1 h1
        cases h
        refine .block (up (ih.2 _ _ _ _ m0 h1 hcor)) fun o ⟨eo, h2, h3, h4⟩ => ?_
        cases h3 with
        | norm hs => exact ⟨_, List.mem_map_of_mem h2, .norm hs, h4⟩
        | ret hs => exact ⟨_, List.mem_map_of_mem h2, .ret hs, h4⟩
        | @exit id' e1 s1 hs =>
          refine ⟨_, List.mem_map_of_mem h2, ?_⟩
          simp only [Out.blk]
          cases hid : Nat.beq id' id with
          | true =>
            have := Nat.eq_of_beq_eq_true hid
            rw [if_pos this]
            exact ⟨.norm hs, h4⟩
          | false =>
            have := Nat.ne_of_beq_eq_false hid
            rw [if_neg this]
            exact ⟨.exit hs, h4⟩
      · cases h
    · rename_i b
      unfold evMLoop at h
      split at h
      · rename_i os1 h1
        refine .loop (up (ih.2 _ _ _ _ m0 h1 hcor)) (fun s1 ⟨eo, h2, h3, h4⟩ => ?_) (fun id s1 ⟨eo, h2, h3, h4⟩ => ?_) (fun s1 ⟨eo, h2, h3, h4⟩ => ?_)
        · cases h3 with
          | norm hs =>
            obtain ⟨l, h5, h6⟩ := bindM_mem h _ h2
            exact (up (ih.2 _ _ _ _ m0 h5 hs)).conseq fun o ⟨eo, q1, q2, q3⟩ => ⟨eo, h6 eo q1, q2, Nat.le_trans h4 q3⟩
        · cases h3 with
          | exit hs =>
            obtain ⟨l, h5, h6⟩ := bindM_mem h _ h2
            cases h5
            exact ⟨_, h6 _ (List.mem_singleton.2 rfl), .exit hs, h4⟩
        · cases h3 with
          | ret hs =>
            obtain ⟨l, h5, h6⟩ := bindM_mem h _ h2
            cases h5
            exact ⟨_, h6 _ (List.mem_singleton.2 rfl), .ret hs, h4⟩
      · cases h
    · rename_i c
      exact .scope (up (ih.2 _ _ _ _ m0 h hcor))
    · exact single h

/-- A closed call, run: whatever the order of what it steps over. -/
noncomputable def isB (P : FP) (fn : Func) (b : Bool) (o : EOut) : Bool :=
  match o with
  | .norm e => (match resAE P e fn.results.toList with | some (.bool b') => b == b' | _ => false)
  | .ret e => (match resAE P e fn.results.toList with | some (.bool b') => b == b' | _ => false)
  | _ => false
noncomputable def runE (C : Ctx) (Ms : List Nat) (tab : List TE) (n : Nat) (g : FuncId) (args : List AVal) (b : Bool) : Bool :=
  match C.J g with
  | some fn => (match fn.body with
    | some c => (match entryE fn.ntmps args .e 0 with
      | some e => cond (hasN Ms g) (match (evP C Ms tab n).m c e with | some os => os.all (isB (fpOf C) fn b) | none => false) (match (evP C Ms tab n).c c e with | some o => isB (fpOf C) fn b o | none => false)
      | none => false)
    | none => false)
  | none => false
theorem isB_sound {C : Ctx} {fn : Func} {b : Bool} {eo : EOut} {o : Out} (h : isB (fpOf C) fn b eo = true) (hc : CorO eo o) : EndOK C fn [] (.bool b) [] o := by
  cases hc with
  | @norm e s hs =>
    simp only [isB] at h
    split at h
    · rename_i b' hr
      rw [resAE_sound hs] at hr
      have : b = b' := by simpa using h
      subst this
      exact ⟨s, s, .bool b, .inl rfl, .inl rfl, hr, .inr ⟨rfl, rfl, rfl, .refl _, rfl⟩⟩
    · cases h
  | @ret e s hs =>
    simp only [isB] at h
    split at h
    · rename_i b' hr
      rw [resAE_sound hs] at hr
      have : b = b' := by simpa using h
      subst this
      exact ⟨s, s, .bool b, .inr rfl, .inl rfl, hr, .inr ⟨rfl, rfl, rfl, .refl _, rfl⟩⟩
    · cases h
  | exit hs => simp [isB] at h
theorem runE_sound {C : Ctx} (hN : NamesOK C.P) {Ms : List Nat} {tab : List TE} {k : Nat} (ht : TabOK C k tab) {n : Nat} {g : FuncId} {args : List AVal} {b : Bool} (h : runE C Ms tab n g args b = true) : CallF C g args [] (.bool b) [] := by
  unfold runE at h
  split at h
  · rename_i fn hfn
    rw [C.hJ] at hfn
    split at h
    · rename_i c hb
      have hname := hN g fn hfn (by rw [hb]; rfl)
      split at h
      · rename_i e he
        have hcs : CorS .e 0 ([] : List Blk) := ⟨rfl, fun b => by simp only [rdS, Tr.get_e]; rw [Bool.eq_false_iff.2 (show Nat.blt b 0 ≠ true by simp)]; rfl⟩
        have hcor := entryE_sound hcs he
        cases hm : hasN Ms g with
        | true =>
          rw [hm, cond_true] at h
          split at h
          · rename_i os hos
            have hx := (evP_sound hN Ms ht n).2 _ _ _ _ 0 hos hcor
            exact ⟨k + n + 1, .inr (.inr (.inl ⟨fn, c, fun _ => false, hfn, hb, hname, hx.conseq fun o ⟨eo, h1, h2, h3⟩ => isB_sound (List.all_eq_true.1 h eo h1) h2⟩))⟩
          · cases h
        | false =>
          rw [hm, cond_false] at h
          split at h
          · rename_i o ho
            obtain ⟨o', h1, h2, h3⟩ := (evP_sound hN Ms ht n).1 _ _ _ _ 0 ho hcor
            exact ⟨k + n + 1, .inr (.inr (.inl ⟨fn, c, fun _ => false, hfn, hb, hname, .one h1 (isB_sound h h2)⟩))⟩
          · cases h
      · cases h
    · cases h
  · cases h

/-- A new entry of a table, run. -/
noncomputable def chkE (C : Ctx) (Ms : List Nat) (tab : List TE) (n : Nat) (t : TE) : Bool :=
  match callM C (evP C Ms tab n).m t.g t.args t.st t.ns with
  | some (r, st, ns) => eqV t.r r && (Nat.beq t.ns' ns && eqT t.st' st)
  | none => false
theorem TabOK.nil {C : Ctx} : TabOK C 0 [] := fun t h => by cases h
theorem TabOK.cons {C : Ctx} (hN : NamesOK C.P) {Ms : List Nat} {tab : List TE} {k n : Nat} {t : TE} (ht : TabOK C k tab) (h : chkE C Ms tab n t = true) : TabOK C (k + n) (t :: tab) := by
  intro t' hm sto hs
  rcases List.mem_cons.1 hm with rfl | hm
  · unfold chkE at h
    split at h
    · rename_i r st ns hc
      simp only [Bool.and_eq_true] at h
      obtain ⟨sto', h1, h2, h3⟩ := callM_sound' hN (evP_sound hN Ms ht n).2 _ _ _ _ _ _ _ sto hs hc
      rw [← eqV_eq _ _ h.1] at h1
      rw [← Nat.eq_of_beq_eq_true h.2.1, ← eqT_eq _ _ h.2.2] at h2
      exact ⟨sto', h1, h2, h3⟩
    · cases h
  · exact (ht.le (Nat.le_add_right k n)) t' hm sto hs

end Go.Proofs.YtepnbdacekkapaaGreatDoor.Ai
