/- Closed runs: an evaluator of calls over abstract values that the kernel runs, and its soundness. Own work of this seat. -/
import Derived.Test.YtepnbdacekkapaaGreatDoorAiEvD
namespace Go.Proofs.YtepnbdacekkapaaGreatDoor.Ai
open Go
set_option linter.unusedVariables false
set_option linter.unusedSimpArgs false

/-! Tries. -/
inductive Tr (α : Type) where
  | e
  | n (l : Tr α) (v : Option α) (r : Tr α)

noncomputable def Tr.get {α : Type} (t : Tr α) : Nat → Option α :=
  Tr.rec (motive := fun _ => Nat → Option α) (fun _ => none) (fun _ v _ ihl ihr i => Nat.casesOn i v fun i => cond (Nat.beq (i % 2) 0) (ihl (i / 2)) (ihr (i / 2))) t
noncomputable def Tr.set {α : Type} (f : Nat) : Tr α → Nat → α → Tr α :=
  Nat.rec (motive := fun _ => Tr α → Nat → α → Tr α) (fun _ _ _ => .e) (fun _ ih t i v => Tr.casesOn t
      (Nat.casesOn i (.n .e (some v) .e) fun i => cond (Nat.beq (i % 2) 0) (.n (ih .e (i / 2) v) none .e) (.n .e none (ih .e (i / 2) v)))
      (fun l x r => Nat.casesOn i (.n l (some v) r) fun i => cond (Nat.beq (i % 2) 0) (.n (ih l (i / 2) v) x r) (.n l x (ih r (i / 2) v)))) f
noncomputable def Tr.put {α : Type} (t : Tr α) (i : Nat) (v : α) : Tr α := Tr.set (i + 1) t i v

theorem Tr.get_e {α : Type} (i : Nat) : (Tr.e : Tr α).get i = none := rfl
theorem Tr.get_z {α : Type} (l r : Tr α) (v : Option α) : (Tr.n l v r).get 0 = v := rfl
theorem Tr.get_s {α : Type} (l r : Tr α) (v : Option α) (i : Nat) : (Tr.n l v r).get (i + 1) = cond (Nat.beq (i % 2) 0) (l.get (i / 2)) (r.get (i / 2)) := rfl
theorem Tr.set_s {α : Type} (f : Nat) (t : Tr α) (i : Nat) (v : α) : Tr.set (f + 1) t i v = (match t, i with
    | .e, 0 => .n .e (some v) .e
    | .e, i + 1 => cond (Nat.beq (i % 2) 0) (.n (Tr.set f .e (i / 2) v) none .e) (.n .e none (Tr.set f .e (i / 2) v))
    | .n l x r, 0 => .n l (some v) r
    | .n l x r, i + 1 => cond (Nat.beq (i % 2) 0) (.n (Tr.set f l (i / 2) v) x r) (.n l x (Tr.set f r (i / 2) v))) := by
  cases t <;> cases i <;> rfl

theorem Tr.get_set {α : Type} : ∀ (f : Nat) (t : Tr α) (i : Nat) (v : α) (j : Nat), i < f → (Tr.set f t i v).get j = if j = i then some v else t.get j := by
  intro f
  induction f with
  | zero => intro t i v j h; omega
  | succ f ih =>
    intro t i v j h
    rw [Tr.set_s]
    have par : ∀ a b : Nat, (Nat.beq (a % 2) 0 = true) → (Nat.beq (b % 2) 0 = true) → (a / 2 = b / 2 ↔ a = b) := fun a b ha hb => by
      have ha := Nat.eq_of_beq_eq_true ha
      have hb := Nat.eq_of_beq_eq_true hb
      omega
    have par1 : ∀ a b : Nat, (Nat.beq (a % 2) 0 = false) → (Nat.beq (b % 2) 0 = false) → (a / 2 = b / 2 ↔ a = b) := fun a b ha hb => by
      have ha := Nat.ne_of_beq_eq_false ha
      have hb := Nat.ne_of_beq_eq_false hb
      omega
    cases t with
    | e =>
      cases i with
      | zero =>
        cases j with
        | zero => simp [Tr.get_z]
        | succ j => simp only [Tr.get_s, Tr.get_e]; simp
      | succ i =>
        simp only
        cases hi : Nat.beq (i % 2) 0 with
        | true =>
          cases j with
          | zero => simp [Tr.get_z, Tr.get_e]
          | succ j =>
            simp only [cond_true, Tr.get_s, Tr.get_e, Nat.add_right_cancel_iff]
            cases hj : Nat.beq (j % 2) 0 with
            | true =>
              rw [cond_true, ih _ _ _ _ (by omega)]
              simp only [par j i hj hi, Tr.get_e]
            | false =>
              rw [cond_false, if_neg]
              intro e; subst e; rw [hi] at hj; cases hj
        | false =>
          cases j with
          | zero => simp [Tr.get_z, Tr.get_e]
          | succ j =>
            simp only [cond_false, Tr.get_s, Tr.get_e, Nat.add_right_cancel_iff]
            cases hj : Nat.beq (j % 2) 0 with
            | false =>
              rw [cond_false, ih _ _ _ _ (by omega)]
              simp only [par1 j i hj hi, Tr.get_e]
            | true =>
              rw [cond_true, if_neg]
              intro e; subst e; rw [hi] at hj; cases hj
    | n l x r =>
      cases i with
      | zero =>
        cases j with
        | zero => simp [Tr.get_z]
        | succ j => simp only [Tr.get_s]; simp
      | succ i =>
        simp only
        cases hi : Nat.beq (i % 2) 0 with
        | true =>
          cases j with
          | zero => simp [Tr.get_z]
          | succ j =>
            simp only [cond_true, Tr.get_s, Nat.add_right_cancel_iff]
            cases hj : Nat.beq (j % 2) 0 with
            | true =>
              rw [cond_true, ih _ _ _ _ (by omega)]
              simp only [par j i hj hi, cond_true]
            | false =>
              rw [cond_false, cond_false, if_neg]
              intro e; subst e; rw [hi] at hj; cases hj
        | false =>
          cases j with
          | zero => simp [Tr.get_z]
          | succ j =>
            simp only [cond_false, Tr.get_s, Nat.add_right_cancel_iff]
            cases hj : Nat.beq (j % 2) 0 with
            | false =>
              rw [cond_false, ih _ _ _ _ (by omega)]
              simp only [par1 j i hj hi, cond_false]
            | true =>
              rw [cond_true, cond_true, if_neg]
              intro e; subst e; rw [hi] at hj; cases hj
theorem Tr.get_put {α : Type} (t : Tr α) (i : Nat) (v : α) (j : Nat) : (t.put i v).get j = if j = i then some v else t.get j := Tr.get_set _ _ _ _ _ (Nat.lt_succ_self _)

/-! Values that are worked out. -/
def forceI {β : Type} (i : Int) (K : Int → β) : β := match i with
  | .ofNat n => forceN n fun n => K (.ofNat n)
  | .negSucc n => forceN n fun n => K (.negSucc n)
def forceV0 {β : Type} (x : AVal) (K : AVal → β) : β := match x with
  | .int k n => forceI n fun n => K (.int k n)
  | x => K x
def forceL {β : Type} : List AVal → (List AVal → β) → β
  | [], K => K []
  | x :: xs, K => forceV0 x fun x => forceL xs fun xs => K (x :: xs)
def forceV {β : Type} (x : AVal) (K : AVal → β) : β := match x with
  | .int k n => forceI n fun n => K (.int k n)
  | .agg cs => forceL cs fun cs => K (.agg cs)
  | .tup vs => forceL vs fun vs => K (.tup vs)
  | x => K x
theorem forceN_eq {β : Type} (n : Nat) (K : Nat → β) : forceN n K = K n := by cases n <;> rfl
theorem forceI_eq {β : Type} (i : Int) (K : Int → β) : forceI i K = K i := by cases i <;> simp [forceI, forceN_eq]
theorem forceV0_eq {β : Type} (x : AVal) (K : AVal → β) : forceV0 x K = K x := by cases x <;> simp [forceV0, forceI_eq]
theorem forceL_eq {β : Type} : ∀ (xs : List AVal) (K : List AVal → β), forceL xs K = K xs := by
  intro xs
  induction xs with
  | nil => intro K; rfl
  | cons x xs ih => intro K; simp [forceL, forceV0_eq, ih]
theorem forceV_eq {β : Type} (x : AVal) (K : AVal → β) : forceV x K = K x := by cases x <;> simp [forceV, forceI_eq, forceL_eq]

/-! States. -/
structure ES where
  tm : Tr AVal
  nt : Nat
  st : Tr Blk
  ns : Nat
noncomputable def rdS (st : Tr Blk) (ns b : Nat) : Option Blk := match st.get b with
  | some B => some B
  | none => cond (Nat.blt b ns) (some .gone) none
noncomputable def ES.tv (e : ES) (t : Nat) : AVal := match e.tm.get t with
  | some v => v
  | none => cond (Nat.blt t e.nt) .undef .dead
noncomputable def ES.ev (C : Ctx) (e : ES) : Operand → AVal
  | .tmp t => e.tv t
  | .const v => ofVal v
  | .global g => C.glob g
  | .func f => .func f [] []
noncomputable def ES.put (e : ES) (dst : Option Tmp) (v : AVal) : Option ES := match dst with
  | none => some e
  | some d => cond (Nat.blt d e.nt) (some ⟨e.tm.put d v, e.nt, e.st, e.ns⟩) none
def forceB {β : Type} (B : Blk) (K : Blk → β) : β := match B with
  | .cells t cs => forceL cs fun cs => K (.cells t cs)
  | B => K B
theorem forceB_eq {β : Type} (B : Blk) (K : Blk → β) : forceB B K = K B := by cases B <;> simp [forceB, forceL_eq]
noncomputable def wrsE : List (Nat × Blk) → Tr Blk → Nat → Option (Tr Blk × Nat)
  | [], st, ns => some (st, ns)
  | (b, B) :: rest, st, ns => forceB B fun B => cond (Nat.blt b ns) (wrsE rest (st.put b B) ns) (cond (Nat.beq b ns) (forceN (ns + 1) fun n => wrsE rest (st.put b B) n) none)
noncomputable def guardE (ops : Array Oper) (e : ES) (o : Oper) : Guard :=
  match o.guard with
  | none => .run
  | some (j, want) =>
    match (ops[j]?).bind (·.dst) with
    | some d => (match e.tv d with
      | .bool b => if b = want then .run else .skip
      | .undef => .skip
      | _ => .lost)
    | none => .lost

structure CorS (st : Tr Blk) (ns : Nat) (sto : List Blk) : Prop where
  len : ns = sto.length
  get : ∀ b, rdS st ns b = sto[b]?
structure Cor (e : ES) (s : St) : Prop where
  nt : e.nt = s.tmps.length
  tm : ∀ t, e.tv t = s.tmps.getD t .dead
  cs : CorS e.st e.ns s.sto

theorem Cor.ev {C : Ctx} {e : ES} {s : St} (h : Cor e s) : e.ev C = s.eval C := by
  funext x; cases x <;> first | rfl | exact h.tm _
theorem CorS.rd {st : Tr Blk} {ns : Nat} {sto : List Blk} (h : CorS st ns sto) : rdS st ns = rd sto := by funext b; exact h.get b
theorem Cor.guard {e : ES} {s : St} (h : Cor e s) (ops : Array Oper) (o : Oper) : guardE ops e o = guardOf ops s.tmps o := by
  unfold guardE guardOf
  cases o.guard with
  | none => rfl
  | some p =>
    obtain ⟨j, want⟩ := p
    simp only
    cases (ops[j]?).bind (·.dst) with
    | none => rfl
    | some d => simp only; rw [h.tm d]; rfl
theorem Cor.put {e e' : ES} {s : St} {sto : List Blk} {st : Tr Blk} {ns : Nat} (h : Cor e s) (hc : CorS st ns sto) {dst : Option Tmp} {v : AVal} (hp : ES.put ⟨e.tm, e.nt, st, ns⟩ dst v = some e') : Cor e' ⟨Ai.put s.tmps dst v, sto⟩ := by
  unfold ES.put at hp
  cases dst with
  | none => cases hp; exact ⟨h.nt, h.tm, hc⟩
  | some d =>
    simp only at hp
    cases hd : Nat.blt d e.nt with
    | false => rw [hd] at hp; cases hp
    | true =>
      rw [hd] at hp; cases hp
      have hlt : d < s.tmps.length := by rw [← h.nt]; simpa using hd
      refine ⟨by simp [Ai.put, h.nt], fun t => ?_, hc⟩
      simp only [ES.tv, Ai.put, Tr.get_put]
      rw [List.getD_eq_getElem?_getD, List.getElem?_set]
      by_cases e1 : t = d
      · subst e1; simp [hlt]
      · rw [if_neg e1, if_neg (fun h => e1 h.symm)]
        have := h.tm t
        rw [List.getD_eq_getElem?_getD] at this
        rw [← this]; rfl
theorem wrsE_sound : ∀ (ws : List (Nat × Blk)) {st st' : Tr Blk} {ns ns' : Nat} {sto : List Blk}, CorS st ns sto → wrsE ws st ns = some (st', ns') → CorS st' ns' (wrs sto ws) := by
  intro ws
  induction ws with
  | nil => intro st st' ns ns' sto h hw; cases hw; exact h
  | cons p ws ih =>
    intro st st' ns ns' sto h hw
    obtain ⟨b, B⟩ := p
    simp only [wrsE, forceB_eq, forceN_eq] at hw
    have hlen := h.len
    have one : ∀ ns2, b ≤ ns → ns2 = max ns (b + 1) → CorS (st.put b B) ns2 (wr1 sto b B) := fun ns2 hb h2 => by
      have hb' : b ≤ sto.length := by omega
      refine ⟨by rw [wr1_length hb']; omega, fun x => ?_⟩
      rw [wr1_get hb']
      simp only [rdS, Tr.get_put]
      by_cases e : x = b
      · subst e; simp
      · rw [if_neg e, if_neg e, ← h.get x]
        simp only [rdS]
        cases st.get x with
        | some y => rfl
        | none =>
          simp only
          congr 1
          rw [Bool.eq_iff_iff]
          simp only [Nat.blt_eq]
          omega
    cases hb : Nat.blt b ns with
    | true =>
      rw [hb, cond_true] at hw
      have hlt : b < ns := by simpa using hb
      exact ih (one ns (by omega) (by omega)) hw
    | false =>
      rw [hb, cond_false] at hw
      cases he : Nat.beq b ns with
      | false => rw [he] at hw; cases hw
      | true =>
        rw [he, cond_true] at hw
        have heq := Nat.eq_of_beq_eq_true he
        exact ih (one (ns + 1) (by omega) (by omega)) hw

/-! Operations. -/
noncomputable def denB (C : Ctx) (ρ : Operand → AVal) (gt : Nat → Option Blk) (id : Nat) (op : Op) : Option (AVal × List (Nat × Blk)) :=
  match op with
  | .buildSlice t n ps => denxE C ρ gt id (.buildSlice t n ps)
  | .makeSlice t l c => denxE C ρ gt id (.makeSlice t l c)
  | .makeMap t r => denxE C ρ gt id (.makeMap t r)
  | .lookup t m k b => denxE C ρ gt id (.lookup t m k b)
  | .mapUpdate t m k v => denxE C ρ gt id (.mapUpdate t m k v)
  | .insert t m k v => denxE C ρ gt id (.insert t m k v)
  | .mapEntry t m k => denxE C ρ gt id (.mapEntry t m k)
  | .entryStore t m s v => denxE C ρ gt id (.entryStore t m s v)
  | .slice t x lo hi mx => (match denxE C ρ gt id (.slice t x lo hi mx) with | some r => some r | none => denE C ρ gt id false (.slice t x lo hi mx))
  | .indexAddr t x i => (match denxE C ρ gt id (.indexAddr t x i) with | some r => some r | none => denE C ρ gt id false (.indexAddr t x i))
  | .call c => (match denxE C ρ gt id (.call c) with | some r => some r | none => denE C ρ gt id false (.call c))
  | op => denE C ρ gt id false op
theorem denB_sound {C : Ctx} {ρ : Operand → AVal} {sto : List Blk} {id : Nat} {op : Op} {y : AVal × List (Nat × Blk)} (h : denB C ρ (rd sto) id op = some y) : den C ρ sto id false op = some y ∨ denx C ρ sto id op = some y := by
  cases op <;> simp only [denB] at h <;> first
    | exact .inr (by rw [← denxE_eq]; exact h)
    | exact .inl (denE_le h)
    | (split at h
       · rename_i r hr; cases h; exact .inr (by rw [← denxE_eq]; exact hr)
       · exact .inl (denE_le h))

noncomputable def callOf (ρ : Operand → AVal) (o : Oper) : Option (Option (FuncId × List AVal)) :=
  match o.op with
  | .call c => (match c.callee with
    | .value f => some (match ρ f with | .func g first caps => some (g, first ++ c.args.toList.map ρ ++ caps) | _ => none)
    | _ => none)
  | _ => none
theorem callOf_some {ρ : Operand → AVal} {o : Oper} {g : FuncId} {args : List AVal} (h : callOf ρ o = some (some (g, args))) :
    ∃ c f first caps, o.op = .call c ∧ c.callee = .value f ∧ ρ f = .func g first caps ∧ args = first ++ c.args.toList.map ρ ++ caps := by
  unfold callOf at h
  split at h
  · rename_i c ho
    split at h
    · rename_i f hc
      have h := Option.some.inj h
      split at h
      · rename_i g' first caps hf
        cases h
        exact ⟨c, f, first, caps, ho, hc, hf, rfl⟩
      · cases h
    · cases h
  · cases h

abbrev CallE := FuncId → List AVal → Tr Blk → Nat → Option (AVal × Tr Blk × Nat)
/-- What an evaluated call is. -/
def CSound (CF : CallRel) (call : CallE) : Prop := ∀ g args st ns r st' ns' sto, CorS st ns sto → call g args st ns = some (r, st', ns') → ∃ sto', CF g args sto r sto' ∧ CorS st' ns' sto' ∧ sto.length ≤ sto'.length

noncomputable def opE (C : Ctx) (call : CallE) (ops : Array Oper) (o : Oper) (e : ES) : Option ES :=
  match guardE ops e o with
  | .lost => none
  | .skip => ES.put ⟨e.tm, e.nt, e.st, e.ns⟩ o.dst .undef
  | .run => (match callOf (e.ev C) o with
    | some none => none
    | some (some (g, args)) => (match call g args e.st e.ns with
      | some (r, st, ns) => forceV r fun r => forceN ns fun ns => ES.put ⟨e.tm, e.nt, st, ns⟩ o.dst r
      | none => none)
    | none => (match denB C (e.ev C) (rdS e.st e.ns) e.ns o.op with
      | some (v, ws) => (match wrsE ws e.st e.ns with
        | some (st, ns) => forceV v fun v => ES.put ⟨e.tm, e.nt, st, ns⟩ o.dst v
        | none => none)
      | none => none))

section
variable {C : Ctx} {CF : CallRel} {call : CallE} {ops : Array Oper}
theorem opE_sound (hc : CSound CF call) {o : Oper} {e e' : ES} {s : St} (h : Cor e s) (ho : opE C call ops o e = some e') :
    ∃ s', OpStep C CF (fun _ => false) ops s.sto.length o s s' ∧ Cor e' s' ∧ s.sto.length ≤ s'.sto.length := by
  unfold opE at ho
  rw [h.guard ops o] at ho
  split at ho
  · cases ho
  · rename_i hg
    exact ⟨_, .skip hg, h.put h.cs ho, Nat.le_refl _⟩
  · rename_i hg
    rw [h.ev] at ho
    split at ho
    · cases ho
    · rename_i g args hcall
      split at ho
      · rename_i r st ns hr
        simp only [forceV_eq, forceN_eq] at ho
        obtain ⟨c, f, first, caps, h1, h2, h3, rfl⟩ := callOf_some hcall
        obtain ⟨sto', h4, h5, h6⟩ := hc _ _ _ _ _ _ _ _ h.cs hr
        exact ⟨_, .call hg h1 h2 h3 (.full h4), h.put h5 ho, h6⟩
      · cases ho
    · split at ho
      · rename_i v ws hd
        split at ho
        · rename_i st ns hw
          simp only [forceV_eq] at ho
          have hc' := wrsE_sound ws h.cs hw
          rw [h.cs.rd, h.cs.len] at hd
          have hcc := h.put hc' ho
          rcases denB_sound hd with hd | hd
          · refine ⟨_, .den hg ?_, hcc, wrs_ge _ _⟩
            cases hdst : o.dst <;> exact hd
          · exact ⟨_, .ext hg hd, hcc, wrs_ge _ _⟩
        · cases ho
      · cases ho

noncomputable def opsE (C : Ctx) (call : CallE) (ops : Array Oper) : List Oper → ES → Option ES
  | [], e => some e
  | o :: rest, e => (match opE C call ops o e with
    | some e => opsE C call ops rest e
    | none => none)
theorem opsE_sound (hc : CSound CF call) : ∀ (l : List Oper) {e e' : ES} {s : St}, Cor e s → opsE C call ops l e = some e' → ∃ s', RunU C CF (fun _ => false) ops l s s' ∧ Cor e' s' ∧ s.sto.length ≤ s'.sto.length := by
  intro l
  induction l with
  | nil => intro e e' s h ho; cases ho; exact ⟨s, .nil s, h, Nat.le_refl _⟩
  | cons o l ih =>
    intro e e' s h ho
    unfold opsE at ho
    split at ho
    · rename_i e1 h1
      obtain ⟨s1, h2, h3, h4⟩ := opE_sound hc h h1
      obtain ⟨s2, h5, h6, h7⟩ := ih h3 ho
      exact ⟨s2, .cons h2 h5, h6, Nat.le_trans h4 h7⟩
    · cases ho

/-! Calls that a part of the store is lent to. -/
mutual
def refsV : AVal → List Nat
  | .func _ first caps => refsVL first ++ refsVL caps
  | .agg cs => refsVL cs
  | .tup vs => refsVL vs
  | .iface _ v => refsV v
  | .ptr b _ => [b]
  | .eptr b _ _ _ => [b]
  | .bsl b _ => [b]
  | .sub b _ _ _ _ => [b]
  | .csl b _ _ _ _ => [b]
  | .mapr b => [b]
  | _ => []
def refsVL : List AVal → List Nat
  | [] => []
  | x :: xs => refsV x ++ refsVL xs
end
def refsB : Blk → List Nat
  | .cells _ cs => refsVL cs
  | .arr _ _ rows => (rows.map refsVL).flatten
  | .map es _ => (es.map fun p => refsV p.1 ++ refsV p.2.1).flatten
  | _ => []
def liveE : Option Blk → Bool
  | some .gone => false
  | some (.nbuf _ _) => false
  | some _ => true
  | none => false
def hasN : List Nat → Nat → Bool
  | [], _ => false
  | x :: xs, b => cond (Nat.beq x b) true (hasN xs b)
def closE {β : Type} (gt : Nat → Option Blk) : Nat → List Nat → List Nat → (List Nat → β) → β
  | 0, _, acc, K => K acc
  | _, [], acc, K => K acc
  | f + 1, b :: rest, acc, K => forceN b fun b => cond (hasN acc b) (closE gt f rest acc K) (cond (liveE (gt b)) (closE gt f ((match gt b with | some B => refsB B | none => []) ++ rest) (b :: acc) K) (closE gt f rest acc K))
theorem closE_eq {β : Type} (gt : Nat → Option Blk) : ∀ (f : Nat) (w acc : List Nat) (K : List Nat → β), ∃ l, closE gt f w acc K = K l := by
  intro f
  induction f with
  | zero => intro w acc K; exact ⟨acc, by cases w <;> rfl⟩
  | succ f ih =>
    intro w acc K
    cases w with
    | nil => exact ⟨acc, rfl⟩
    | cons b rest =>
      simp only [closE, forceN_eq]
      cases hasN acc b with
      | true => exact ih rest acc K
      | false =>
        cases liveE (gt b) with
        | true => exact ih _ _ K
        | false => exact ih rest acc K
noncomputable def subT (gt : Nat → Option Blk) : List Nat → Tr Blk → Tr Blk
  | [], t => t
  | b :: bs, t => (match gt b with | some B => subT gt bs (t.put b B) | none => subT gt bs t)
theorem subT_get (gt : Nat → Option Blk) : ∀ (l : List Nat) (t : Tr Blk) (j : Nat), (subT gt l t).get j = if j ∈ l ∧ (gt j).isSome = true then gt j else t.get j := by
  intro l
  induction l with
  | nil => intro t j; simp [subT]
  | cons b bs ih =>
    intro t j
    simp only [subT]
    cases hb : gt b with
    | none =>
      simp only; rw [ih]
      by_cases h1 : j ∈ bs ∧ (gt j).isSome = true
      · rw [if_pos h1, if_pos ⟨List.mem_cons_of_mem _ h1.1, h1.2⟩]
      · rw [if_neg h1, if_neg]
        rintro ⟨h2, h3⟩
        rcases List.mem_cons.1 h2 with rfl | h2
        · rw [hb] at h3; cases h3
        · exact h1 ⟨h2, h3⟩
    | some B =>
      simp only; rw [ih, Tr.get_put]
      by_cases h1 : j ∈ bs ∧ (gt j).isSome = true
      · rw [if_pos h1, if_pos ⟨List.mem_cons_of_mem _ h1.1, h1.2⟩]
      · rw [if_neg h1]
        by_cases h2 : j = b
        · subst h2; rw [if_pos rfl, if_pos ⟨List.mem_cons_self, by rw [hb]; rfl⟩, hb]
        · rw [if_neg h2, if_neg]
          rintro ⟨h3, h4⟩
          rcases List.mem_cons.1 h3 with h5 | h5
          · exact h2 h5
          · exact h1 ⟨h5, h4⟩
theorem insAll_of {L : Nat} {rd : List Nat} : ∀ (sto : List Blk) (k : Nat), (∀ (b : Nat) B, sto[b]? = some B → (L ≤ k + b ∨ rd.contains (k + b) = true) → inB L rd B = true) → insAll L rd k sto = true := by
  intro sto
  induction sto with
  | nil => intro k _; rfl
  | cons A as ih =>
    intro k h
    simp only [insAll, Bool.and_eq_true, Bool.or_eq_true, Bool.not_eq_true', Bool.or_eq_false_iff]
    refine ⟨?_, ih (k + 1) fun b B hb hin => h (b + 1) B (by simpa using hb) (by rw [Nat.add_assoc, Nat.add_comm 1 b] at hin; exact hin)⟩
    by_cases h1 : Nat.ble L k = false ∧ rd.contains k = false
    · exact .inl h1
    · right
      refine h 0 A rfl ?_
      rw [Nat.add_zero]
      cases h2 : Nat.ble L k with
      | true => exact .inl (Nat.le_of_ble_eq_true h2)
      | false =>
        right
        cases h3 : rd.contains k with
        | true => rfl
        | false => exact (h1 ⟨h2, h3⟩).elim
noncomputable def inE (L : Nat) (rd : List Nat) : Option Blk → Bool
  | some B => inB L rd B
  | none => true
noncomputable def lentE (C : Ctx) (call : CallE) (o : Oper) (g : FuncId) (args : List AVal) (e : ES) : Option (Lab × ES) :=
  closE (rdS e.st e.ns) 4000 (refsVL args) [] fun rd => cond (rd.all fun b => liveE (rdS e.st e.ns b)) (match call g args (subT (rdS e.st e.ns) rd .e) e.ns with
    | some (r, st, ns) => forceV r fun r => forceN ns fun ns => cond (inR e.ns rd r && ((rd.all fun b => inE e.ns rd (rdS st ns b)) && ((List.range' e.ns (ns - e.ns)).all fun b => inE e.ns rd (rdS st ns b))))
      (match ES.put ⟨e.tm, e.nt, subT (rdS st ns) (rd ++ List.range' e.ns (ns - e.ns)) e.st, ns⟩ o.dst r with
        | some e' => some (⟨rd, rd, some e.ns, false⟩, e')
        | none => none) none
    | none => none) none

theorem rdS_some {st : Tr Blk} {ns b : Nat} {B : Blk} (h : st.get b = some B) : rdS st ns b = some B := by unfold rdS; rw [h]
theorem rdS_none {st : Tr Blk} {ns b : Nat} (h : st.get b = none) : rdS st ns b = if b < ns then some .gone else none := by
  unfold rdS; rw [h]
  by_cases hb : b < ns
  · have : Nat.blt b ns = true := by simpa using hb
    simp only [this, cond_true, if_pos hb]
  · have : Nat.blt b ns = false := by rw [Bool.eq_false_iff]; simp; omega
    simp only [this, cond_false, if_neg hb]
theorem subT_in {gt : Nat → Option Blk} {l : List Nat} {t : Tr Blk} {j : Nat} {B : Blk} (h : j ∈ l) (hg : gt j = some B) : (subT gt l t).get j = some B := by
  rw [subT_get, if_pos ⟨h, by rw [hg]; rfl⟩, hg]
theorem subT_out {gt : Nat → Option Blk} {l : List Nat} {t : Tr Blk} {j : Nat} (h : j ∉ l ∨ gt j = none) : (subT gt l t).get j = t.get j := by
  rw [subT_get, if_neg]
  rintro ⟨h1, h2⟩
  rcases h with h | h
  · exact h h1
  · rw [h] at h2; cases h2

theorem lentE_sound (hc : CSound CF call) {id : Nat} {o : Oper} {e e' : ES} {l : Lab} {s : St} {c : Call} {f : Operand} {g : FuncId} {first caps : List AVal} (h : Cor e s) (hg : guardOf ops s.tmps o = .run) (ho : o.op = .call c) (hcl : c.callee = .value f) (hf : s.eval C f = .func g first caps)
    (hl : lentE C call o g (first ++ c.args.toList.map (s.eval C) ++ caps) e = some (l, e')) :
    ∃ s', OpLab C CF (fun _ => false) ops id o l s s' ∧ Cor e' s' ∧ s.sto.length ≤ s'.sto.length := by
  unfold lentE at hl
  obtain ⟨rds, hrd⟩ := closE_eq (rdS e.st e.ns) 4000 (refsVL (first ++ c.args.toList.map (s.eval C) ++ caps)) [] (fun rd => cond (rd.all fun b => liveE (rdS e.st e.ns b)) (match call g (first ++ c.args.toList.map (s.eval C) ++ caps) (subT (rdS e.st e.ns) rd .e) e.ns with
    | some (r, st, ns) => forceV r fun r => forceN ns fun ns => cond (inR e.ns rd r && ((rd.all fun b => inE e.ns rd (rdS st ns b)) && ((List.range' e.ns (ns - e.ns)).all fun b => inE e.ns rd (rdS st ns b))))
      (match ES.put ⟨e.tm, e.nt, subT (rdS st ns) (rd ++ List.range' e.ns (ns - e.ns)) e.st, ns⟩ o.dst r with
        | some e' => some ((⟨rd, rd, some e.ns, false⟩ : Lab), e')
        | none => none) none
    | none => none) none)
  rw [hrd] at hl
  clear hrd
  cases hlv : (rds.all fun b => liveE (rdS e.st e.ns b)) with
  | false => rw [hlv] at hl; cases hl
  | true =>
    rw [hlv, cond_true] at hl
    have hlen := h.cs.len
    have hlive : ∀ b, b ∈ rds → liveB s.sto b = true := fun b hb => by
      have := List.all_eq_true.1 hlv b hb
      rw [h.cs.get b] at this
      unfold liveB
      unfold liveE at this
      exact this
    have hlt : ∀ b, b ∈ rds → b < s.sto.length := fun b hb => live_lt (liveB_iff (hlive b hb))
    have hsub : CorS (subT (rdS e.st e.ns) rds .e) e.ns (mask s.sto rds) := by
      refine ⟨by rw [mask_length]; exact hlen, fun b => ?_⟩
      rw [mask_get]
      have hgb := h.cs.get b
      by_cases hb : b ∈ rds
      · have hcb : rds.contains b = true := by simpa using hb
        have hbl := hlt b hb
        rw [List.getElem?_eq_getElem hbl] at hgb ⊢
        rw [rdS_some (subT_in hb hgb)]
        simp only [Option.map_some, hcb, if_true]
      · have hcb : ¬ rds.contains b = true := by simpa using hb
        rw [rdS_none (by rw [subT_out (.inl hb), Tr.get_e])]
        by_cases hbl : b < s.sto.length
        · rw [List.getElem?_eq_getElem hbl, Option.map_some, if_neg hcb, if_pos (by omega)]
        · rw [List.getElem?_eq_none (by omega), if_neg (by omega)]; rfl
    split at hl
    · rename_i r st ns hr
      simp only [forceV_eq, forceN_eq] at hl
      obtain ⟨sto1, h4, h5, h6⟩ := hc _ _ _ _ _ _ _ _ hsub hr
      rw [mask_length] at h6
      cases hck : (inR e.ns rds r && ((rds.all fun b => inE e.ns rds (rdS st ns b)) && ((List.range' e.ns (ns - e.ns)).all fun b => inE e.ns rds (rdS st ns b)))) with
      | false => rw [hck] at hl; cases hl
      | true =>
        rw [hck, cond_true] at hl
        simp only [Bool.and_eq_true] at hck
        obtain ⟨c1, c2, c3⟩ := hck
        split at hl
        · rename_i e1 hp
          cases hl
          have hlen5 := h5.len
          have hmem : ∀ b, b ∈ rds ++ List.range' e.ns (ns - e.ns) ↔ b ∈ rds ∨ (e.ns ≤ b ∧ b < ns) := fun b => by
            rw [List.mem_append, List.mem_range'_1]
            constructor
            · rintro (h | h)
              · exact .inl h
              · exact .inr (by omega)
            · rintro (h | h)
              · exact .inl h
              · exact .inr (by omega)
          have hcor : CorS (subT (rdS st ns) (rds ++ List.range' e.ns (ns - e.ns)) e.st) ns (merge s.sto rds sto1) := by
            refine ⟨by rw [merge_length h6]; exact hlen5, fun b => ?_⟩
            rw [merge_get h6]
            have hgb := h.cs.get b
            have hg5 := h5.get b
            by_cases hin : b ∈ rds ++ List.range' e.ns (ns - e.ns)
            · have hno : ¬ (b < s.sto.length ∧ rds.contains b = false) := by
                rintro ⟨q1, q2⟩
                rcases (hmem b).1 hin with h7 | h7
                · have : rds.contains b = true := by simpa using h7
                  rw [this] at q2; cases q2
                · omega
              rw [if_neg hno]
              have hbn : b < sto1.length := by
                rcases (hmem b).1 hin with h7 | h7
                · have := hlt b h7; omega
                · omega
              rw [List.getElem?_eq_getElem hbn] at hg5 ⊢
              exact rdS_some (subT_in hin hg5)
            · have hnr : b ∉ rds := fun h => hin ((hmem b).2 (.inl h))
              have hcb : rds.contains b = false := by simpa using hnr
              by_cases hbl : b < s.sto.length
              · rw [if_pos ⟨hbl, hcb⟩, ← hgb]
                cases hst : e.st.get b with
                | some B => rw [rdS_some (by rw [subT_out (.inl hin)]; exact hst), rdS_some hst]
                | none => rw [rdS_none (by rw [subT_out (.inl hin)]; exact hst), rdS_none hst, if_pos (by omega), if_pos (by omega)]
              · rw [if_neg (fun h => hbl h.1)]
                have hge : ns ≤ b := by
                  rcases Nat.lt_or_ge b ns with h8 | h8
                  · exact (hin ((hmem b).2 (.inr ⟨by omega, h8⟩))).elim
                  · exact h8
                rw [List.getElem?_eq_none (by omega)]
                rw [List.getElem?_eq_none (by omega)] at hgb
                cases hst : e.st.get b with
                | some B => rw [rdS_some hst] at hgb; cases hgb
                | none => rw [rdS_none (by rw [subT_out (.inl hin)]; exact hst), if_neg (by omega)]
          have hcc := h.put hcor hp
          refine ⟨_, .fcall (l := ⟨rds, rds, some e.ns, false⟩) hg ho hcl (by rw [tmpEval_eq]; exact hf) (by rw [tmpEval_eq]; exact h4) ⟨by rw [hlen], rfl⟩ rfl (List.all_eq_true.2 hlive) h6 (by rw [← hlen]; exact c1) ?_, hcc, by show s.sto.length ≤ (merge s.sto rds sto1).length; rw [merge_length h6]; exact h6⟩
          refine insAll_of sto1 0 fun b B hb hin => ?_
          rw [Nat.zero_add] at hin
          have hg5 := h5.get b
          rw [hb] at hg5
          have hbl := (List.getElem?_eq_some_iff.1 hb).1
          rw [← hlen]
          rcases hin with h7 | h7
          · have := List.all_eq_true.1 c3 b (by rw [List.mem_range'_1]; omega)
            rw [hg5] at this; exact this
          · have := List.all_eq_true.1 c2 b (by simpa using h7)
            rw [hg5] at this; exact this
        · cases hl
    · cases hl

/-! Regions whose order is open. -/
noncomputable def tryE (C : Ctx) (ops : Array Oper) (base i : Nat) (o : Oper) (e : ES) (rd : List Nat) : Option (Lab × ES) :=
  match denB C (e.ev C) (fun b => (rdS e.st e.ns b).map fun B => if rd.contains b = true then B else .gone) (idD ops base i o) o.op with
  | some (v, ws) => cond (ws.all fun p => Nat.blt p.1 e.ns) (match wrsE ws e.st e.ns with
    | some (st, ns) => forceV v fun v => (match ES.put ⟨e.tm, e.nt, st, ns⟩ o.dst v with
      | some e' => some (⟨rd, ws.map (·.1), none, false⟩, e')
      | none => none)
    | none => none) none
  | none => none
noncomputable def labE (C : Ctx) (call : CallE) (ops : Array Oper) (base i : Nat) (o : Oper) (e : ES) : Option (Lab × ES) :=
  match guardE ops e o with
  | .lost => none
  | .skip => (match ES.put ⟨e.tm, e.nt, e.st, e.ns⟩ o.dst .undef with
    | some e' => some (⟨[], [], none, false⟩, e')
    | none => none)
  | .run => (match callOf (e.ev C) o with
    | some none => none
    | some (some (g, args)) => lentE C call o g args e
    | none => (match tryE C ops base i o e [] with
      | some r => some r
      | none => tryE C ops base i o e (rdLab (e.ev C) o)))

theorem tryE_sound {base i : Nat} {o : Oper} {e : ES} {rds : List Nat} {l : Lab} {e' : ES} {s : St} (h : Cor e s) (hg : guardOf ops s.tmps o = .run) (ht : tryE C ops base i o e rds = some (l, e')) :
    ∃ s', OpLab C CF (fun _ => false) ops (idD ops base i o) o l s s' ∧ Cor e' s' ∧ s.sto.length ≤ s'.sto.length := by
  unfold tryE at ht
  have hm : (fun b => (rdS e.st e.ns b).map fun B => if rds.contains b = true then B else .gone) = rd (mask s.sto rds) := by
    funext b
    rw [h.cs.get b]
    exact (mask_get rds s.sto b).symm
  rw [hm, h.ev] at ht
  split at ht
  · rename_i v ws hd
    cases hall : (ws.all fun p => Nat.blt p.1 e.ns) with
    | false => rw [hall] at ht; cases ht
    | true =>
      rw [hall, cond_true] at ht
      split at ht
      · rename_i st ns hw
        simp only [forceV_eq] at ht
        split at ht
        · rename_i e1 hp
          cases ht
          have hcc := h.put (wrsE_sound ws h.cs hw) hp
          have hin : ∀ p, p ∈ ws → p.1 < s.sto.length := fun p hp => by
            have := List.all_eq_true.1 hall p hp
            rw [← h.cs.len]; simpa using this
          have hlab : ∀ (hd : OpDo C CF (fun _ => false) ops (idD ops base i o) o s.tmps (mask s.sto rds) v ws), ∃ s', OpLab C CF (fun _ => false) ops (idD ops base i o) o ⟨rds, ws.map (·.1), none, false⟩ s s' ∧ Cor e' s' ∧ s.sto.length ≤ s'.sto.length := fun hd =>
            ⟨_, OpLab.intro (l := ⟨rds, ws.map (·.1), none, false⟩) hd rfl hin ⟨rfl, rfl⟩, hcc, wrs_ge _ _⟩
          rcases denB_sound hd with hd | hd
          · refine hlab (.den hg ?_)
            rw [tmpEval_eq]
            cases hdst : o.dst <;> exact hd
          · exact hlab (.ext hg (by rw [tmpEval_eq]; exact hd))
        · cases ht
      · cases ht
  · cases ht

theorem labE_sound (hc : CSound CF call) {base i : Nat} {o : Oper} {e e' : ES} {l : Lab} {s : St} (h : Cor e s) (ho : labE C call ops base i o e = some (l, e')) :
    ∃ s', OpLab C CF (fun _ => false) ops (idD ops base i o) o l s s' ∧ Cor e' s' ∧ s.sto.length ≤ s'.sto.length := by
  unfold labE at ho
  rw [h.guard ops o] at ho
  split at ho
  · cases ho
  · rename_i hg
    split at ho
    · rename_i e1 hp
      cases ho
      exact ⟨_, OpLab.intro (l := ⟨[], [], none, false⟩) (ws := []) (.skip hg) rfl (fun p hp => by cases hp) ⟨rfl, rfl⟩, h.put h.cs hp, Nat.le_refl _⟩
    · cases ho
  · rename_i hg
    split at ho
    · cases ho
    · rename_i g args hcall
      rw [h.ev] at hcall
      obtain ⟨c, f, first, caps, h1, h2, h3, rfl⟩ := callOf_some hcall
      exact lentE_sound hc h hg h1 h2 h3 ho
    · split at ho
      · rename_i r hr
        cases ho
        exact tryE_sound h hg hr
      · exact tryE_sound h hg ho

noncomputable def opsDE (C : Ctx) (call : CallE) (ops : Array Oper) (base : Nat) : Nat → List Oper → ES → Option (List (Nat × Lab) × ES)
  | _, [], e => some ([], e)
  | k, o :: rest, e => (match labE C call ops base k o e with
    | some (l, e) => (match opsDE C call ops base (k + 1) rest e with
      | some (il, e) => some ((k, l) :: il, e)
      | none => none)
    | none => none)
theorem opsDE_sound (hc : CSound CF call) {base : Nat} : ∀ (l : List Oper) (k : Nat) {e e' : ES} {il : List (Nat × Lab)} {s : St}, ops.toList.drop k = l → Cor e s → opsDE C call ops base k l e = some (il, e') →
    ∃ s', RunD C CF (fun _ => false) ops base il s s' ∧ Cor e' s' ∧ s.sto.length ≤ s'.sto.length ∧ il.map (·.1) = List.range' k l.length := by
  intro l
  induction l with
  | nil => intro k e e' il s hl h ho; cases ho; exact ⟨s, .nil s, h, Nat.le_refl _, rfl⟩
  | cons o l ih =>
    intro k e e' il s hl h ho
    unfold opsDE at ho
    split at ho
    · rename_i lb e1 h1
      split at ho
      · rename_i il' e2 h2
        cases ho
        have hk : ops[k]? = some o := by
          have : (ops.toList.drop k)[0]? = some o := by rw [hl]; rfl
          rw [List.getElem?_drop, Nat.add_zero, Array.getElem?_toList] at this
          exact this
        have hl' : ops.toList.drop (k + 1) = l := by
          have : (ops.toList.drop k).drop 1 = l := by rw [hl]; rfl
          rwa [List.drop_drop] at this
        obtain ⟨s1, h3, h4, h5⟩ := labE_sound hc h h1
        obtain ⟨s2, h6, h7, h8, h9⟩ := ih (k + 1) hl' h4 h2
        exact ⟨s2, .cons hk h3 h6, h7, Nat.le_trans h5 h8, by simp [h9, List.range'_succ]⟩
      · cases ho
    · cases ho

theorem Cor.reserve {e : ES} {s : St} (h : Cor e s) (ops : Array Oper) : Cor ⟨e.tm, e.nt, e.st, e.ns + rank ops.toList ops.size⟩ (Ai.reserve ops s) := by
  refine ⟨h.nt, h.tm, ⟨by simp [Ai.reserve, h.cs.len], fun b => ?_⟩⟩
  have hb := h.cs.get b
  have hn := h.cs.len
  simp only [Ai.reserve, List.getElem?_append]
  simp only [rdS] at hb ⊢
  cases hg : e.st.get b with
  | some B =>
    rw [hg] at hb
    have hlt := (List.getElem?_eq_some_iff.1 hb.symm).1
    rw [if_pos hlt, ← hb]
  | none =>
    rw [hg] at hb
    simp only at hb ⊢
    by_cases hlt : b < s.sto.length
    · rw [if_pos hlt, ← hb]
      have e1 : Nat.blt b e.ns = true := by simp; omega
      have e2 : Nat.blt b (e.ns + rank ops.toList ops.size) = true := by simp; omega
      rw [e1, e2]
    · rw [if_neg hlt, List.getElem?_replicate]
      by_cases h2 : b - s.sto.length < rank ops.toList ops.size
      · have e2 : Nat.blt b (e.ns + rank ops.toList ops.size) = true := by simp; omega
        rw [if_pos h2, e2]; rfl
      · have e2 : Nat.blt b (e.ns + rank ops.toList ops.size) = false := by
          rw [Bool.eq_false_iff]; simp; omega
        rw [if_neg h2, e2]; rfl
end

/-! Code and calls. -/
inductive EOut where
  | norm (e : ES)
  | exit (id : Nat) (e : ES)
  | ret (e : ES)
noncomputable def tmFrom : Nat → List AVal → Tr AVal → Tr AVal
  | _, [], t => t
  | k, x :: xs, t => tmFrom (k + 1) xs (t.put k x)
noncomputable def entryE (n : Nat) (args : List AVal) (st : Tr Blk) (ns : Nat) : Option ES := cond (Nat.ble args.length n) (some ⟨tmFrom 0 args .e, n, st, ns⟩) none
noncomputable def resVE (P : Program) (e : ES) : ResultVar → Option AVal
  | .tmp t => some (e.tv t)
  | .cell a t => (lay P t).bind fun q => (rdCellsE (rdS e.st e.ns) (e.tv a) (if q.1 = true then q.2 else 1)).bind (mkV q.1)
noncomputable def resLE (P : Program) (e : ES) : List ResultVar → Option (List AVal)
  | [] => some []
  | r :: rest => (resVE P e r).bind fun v => (resLE P e rest).map (v :: ·)
noncomputable def resAE (P : Program) (e : ES) (rs : List ResultVar) : Option AVal :=
  (resLE P e rs).map fun vs => match vs with | [v] => v | vs => .tup vs
noncomputable def callE (C : Ctx) (rc : Code → ES → Option EOut) : CallE := fun g args st ns =>
  match C.P.funcs[g]? with
  | some fn => (match fn.body with
    | some c => (match entryE fn.ntmps args st ns with
      | some e => (match rc c e with
        | some (.norm e1) => (match resAE C.P e1 fn.results.toList with | some r => some (r, e1.st, e1.ns) | none => none)
        | some (.ret e1) => (match resAE C.P e1 fn.results.toList with | some r => some (r, e1.st, e1.ns) | none => none)
        | _ => none)
      | none => none)
    | none => none)
  | none => none
noncomputable def evStep (C : Ctx) (rc : Code → ES → Option EOut) (c : Code) (e : ES) : Option EOut :=
  match c with
  | .skip => some (.norm e)
  | .label _ => some (.norm e)
  | .exit id => some (.exit id e)
  | .ret => some (.ret e)
  | .region _ ops false => (match opsE C (callE C rc) ops ops.toList e with | some e => some (.norm e) | none => none)
  | .region _ ops true => (match opsDE C (callE C rc) ops e.ns 0 ops.toList ⟨e.tm, e.nt, e.st, e.ns + rank ops.toList ops.size⟩ with
    | some (il, e) => cond (openOK ops il) (some (.norm e)) none
    | none => none)
  | .seq a b => (match rc a e with | some (.norm e1) => rc b e1 | r => r)
  | .cond x a b => (match e.ev C x with | .bool t => rc (cond t a b) e | _ => none)
  | .block id b => (match rc b e with | some (.exit id' e1) => cond (Nat.beq id' id) (some (.norm e1)) (some (.exit id' e1)) | r => r)
  | .loop b => (match rc b e with | some (.norm e1) => rc (.loop b) e1 | r => r)
  | .scope c => rc c e
  | _ => none
noncomputable def ev (C : Ctx) (n : Nat) : Code → ES → Option EOut := Nat.rec (motive := fun _ => Code → ES → Option EOut) (fun _ _ => none) (fun _ ih => evStep C ih) n

def EOut.es : EOut → ES
  | .norm e => e
  | .exit _ e => e
  | .ret e => e
inductive CorO : EOut → Out → Prop
  | norm {e : ES} {s : St} (h : Cor e s) : CorO (.norm e) (.norm s)
  | exit {id : Nat} {e : ES} {s : St} (h : Cor e s) : CorO (.exit id e) (.exit id s)
  | ret {e : ES} {s : St} (h : Cor e s) : CorO (.ret e) (.ret s)

theorem tmFrom_get : ∀ (xs : List AVal) (k : Nat) (t : Tr AVal) (j : Nat), (tmFrom k xs t).get j = if k ≤ j ∧ j < k + xs.length then xs[j - k]? else t.get j := by
  intro xs
  induction xs with
  | nil => intro k t j; rw [if_neg (by simp)]; rfl
  | cons x xs ih =>
    intro k t j
    simp only [tmFrom, ih, Tr.get_put, List.length_cons]
    by_cases h1 : k + 1 ≤ j ∧ j < k + 1 + xs.length
    · rw [if_pos h1, if_pos (by omega)]
      have : j - k = (j - (k + 1)) + 1 := by omega
      rw [this, List.getElem?_cons_succ]
    · rw [if_neg h1]
      by_cases h2 : j = k
      · subst h2; rw [if_pos rfl, if_pos (by omega), Nat.sub_self]; rfl
      · rw [if_neg h2, if_neg (by omega)]
theorem entryE_sound {n : Nat} {args : List AVal} {st : Tr Blk} {ns : Nat} {sto : List Blk} {e : ES} (h : CorS st ns sto) (he : entryE n args st ns = some e) : Cor e (entry n args sto) := by
  unfold entryE at he
  cases hb : Nat.ble args.length n with
  | false => rw [hb] at he; cases he
  | true =>
    rw [hb] at he; cases he
    have hle := Nat.le_of_ble_eq_true hb
    refine ⟨by simp [entry]; omega, fun t => ?_, h⟩
    simp only [ES.tv, tmFrom_get, entry, Tr.get_e, Nat.zero_le, true_and, Nat.zero_add, Nat.sub_zero]
    rw [List.getD_eq_getElem?_getD, List.getElem?_append]
    by_cases h1 : t < args.length
    · rw [if_pos h1, if_pos h1, List.getElem?_eq_getElem h1]; rfl
    · rw [if_neg h1, if_neg h1, List.getElem?_replicate]
      by_cases h2 : t < n
      · have : Nat.blt t n = true := by simpa using h2
        rw [this, if_pos (by omega)]; rfl
      · have : Nat.blt t n = false := by rw [Bool.eq_false_iff]; simp; omega
        rw [this, if_neg (by omega)]; rfl
theorem resAE_sound {P : Program} {e : ES} {s : St} (h : Cor e s) (rs : List ResultVar) : resAE P e rs = resA P s rs := by
  have hv : ∀ r, resVE P e r = resV P s r := fun r => by
    cases r with
    | tmp t => simp only [resVE, resV, h.tm]
    | cell a t => simp only [resVE, resV, h.tm, h.cs.rd, rdCellsE_eq]
  have hl : ∀ rs, resLE P e rs = resL P s rs := fun rs => by
    induction rs with
    | nil => rfl
    | cons r rs ih => simp only [resLE, resL, hv, ih]
  unfold resAE resA
  rw [hl]; rfl

/-- No function with a body bears the one name that is set apart. -/
def NamesOK (P : Program) : Prop := ∀ (g : FuncId) (fn : Func), P.funcs[g]? = some fn → fn.body.isSome = true → fn.name ≠ "runtime.NumGoroutine"

theorem callE_sound {C : Ctx} (hN : NamesOK C.P) {rc : Code → ES → Option EOut} {n : Nat} (hrc : ∀ c e o s m0, rc c e = some o → Cor e s → ∃ o', Exec C (CallN C n) (fun _ => false) m0 c s o' ∧ CorO o o' ∧ s.sto.length ≤ o'.st.sto.length) : CSound (CallN C (n + 1)) (callE C rc) := by
  intro g args st ns r st' ns' sto h hc
  unfold callE at hc
  split at hc
  · rename_i fn hfn
    split at hc
    · rename_i c hb
      have hname := hN g fn hfn (by rw [hb]; rfl)
      split at hc
      · rename_i e he
        have hcor := entryE_sound h he
        split at hc
        · rename_i e1 hr1
          split at hc
          · rename_i r' hr2
            cases hc
            obtain ⟨o', h1, h2, h3⟩ := hrc _ _ _ _ sto.length hr1 hcor
            cases h2 with
            | @norm _ s hs =>
              rw [resAE_sound hs] at hr2
              exact ⟨s.sto, .inr ⟨fn, c, fun _ => false, .norm s, s, s, r, hfn, hb, hname, h1, .inl rfl, .inl rfl, hr2, .inl ⟨rfl, rfl⟩⟩, hs.cs, h3⟩
          · cases hc
        · rename_i e1 hr1
          split at hc
          · rename_i r' hr2
            cases hc
            obtain ⟨o', h1, h2, h3⟩ := hrc _ _ _ _ sto.length hr1 hcor
            cases h2 with
            | @ret _ s hs =>
              rw [resAE_sound hs] at hr2
              exact ⟨s.sto, .inr ⟨fn, c, fun _ => false, .ret s, s, s, r, hfn, hb, hname, h1, .inr rfl, .inl rfl, hr2, .inl ⟨rfl, rfl⟩⟩, hs.cs, h3⟩
          · cases hc
        · cases hc
      · cases hc
    · cases hc
  · cases hc

theorem ev_sound {C : Ctx} (hN : NamesOK C.P) : ∀ (n : Nat) (c : Code) (e : ES) (o : EOut) (s : St) (m0 : Nat), ev C n c e = some o → Cor e s → ∃ o', Exec C (CallN C n) (fun _ => false) m0 c s o' ∧ CorO o o' ∧ s.sto.length ≤ o'.st.sto.length := by
  intro n
  induction n with
  | zero => intro c e o s m0 h; cases h
  | succ n ih =>
    intro c e o s m0 h0 hcor
    have h : evStep C (ev C n) c e = some o := h0
    clear h0
    have hcall := callE_sound hN ih
    have up : ∀ {c : Code} {s : St} {o : Out}, Exec C (CallN C n) (fun _ => false) m0 c s o → Exec C (CallN C (n + 1)) (fun _ => false) m0 c s o := fun h => h.mono (callN_le (Nat.le_succ n))
    cases c <;> simp only [evStep] at h
    case skip => cases h; exact ⟨_, .skip s, .norm hcor, Nat.le_refl _⟩
    case label l => cases h; exact ⟨_, .label l s, .norm hcor, Nat.le_refl _⟩
    case exit id => cases h; exact ⟨_, .exit id s, .exit hcor, Nat.le_refl _⟩
    case ret => cases h; exact ⟨_, .ret s, .ret hcor, Nat.le_refl _⟩
    case region id ops b =>
      cases b with
      | false =>
        simp only at h
        split at h
        · rename_i e1 h1
          cases h
          obtain ⟨s1, h2, h3, h4⟩ := opsE_sound hcall _ hcor h1
          exact ⟨_, .region h2, .norm h3, h4⟩
        · cases h
      | true =>
        simp only at h
        split at h
        · rename_i il e1 h1
          cases hok : openOK ops il with
          | false => rw [hok] at h; cases h
          | true =>
            rw [hok] at h; cases h
            obtain ⟨s1, h2, h3, h4, h5⟩ := opsDE_sound hcall ops.toList 0 (by simp) (hcor.reserve ops) h1
            rw [hcor.cs.len] at h2
            refine ⟨_, .regionD h2 ?_ hok, .norm h3, ?_⟩
            · rw [h5, List.range_eq_range', Array.length_toList]
            · have : s.sto.length ≤ (reserve ops s).sto.length := by simp [reserve]
              exact Nat.le_trans this h4
        · cases h
    case seq a b =>
      split at h
      · rename_i e1 h1
        obtain ⟨o1, h2, h3, h4⟩ := ih _ _ _ _ m0 h1 hcor
        cases h3 with
        | norm hs =>
          obtain ⟨o2, h5, h6, h7⟩ := ih _ _ _ _ m0 h hs
          exact ⟨o2, .seqN (up h2) (up h5), h6, Nat.le_trans h4 h7⟩
      · rename_i hne
        obtain ⟨o1, h2, h3, h4⟩ := ih _ _ _ _ m0 h hcor
        cases h3 with
        | norm hs => exact (hne _ h).elim
        | exit hs => exact ⟨_, .seqX (up h2), .exit hs, h4⟩
        | ret hs => exact ⟨_, .seqR (up h2), .ret hs, h4⟩
    case cond x a b =>
      split at h
      · rename_i t ht
        rw [hcor.ev] at ht
        obtain ⟨o1, h2, h3, h4⟩ := ih _ _ _ _ m0 h hcor
        refine ⟨o1, .cond (t := t) ht ?_, h3, h4⟩
        cases t <;> exact up h2
      · cases h
    case block id b =>
      split at h
      · rename_i id' e1 h1
        obtain ⟨o1, h2, h3, h4⟩ := ih _ _ _ _ m0 h1 hcor
        cases h3 with
        | exit hs =>
          cases hid : Nat.beq id' id with
          | true =>
            rw [hid] at h; cases h
            have := Nat.eq_of_beq_eq_true hid
            subst this
            exact ⟨_, .blockX (up h2), .norm hs, h4⟩
          | false =>
            rw [hid] at h; cases h
            exact ⟨_, .blockY (Nat.ne_of_beq_eq_false hid) (up h2), .exit hs, h4⟩
      · rename_i hne
        obtain ⟨o1, h2, h3, h4⟩ := ih _ _ _ _ m0 h hcor
        cases h3 with
        | norm hs => exact ⟨_, .blockN (up h2), .norm hs, h4⟩
        | exit hs => exact (hne _ _ h).elim
        | ret hs => exact ⟨_, .blockR (up h2), .ret hs, h4⟩
    case loop b =>
      split at h
      · rename_i e1 h1
        obtain ⟨o1, h2, h3, h4⟩ := ih _ _ _ _ m0 h1 hcor
        cases h3 with
        | norm hs =>
          obtain ⟨o2, h5, h6, h7⟩ := ih _ _ _ _ m0 h hs
          exact ⟨o2, .loopN (up h2) (up h5), h6, Nat.le_trans h4 h7⟩
      · rename_i hne
        obtain ⟨o1, h2, h3, h4⟩ := ih _ _ _ _ m0 h hcor
        cases h3 with
        | norm hs => exact (hne _ h).elim
        | exit hs => exact ⟨_, .loopX (up h2), .exit hs, h4⟩
        | ret hs => exact ⟨_, .loopR (up h2), .ret hs, h4⟩
    case scope c =>
      obtain ⟨o1, h2, h3, h4⟩ := ih _ _ _ _ m0 h hcor
      exact ⟨o1, .scope (up h2), h3, h4⟩
    all_goals cases h

/-- A closed call, run. -/
noncomputable def runE (C : Ctx) (n : Nat) (g : FuncId) (args : List AVal) : Option AVal := match callE C (ev C n) g args .e 0 with
  | some (r, _, _) => some r
  | none => none
theorem runE_sound {C : Ctx} (hN : NamesOK C.P) {n : Nat} {g : FuncId} {args : List AVal} {b : Bool} (h : runE C n g args = some (.bool b)) : CallF C g args [] (.bool b) [] := by
  unfold runE at h
  split at h
  · rename_i r st ns hc
    cases h
    have hcs : CorS .e 0 ([] : List Blk) := ⟨rfl, fun b => by simp only [rdS, Tr.get_e]; rw [Bool.eq_false_iff.2 (show Nat.blt b 0 ≠ true by simp)]; rfl⟩
    unfold callE at hc
    split at hc
    · rename_i fn hfn
      split at hc
      · rename_i c hb
        have hname := hN g fn hfn (by rw [hb]; rfl)
        split at hc
        · rename_i e he
          have hcor := entryE_sound hcs he
          split at hc
          · rename_i e1 hr1
            split at hc
            · rename_i r' hr2
              cases hc
              obtain ⟨o', h1, h2, h3⟩ := ev_sound hN n _ _ _ _ 0 hr1 hcor
              cases h2 with
              | @norm _ s hs =>
                rw [resAE_sound hs] at hr2
                exact ⟨n + 1, .inr ⟨fn, c, fun _ => false, .norm s, s, s, .bool b, hfn, hb, hname, h1, .inl rfl, .inl rfl, hr2, .inr ⟨rfl, rfl, rfl, .refl _, rfl⟩⟩⟩
            · cases hc
          · rename_i e1 hr1
            split at hc
            · rename_i r' hr2
              cases hc
              obtain ⟨o', h1, h2, h3⟩ := ev_sound hN n _ _ _ _ 0 hr1 hcor
              cases h2 with
              | @ret _ s hs =>
                rw [resAE_sound hs] at hr2
                exact ⟨n + 1, .inr ⟨fn, c, fun _ => false, .ret s, s, s, .bool b, hfn, hb, hname, h1, .inr rfl, .inl rfl, hr2, .inr ⟨rfl, rfl, rfl, .refl _, rfl⟩⟩⟩
            · cases hc
          · cases hc
        · cases hc
      · cases hc
    · cases hc
  · cases h

end Go.Proofs.YtepnbdacekkapaaGreatDoor.Ai
