/- Closed runs: an evaluator of calls over abstract values that the kernel runs, and its soundness. Own work of this seat. -/
import Derived.Test.YtaajfbcopafkaaaGreatDoorAiEvD
namespace Go.Proofs.YtaajfbcopafkaaaGreatDoor.Ai
open Go
set_option linter.unusedVariables false
set_option linter.unusedSimpArgs false

/-! Tries. -/
inductive Tr (α : Type) where
  | e
  | n (l : Tr α) (v : Option α) (r : Tr α)

noncomputable def Tr.get {α : Type} (t : Tr α) : Nat → Option α :=
  Tr.rec (motive := fun _ => Nat → Option α) (fun _ => none) (fun _ v _ ihl ihr i => Nat.casesOn i v fun i => cond (Nat.beq (i % 2) 0) (ihl (i / 2)) (ihr (i / 2))) t
noncomputable def Tr.set {α : Type} (f : Nat) : Tr α → Nat → α → Tr α :=
  Nat.rec (motive := fun _ => Tr α → Nat → α → Tr α) (fun _ _ _ => .e) (fun _ ih t i v => Tr.casesOn t
      (Nat.casesOn i (.n .e (some v) .e) fun i => cond (Nat.beq (i % 2) 0) (.n (ih .e (i / 2) v) none .e) (.n .e none (ih .e (i / 2) v)))
      (fun l x r => Nat.casesOn i (.n l (some v) r) fun i => cond (Nat.beq (i % 2) 0) (.n (ih l (i / 2) v) x r) (.n l x (ih r (i / 2) v)))) f
noncomputable def Tr.put {α : Type} (t : Tr α) (i : Nat) (v : α) : Tr α := Tr.set (i + 1) t i v

theorem Tr.get_e {α : Type} (i : Nat) : (Tr.e : Tr α).get i = none := rfl
theorem Tr.get_z {α : Type} (l r : Tr α) (v : Option α) : (Tr.n l v r).get 0 = v := rfl
theorem Tr.get_s {α : Type} (l r : Tr α) (v : Option α) (i : Nat) : (Tr.n l v r).get (i + 1) = cond (Nat.beq (i % 2) 0) (l.get (i / 2)) (r.get (i / 2)) := rfl
theorem Tr.set_s {α : Type} (f : Nat) (t : Tr α) (i : Nat) (v : α) : Tr.set (f + 1) t i v = (match t, i with
    | .e, 0 => .n .e (some v) .e
    | .e, i + 1 => cond (Nat.beq (i % 2) 0) (.n (Tr.set f .e (i / 2) v) none .e) (.n .e none (Tr.set f .e (i / 2) v))
    | .n l x r, 0 => .n l (some v) r
    | .n l x r, i + 1 => cond (Nat.beq (i % 2) 0) (.n (Tr.set f l (i / 2) v) x r) (.n l x (Tr.set f r (i / 2) v))) := by
  cases t <;> cases i <;> rfl

theorem Tr.get_set {α : Type} : ∀ (f : Nat) (t : Tr α) (i : Nat) (v : α) (j : Nat), i < f → (Tr.set f t i v).get j = if j = i then some v else t.get j := by
  intro f
  induction f with
  | zero => intro t i v j h; omega
  | succ f ih =>
    intro t i v j h
    rw [Tr.set_s]
    have par : ∀ a b : Nat, (Nat.beq (a % 2) 0 = true) → (Nat.beq (b % 2) 0 = true) → (a / 2 = b / 2 ↔ a = b) := fun a b ha hb => by
      have ha := Nat.eq_of_beq_eq_true ha
      have hb := Nat.eq_of_beq_eq_true hb
      omega
    have par1 : ∀ a b : Nat, (Nat.beq (a % 2) 0 = false) → (Nat.beq (b % 2) 0 = false) → (a / 2 = b / 2 ↔ a = b) := fun a b ha hb => by
      have ha := Nat.ne_of_beq_eq_false ha
      have hb := Nat.ne_of_beq_eq_false hb
      omega
    cases t with
    | e =>
      cases i with
      | zero =>
        cases j with
        | zero => simp [Tr.get_z]
        | succ j => simp only [Tr.get_s, Tr.get_e]; simp
      | succ i =>
        simp only
        cases hi : Nat.beq (i % 2) 0 with
        | true =>
          cases j with
          | zero => simp [Tr.get_z, Tr.get_e]
          | succ j =>
            simp only [cond_true, Tr.get_s, Tr.get_e, Nat.add_right_cancel_iff]
            cases hj : Nat.beq (j % 2) 0 with
            | true =>
              rw [cond_true, ih _ _ _ _ (by omega)]
              simp only [par j i hj hi, Tr.get_e]
            | false =>
              rw [cond_false, if_neg]
              intro e; subst e; rw [hi] at hj; cases hj
        | false =>
          cases j with
          | zero => simp [Tr.get_z, Tr.get_e]
          | succ j =>
            simp only [cond_false, Tr.get_s, Tr.get_e, Nat.add_right_cancel_iff]
            cases hj : Nat.beq (j % 2) 0 with
            | false =>
              rw [cond_false, ih _ _ _ _ (by omega)]
              simp only [par1 j i hj hi, Tr.get_e]
            | true =>
              rw [cond_true, if_neg]
              intro e; subst e; rw [hi] at hj; cases hj
    | n l x r =>
      cases i with
      | zero =>
        cases j with
        | zero => simp [Tr.get_z]
        | succ j => simp only [Tr.get_s]; simp
      | succ i =>
        simp only
        cases hi : Nat.beq (i % 2) 0 with
        | true =>
          cases j with
          | zero => simp [Tr.get_z]
          | succ j =>
            simp only [cond_true, Tr.get_s, Nat.add_right_cancel_iff]
            cases hj : Nat.beq (j % 2) 0 with
            | true =>
              rw [cond_true, ih _ _ _ _ (by omega)]
              simp only [par j i hj hi, cond_true]
            | false =>
              rw [cond_false, cond_false, if_neg]
              intro e; subst e; rw [hi] at hj; cases hj
        | false =>
          cases j with
          | zero => simp [Tr.get_z]
          | succ j =>
            simp only [cond_false, Tr.get_s, Nat.add_right_cancel_iff]
            cases hj : Nat.beq (j % 2) 0 with
            | false =>
              rw [cond_false, ih _ _ _ _ (by omega)]
              simp only [par1 j i hj hi, cond_false]
            | true =>
              rw [cond_true, cond_true, if_neg]
              intro e; subst e; rw [hi] at hj; cases hj
theorem Tr.get_put {α : Type} (t : Tr α) (i : Nat) (v : α) (j : Nat) : (t.put i v).get j = if j = i then some v else t.get j := Tr.get_set _ _ _ _ _ (Nat.lt_succ_self _)

/-! Values that are worked out. -/
def forceI {β : Type} (i : Int) (K : Int → β) : β := match i with
  | .ofNat n => forceN n fun n => K (.ofNat n)
  | .negSucc n => forceN n fun n => K (.negSucc n)
def forceV0 {β : Type} (x : AVal) (K : AVal → β) : β := match x with
  | .int k n => forceI n fun n => K (.int k n)
  | x => K x
def forceL {β : Type} : List AVal → (List AVal → β) → β
  | [], K => K []
  | x :: xs, K => forceV0 x fun x => forceL xs fun xs => K (x :: xs)
def forceV {β : Type} (x : AVal) (K : AVal → β) : β := match x with
  | .int k n => forceI n fun n => K (.int k n)
  | .agg cs => forceL cs fun cs => K (.agg cs)
  | .tup vs => forceL vs fun vs => K (.tup vs)
  | x => K x
theorem forceN_eq {β : Type} (n : Nat) (K : Nat → β) : forceN n K = K n := by cases n <;> rfl
theorem forceI_eq {β : Type} (i : Int) (K : Int → β) : forceI i K = K i := by cases i <;> simp [forceI, forceN_eq]
theorem forceV0_eq {β : Type} (x : AVal) (K : AVal → β) : forceV0 x K = K x := by cases x <;> simp [forceV0, forceI_eq]
theorem forceL_eq {β : Type} : ∀ (xs : List AVal) (K : List AVal → β), forceL xs K = K xs := by
  intro xs
  induction xs with
  | nil => intro K; rfl
  | cons x xs ih => intro K; simp [forceL, forceV0_eq, ih]
theorem forceV_eq {β : Type} (x : AVal) (K : AVal → β) : forceV x K = K x := by cases x <;> simp [forceV, forceI_eq, forceL_eq]

/-! States. -/
structure ES where
  tm : Tr AVal
  nt : Nat
  st : Tr Blk
  ns : Nat
noncomputable def rdS (st : Tr Blk) (ns b : Nat) : Option Blk := match st.get b with
  | some B => some B
  | none => cond (Nat.blt b ns) (some .gone) none
noncomputable def ES.tv (e : ES) (t : Nat) : AVal := match e.tm.get t with
  | some v => v
  | none => cond (Nat.blt t e.nt) .undef .dead
noncomputable def ES.ev (C : CB) (e : ES) : Operand → AVal
  | .tmp t => e.tv t
  | .const v => ofVal v
  | .global g => C.glob g
  | .func f => .func f [] []
noncomputable def ES.put (e : ES) (dst : Option Tmp) (v : AVal) : Option ES := match dst with
  | none => some e
  | some d => cond (Nat.blt d e.nt) (some ⟨e.tm.put d v, e.nt, e.st, e.ns⟩) none
def forceB {β : Type} (B : Blk) (K : Blk → β) : β := match B with
  | .cells t cs => forceL cs fun cs => K (.cells t cs)
  | B => K B
theorem forceB_eq {β : Type} (B : Blk) (K : Blk → β) : forceB B K = K B := by cases B <;> simp [forceB, forceL_eq]
noncomputable def wrsE : List (Nat × Blk) → Tr Blk → Nat → Option (Tr Blk × Nat)
  | [], st, ns => some (st, ns)
  | (b, B) :: rest, st, ns => forceB B fun B => cond (Nat.blt b ns) (wrsE rest (st.put b B) ns) (cond (Nat.beq b ns) (forceN (ns + 1) fun n => wrsE rest (st.put b B) n) none)
noncomputable def guardE (ops : Array Oper) (e : ES) (o : Oper) : Guard :=
  match o.guard with
  | none => .run
  | some (j, want) =>
    match (ops[j]?).bind (·.dst) with
    | some d => (match e.tv d with
      | .bool b => if b = want then .run else .skip
      | .undef => .skip
      | _ => .lost)
    | none => .lost

structure CorS (st : Tr Blk) (ns : Nat) (sto : List Blk) : Prop where
  len : ns = sto.length
  get : ∀ b, rdS st ns b = sto[b]?
structure Cor (e : ES) (s : St) : Prop where
  nt : e.nt = s.tmps.length
  tm : ∀ t, e.tv t = s.tmps.getD t .dead
  cs : CorS e.st e.ns s.sto

theorem Cor.ev {C : Ctx} {e : ES} {s : St} (h : Cor e s) : e.ev (cb C) = s.eval C := by
  funext x; cases x <;> first | rfl | exact h.tm _
theorem CorS.rd {st : Tr Blk} {ns : Nat} {sto : List Blk} (h : CorS st ns sto) : rdS st ns = rd sto := by funext b; exact h.get b
theorem Cor.guard {e : ES} {s : St} (h : Cor e s) (ops : Array Oper) (o : Oper) : guardE ops e o = guardOf ops s.tmps o := by
  unfold guardE guardOf
  cases o.guard with
  | none => rfl
  | some p =>
    obtain ⟨j, want⟩ := p
    simp only
    cases (ops[j]?).bind (·.dst) with
    | none => rfl
    | some d => simp only; rw [h.tm d]; rfl
theorem Cor.put {e e' : ES} {s : St} {sto : List Blk} {st : Tr Blk} {ns : Nat} (h : Cor e s) (hc : CorS st ns sto) {dst : Option Tmp} {v : AVal} (hp : ES.put ⟨e.tm, e.nt, st, ns⟩ dst v = some e') : Cor e' ⟨Ai.put s.tmps dst v, sto⟩ := by
  unfold ES.put at hp
  cases dst with
  | none => cases hp; exact ⟨h.nt, h.tm, hc⟩
  | some d =>
    simp only at hp
    cases hd : Nat.blt d e.nt with
    | false => rw [hd] at hp; cases hp
    | true =>
      rw [hd] at hp; cases hp
      have hlt : d < s.tmps.length := by rw [← h.nt]; simpa using hd
      refine ⟨by simp [Ai.put, h.nt], fun t => ?_, hc⟩
      simp only [ES.tv, Ai.put, Tr.get_put]
      rw [List.getD_eq_getElem?_getD, List.getElem?_set]
      by_cases e1 : t = d
      · subst e1; simp [hlt]
      · rw [if_neg e1, if_neg (fun h => e1 h.symm)]
        have := h.tm t
        rw [List.getD_eq_getElem?_getD] at this
        rw [← this]; rfl
theorem wrsE_sound : ∀ (ws : List (Nat × Blk)) {st st' : Tr Blk} {ns ns' : Nat} {sto : List Blk}, CorS st ns sto → wrsE ws st ns = some (st', ns') → CorS st' ns' (wrs sto ws) := by
  intro ws
  induction ws with
  | nil => intro st st' ns ns' sto h hw; cases hw; exact h
  | cons p ws ih =>
    intro st st' ns ns' sto h hw
    obtain ⟨b, B⟩ := p
    simp only [wrsE, forceB_eq, forceN_eq] at hw
    have hlen := h.len
    have one : ∀ ns2, b ≤ ns → ns2 = max ns (b + 1) → CorS (st.put b B) ns2 (wr1 sto b B) := fun ns2 hb h2 => by
      have hb' : b ≤ sto.length := by omega
      refine ⟨by rw [wr1_length hb']; omega, fun x => ?_⟩
      rw [wr1_get hb']
      simp only [rdS, Tr.get_put]
      by_cases e : x = b
      · subst e; simp
      · rw [if_neg e, if_neg e, ← h.get x]
        simp only [rdS]
        cases st.get x with
        | some y => rfl
        | none =>
          simp only
          congr 1
          rw [Bool.eq_iff_iff]
          simp only [Nat.blt_eq]
          omega
    cases hb : Nat.blt b ns with
    | true =>
      rw [hb, cond_true] at hw
      have hlt : b < ns := by simpa using hb
      exact ih (one ns (by omega) (by omega)) hw
    | false =>
      rw [hb, cond_false] at hw
      cases he : Nat.beq b ns with
      | false => rw [he] at hw; cases hw
      | true =>
        rw [he, cond_true] at hw
        have heq := Nat.eq_of_beq_eq_true he
        exact ih (one (ns + 1) (by omega) (by omega)) hw

/-! Operations. -/
theorem denB_sound {C : Ctx} {ρ : Operand → AVal} {sto : List Blk} {id : Nat} {op : Op} {y : AVal × List (Nat × Blk)} (h : denG op (fpB (cb C)) ρ (rd sto) id = some y) : den C ρ sto id false op = some y ∨ denx C ρ sto id op = some y := by
  rw [denG_eq, fpB_eq] at h
  cases op <;> simp only [denB] at h <;> first
    | exact .inr (by rw [← denxE_eq]; exact h)
    | exact .inl (denE_le h)
    | (split at h
       · rename_i r hr; cases h; exact .inr (by rw [← denxE_eq]; exact hr)
       · exact .inl (denE_le h))

noncomputable def callOf (ρ : Operand → AVal) (o : Oper) : Option (Option (FuncId × List AVal)) :=
  match isCall o.op with
  | some c => (match c.callee with
    | .value f => some (match ρ f with | .func g first caps => some (g, first ++ c.args.toList.map ρ ++ caps) | _ => none)
    | _ => none)
  | none => none
theorem callOf_some {ρ : Operand → AVal} {o : Oper} {g : FuncId} {args : List AVal} (h : callOf ρ o = some (some (g, args))) :
    ∃ c f first caps, o.op = .call c ∧ c.callee = .value f ∧ ρ f = .func g first caps ∧ args = first ++ c.args.toList.map ρ ++ caps := by
  unfold callOf at h
  split at h
  · rename_i c ho
    split at h
    · rename_i f hc
      have h := Option.some.inj h
      split at h
      · rename_i g' first caps hf
        cases h
        exact ⟨c, f, first, caps, isCall_some ho, hc, hf, rfl⟩
      · cases h
    · cases h
  · cases h

abbrev CallE := FuncId → List AVal → Tr Blk → Nat → Option (AVal × Tr Blk × Nat)
/-- What an evaluated call is. -/
def CSound (CF : CallRel) (call : CallE) : Prop := ∀ g args st ns r st' ns' sto, CorS st ns sto → call g args st ns = some (r, st', ns') → ∃ sto', CF g args sto r sto' ∧ CorS st' ns' sto' ∧ sto.length ≤ sto'.length

noncomputable def opE (C : CB) (call : CallE) (ops : Array Oper) (o : Oper) (e : ES) : Option ES :=
  match guardE ops e o with
  | .lost => none
  | .skip => ES.put ⟨e.tm, e.nt, e.st, e.ns⟩ o.dst .undef
  | .run => (match callOf (e.ev C) o with
    | some none => none
    | some (some (g, args)) => (match call g args e.st e.ns with
      | some (r, st, ns) => forceV r fun r => forceN ns fun ns => ES.put ⟨e.tm, e.nt, st, ns⟩ o.dst r
      | none => none)
    | none => (match denG o.op (fpB C) (e.ev C) (rdS e.st e.ns) e.ns with
      | some (v, ws) => (match wrsE ws e.st e.ns with
        | some (st, ns) => forceV v fun v => ES.put ⟨e.tm, e.nt, st, ns⟩ o.dst v
        | none => none)
      | none => none))

section
variable {C : Ctx} {CF : CallRel} {call : CallE} {ops : Array Oper}
theorem opE_sound (hc : CSound CF call) {o : Oper} {e e' : ES} {s : St} (h : Cor e s) (ho : opE (cb C) call ops o e = some e') :
    ∃ s', OpStep C CF (fun _ => false) ops s.sto.length o s s' ∧ Cor e' s' ∧ s.sto.length ≤ s'.sto.length := by
  unfold opE at ho
  rw [h.guard ops o] at ho
  split at ho
  · cases ho
  · rename_i hg
    exact ⟨_, .skip hg, h.put h.cs ho, Nat.le_refl _⟩
  · rename_i hg
    rw [h.ev] at ho
    split at ho
    · cases ho
    · rename_i g args hcall
      split at ho
      · rename_i r st ns hr
        simp only [forceV_eq, forceN_eq] at ho
        obtain ⟨c, f, first, caps, h1, h2, h3, rfl⟩ := callOf_some hcall
        obtain ⟨sto', h4, h5, h6⟩ := hc _ _ _ _ _ _ _ _ h.cs hr
        exact ⟨_, .call hg h1 h2 h3 (.full h4), h.put h5 ho, h6⟩
      · cases ho
    · split at ho
      · rename_i v ws hd
        split at ho
        · rename_i st ns hw
          simp only [forceV_eq] at ho
          have hc' := wrsE_sound ws h.cs hw
          rw [h.cs.rd, h.cs.len] at hd
          have hcc := h.put hc' ho
          rcases denB_sound hd with hd | hd
          · refine ⟨_, .den hg ?_, hcc, wrs_ge _ _⟩
            cases hdst : o.dst <;> exact hd
          · exact ⟨_, .ext hg hd, hcc, wrs_ge _ _⟩
        · cases ho
      · cases ho

noncomputable def opsE (C : CB) (call : CallE) (ops : Array Oper) : List Oper → ES → Option ES
  | [], e => some e
  | o :: rest, e => (match opE C call ops o e with
    | some e => opsE C call ops rest e
    | none => none)
theorem opsE_sound (hc : CSound CF call) : ∀ (l : List Oper) {e e' : ES} {s : St}, Cor e s → opsE (cb C) call ops l e = some e' → ∃ s', RunU C CF (fun _ => false) ops l s s' ∧ Cor e' s' ∧ s.sto.length ≤ s'.sto.length := by
  intro l
  induction l with
  | nil => intro e e' s h ho; cases ho; exact ⟨s, .nil s, h, Nat.le_refl _⟩
  | cons o l ih =>
    intro e e' s h ho
    unfold opsE at ho
    split at ho
    · rename_i e1 h1
      obtain ⟨s1, h2, h3, h4⟩ := opE_sound hc h h1
      obtain ⟨s2, h5, h6, h7⟩ := ih h3 ho
      exact ⟨s2, .cons h2 h5, h6, Nat.le_trans h4 h7⟩
    · cases ho

/-! What is equal. -/
mutual
def eqV : AVal → AVal → Bool
  | .int k n, y => (match y with | .int k' n' => decide (k = k') && decide (n = n') | _ => false)
  | .bool b, y => (match y with | .bool b' => b == b' | _ => false)
  | .str s, y => (match y with | .str s' => decide (s = s') | _ => false)
  | .nilptr, y => (match y with | .nilptr => true | _ => false)
  | .nilfunc, y => (match y with | .nilfunc => true | _ => false)
  | .nilif, y => (match y with | .nilif => true | _ => false)
  | .nilmap, y => (match y with | .nilmap => true | _ => false)
  | .undef, y => (match y with | .undef => true | _ => false)
  | .dead, y => (match y with | .dead => true | _ => false)
  | .slc n rows c, y => (match y with | .slc n' rows' c' => Nat.beq n n' && (eqRL rows rows' && decide (c = c')) | _ => false)
  | .agg cs, y => (match y with | .agg ds => eqVL cs ds | _ => false)
  | .tup cs, y => (match y with | .tup ds => eqVL cs ds | _ => false)
  | .ptr b o, y => (match y with | .ptr b' o' => Nat.beq b b' && Nat.beq o o' | _ => false)
  | .sub b n lo len c, y => (match y with | .sub b' n' lo' len' c' => Nat.beq b b' && Nat.beq n n' && Nat.beq lo lo' && Nat.beq len len' && decide (c = c') | _ => false)
  | .csl b o s len c, y => (match y with | .csl b' o' s' len' c' => Nat.beq b b' && Nat.beq o o' && Nat.beq s s' && Nat.beq len len' && Nat.beq c c' | _ => false)
  | .mapr b, y => (match y with | .mapr b' => Nat.beq b b' | _ => false)
  | .func g cs es, y => (match y with | .func g' ds fs => Nat.beq g g' && eqVL cs ds && eqVL es fs | _ => false)
  | .iface t x, y => (match y with | .iface t' x' => Nat.beq t t' && eqV x x' | _ => false)
  | .eptr a b c d, y => (match y with | .eptr a' b' c' d' => Nat.beq a a' && Nat.beq b b' && Nat.beq c c' && Nat.beq d d' | _ => false)
  | _, _ => false
def eqVL : List AVal → List AVal → Bool
  | [], ys => (match ys with | [] => true | _ => false)
  | x :: xs, ys => (match ys with | y :: ys => eqV x y && eqVL xs ys | [] => false)
def eqRL : List (List AVal) → List (List AVal) → Bool
  | [], ys => (match ys with | [] => true | _ => false)
  | x :: xs, ys => (match ys with | y :: ys => eqVL x y && eqRL xs ys | [] => false)
end
mutual
theorem eqV_eq : ∀ (x y : AVal), eqV x y = true → x = y
  | .int k n, y, h => by
    cases y <;> simp only [eqV, Bool.and_eq_true, decide_eq_true_eq] at h <;> first | (obtain ⟨rfl, rfl⟩ := h; rfl) | cases h
  | .bool b, y, h => by cases y <;> simp only [eqV, beq_iff_eq] at h <;> first | (subst h; rfl) | cases h
  | .str s, y, h => by cases y <;> simp only [eqV, decide_eq_true_eq] at h <;> first | (subst h; rfl) | cases h
  | .nilptr, y, h => by cases y <;> simp only [eqV] at h <;> first | rfl | cases h
  | .nilfunc, y, h => by cases y <;> simp only [eqV] at h <;> first | rfl | cases h
  | .nilif, y, h => by cases y <;> simp only [eqV] at h <;> first | rfl | cases h
  | .nilmap, y, h => by cases y <;> simp only [eqV] at h <;> first | rfl | cases h
  | .undef, y, h => by cases y <;> simp only [eqV] at h <;> first | rfl | cases h
  | .dead, y, h => by cases y <;> simp only [eqV] at h <;> first | rfl | cases h
  | .slc n rows c, y, h => by
    cases y <;> simp only [eqV, Bool.and_eq_true, decide_eq_true_eq] at h <;> first | (rw [Nat.eq_of_beq_eq_true h.1, eqRL_eq _ _ h.2.1, h.2.2]) | cases h
  | .agg cs, y, h => by cases y <;> simp only [eqV] at h <;> first | (rw [eqVL_eq _ _ h]) | cases h
  | .tup cs, y, h => by cases y <;> simp only [eqV] at h <;> first | (rw [eqVL_eq _ _ h]) | cases h
  | .ptr b o, y, h => by
    cases y <;> simp only [eqV, Bool.and_eq_true] at h <;> first | (rw [Nat.eq_of_beq_eq_true h.1, Nat.eq_of_beq_eq_true h.2]) | cases h
  | .sub b n lo len c, y, h => by
    cases y <;> simp only [eqV, Bool.and_eq_true, decide_eq_true_eq] at h <;> first
      | (rw [Nat.eq_of_beq_eq_true h.1.1.1.1, Nat.eq_of_beq_eq_true h.1.1.1.2, Nat.eq_of_beq_eq_true h.1.1.2, Nat.eq_of_beq_eq_true h.1.2, h.2])
      | cases h
  | .csl b o s len c, y, h => by
    cases y <;> simp only [eqV, Bool.and_eq_true] at h <;> first
      | (rw [Nat.eq_of_beq_eq_true h.1.1.1.1, Nat.eq_of_beq_eq_true h.1.1.1.2, Nat.eq_of_beq_eq_true h.1.1.2, Nat.eq_of_beq_eq_true h.1.2, Nat.eq_of_beq_eq_true h.2])
      | cases h
  | .mapr b, y, h => by cases y <;> simp only [eqV] at h <;> first | (rw [Nat.eq_of_beq_eq_true h]) | cases h
  | .rptr _, _, h => by simp [eqV] at h
  | .func g cs es, y, h => by
    cases y <;> simp only [eqV, Bool.and_eq_true] at h <;> first | (rw [Nat.eq_of_beq_eq_true h.1.1, eqVL_eq _ _ h.1.2, eqVL_eq _ _ h.2]) | cases h
  | .iface t x, y, h => by
    cases y <;> simp only [eqV, Bool.and_eq_true] at h <;> first | (rw [Nat.eq_of_beq_eq_true h.1, eqV_eq _ _ h.2]) | cases h
  | .eptr a b c d, y, h => by
    cases y <;> simp only [eqV, Bool.and_eq_true] at h <;> first
      | (rw [Nat.eq_of_beq_eq_true h.1.1.1, Nat.eq_of_beq_eq_true h.1.1.2, Nat.eq_of_beq_eq_true h.1.2, Nat.eq_of_beq_eq_true h.2])
      | cases h
  | .bsl _ _, _, h => by simp [eqV] at h
theorem eqVL_eq : ∀ (xs ys : List AVal), eqVL xs ys = true → xs = ys
  | [], ys, h => by cases ys <;> simp only [eqVL] at h <;> first | rfl | cases h
  | x :: xs, ys, h => by
    cases ys <;> simp only [eqVL, Bool.and_eq_true] at h <;> first | (rw [eqV_eq _ _ h.1, eqVL_eq _ _ h.2]) | cases h
theorem eqRL_eq : ∀ (xs ys : List (List AVal)), eqRL xs ys = true → xs = ys
  | [], ys, h => by cases ys <;> simp only [eqRL] at h <;> first | rfl | cases h
  | x :: xs, ys, h => by
    cases ys <;> simp only [eqRL, Bool.and_eq_true] at h <;> first | (rw [eqVL_eq _ _ h.1, eqRL_eq _ _ h.2]) | cases h
end
def eqML : List (AVal × AVal × Nat) → List (AVal × AVal × Nat) → Bool
  | [], ys => (match ys with | [] => true | _ => false)
  | (a, b, n) :: xs, ys => (match ys with | (a', b', n') :: ys => eqV a a' && eqV b b' && Nat.beq n n' && eqML xs ys | [] => false)
theorem eqML_eq : ∀ (xs ys : List (AVal × AVal × Nat)), eqML xs ys = true → xs = ys
  | [], ys, h => by cases ys <;> simp only [eqML] at h <;> first | rfl | cases h
  | (a, b, n) :: xs, ys, h => by
    cases ys with
    | nil => simp [eqML] at h
    | cons y ys =>
      obtain ⟨a', b', n'⟩ := y
      simp only [eqML, Bool.and_eq_true] at h
      rw [eqV_eq _ _ h.1.1.1, eqV_eq _ _ h.1.1.2, Nat.eq_of_beq_eq_true h.1.2, eqML_eq _ _ h.2]
def eqB (x y : Blk) : Bool := match x with
  | .cells t cs => (match y with | .cells t' cs' => Nat.beq t t' && eqVL cs cs' | _ => false)
  | .arr t sz rows => (match y with | .arr t' sz' rows' => Nat.beq t t' && Nat.beq sz sz' && eqRL rows rows' | _ => false)
  | .map es c => (match y with | .map es' c' => eqML es es' && Nat.beq c c' | _ => false)
  | .gone => (match y with | .gone => true | _ => false)
  | _ => false
theorem eqB_eq {x y : Blk} (h : eqB x y = true) : x = y := by
  cases x <;> cases y <;> simp only [eqB, Bool.and_eq_true] at h <;> first
    | rfl
    | (rw [Nat.eq_of_beq_eq_true h.1, eqVL_eq _ _ h.2])
    | (rw [Nat.eq_of_beq_eq_true h.1.1, Nat.eq_of_beq_eq_true h.1.2, eqRL_eq _ _ h.2])
    | (rw [eqML_eq _ _ h.1, Nat.eq_of_beq_eq_true h.2])
    | cases h
def eqO (x y : Option Blk) : Bool := match x with
  | none => (match y with | none => true | _ => false)
  | some x => (match y with | some y => eqB x y | none => false)
theorem eqO_eq {x y : Option Blk} (h : eqO x y = true) : x = y := by
  cases x <;> cases y <;> simp only [eqO] at h <;> first | rfl | (rw [eqB_eq h]) | cases h
noncomputable def eqT (t : Tr Blk) : Tr Blk → Bool :=
  Tr.rec (motive := fun _ => Tr Blk → Bool) (fun u => Tr.casesOn u true fun _ _ _ => false) (fun _ v _ ihl ihr u => Tr.casesOn u false fun l' v' r' => ihl l' && (eqO v v' && ihr r')) t
theorem eqT_eq : ∀ (t u : Tr Blk), eqT t u = true → t = u := by
  intro t
  induction t with
  | e => intro u h; cases u with | e => rfl | n l v r => cases h
  | n l v r ihl ihr =>
    intro u h
    cases u with
    | e => cases h
    | n l' v' r' =>
      have h : (eqT l l' && (eqO v v' && eqT r r')) = true := h
      simp only [Bool.and_eq_true] at h
      rw [ihl _ h.1, eqO_eq h.2.1, ihr _ h.2.2]

/-! Calls that a part of the store is lent to. -/
mutual
def refsV : AVal → List Nat
  | .func _ first caps => refsVL first ++ refsVL caps
  | .agg cs => refsVL cs
  | .tup vs => refsVL vs
  | .iface _ v => refsV v
  | .ptr b _ => [b]
  | .eptr b _ _ _ => [b]
  | .bsl b _ => [b]
  | .sub b _ _ _ _ => [b]
  | .csl b _ _ _ _ => [b]
  | .mapr b => [b]
  | .yld _ _ _ ts => refsVL ts
  | _ => []
def refsVL : List AVal → List Nat
  | [] => []
  | x :: xs => refsV x ++ refsVL xs
end
def refsB : Blk → List Nat
  | .cells _ cs => refsVL cs
  | .arr _ _ rows => (rows.map refsVL).flatten
  | .map es _ => (es.map fun p => refsV p.1 ++ refsV p.2.1).flatten
  | .miter mv _ _ _ => refsV mv
  | _ => []
def liveE : Option Blk → Bool
  | some .gone => false
  | some (.nbuf _ _) => false
  | some _ => true
  | none => false
def hasN : List Nat → Nat → Bool
  | [], _ => false
  | x :: xs, b => cond (Nat.beq x b) true (hasN xs b)
def closE {β : Type} (gt : Nat → Option Blk) : Nat → List Nat → List Nat → (List Nat → β) → β
  | 0, _, acc, K => K acc
  | _, [], acc, K => K acc
  | f + 1, b :: rest, acc, K => forceN b fun b => cond (hasN acc b) (closE gt f rest acc K) (cond (liveE (gt b)) (closE gt f ((match gt b with | some B => refsB B | none => []) ++ rest) (b :: acc) K) (closE gt f rest acc K))
theorem closE_eq {β : Type} (gt : Nat → Option Blk) : ∀ (f : Nat) (w acc : List Nat) (K : List Nat → β), ∃ l, closE gt f w acc K = K l := by
  intro f
  induction f with
  | zero => intro w acc K; exact ⟨acc, by cases w <;> rfl⟩
  | succ f ih =>
    intro w acc K
    cases w with
    | nil => exact ⟨acc, rfl⟩
    | cons b rest =>
      simp only [closE, forceN_eq]
      cases hasN acc b with
      | true => exact ih rest acc K
      | false =>
        cases liveE (gt b) with
        | true => exact ih _ _ K
        | false => exact ih rest acc K
noncomputable def subT (gt : Nat → Option Blk) : List Nat → Tr Blk → Tr Blk
  | [], t => t
  | b :: bs, t => (match gt b with | some B => subT gt bs (t.put b B) | none => subT gt bs t)
theorem subT_get (gt : Nat → Option Blk) : ∀ (l : List Nat) (t : Tr Blk) (j : Nat), (subT gt l t).get j = if j ∈ l ∧ (gt j).isSome = true then gt j else t.get j := by
  intro l
  induction l with
  | nil => intro t j; simp [subT]
  | cons b bs ih =>
    intro t j
    simp only [subT]
    cases hb : gt b with
    | none =>
      simp only; rw [ih]
      by_cases h1 : j ∈ bs ∧ (gt j).isSome = true
      · rw [if_pos h1, if_pos ⟨List.mem_cons_of_mem _ h1.1, h1.2⟩]
      · rw [if_neg h1, if_neg]
        rintro ⟨h2, h3⟩
        rcases List.mem_cons.1 h2 with rfl | h2
        · rw [hb] at h3; cases h3
        · exact h1 ⟨h2, h3⟩
    | some B =>
      simp only; rw [ih, Tr.get_put]
      by_cases h1 : j ∈ bs ∧ (gt j).isSome = true
      · rw [if_pos h1, if_pos ⟨List.mem_cons_of_mem _ h1.1, h1.2⟩]
      · rw [if_neg h1]
        by_cases h2 : j = b
        · subst h2; rw [if_pos rfl, if_pos ⟨List.mem_cons_self, by rw [hb]; rfl⟩, hb]
        · rw [if_neg h2, if_neg]
          rintro ⟨h3, h4⟩
          rcases List.mem_cons.1 h3 with h5 | h5
          · exact h2 h5
          · exact h1 ⟨h5, h4⟩
theorem insAll_of {L : Nat} {rd : List Nat} : ∀ (sto : List Blk) (k : Nat), (∀ (b : Nat) B, sto[b]? = some B → (L ≤ k + b ∨ rd.contains (k + b) = true) → inB L rd B = true) → insAll L rd k sto = true := by
  intro sto
  induction sto with
  | nil => intro k _; rfl
  | cons A as ih =>
    intro k h
    simp only [insAll, Bool.and_eq_true, Bool.or_eq_true, Bool.not_eq_true', Bool.or_eq_false_iff]
    refine ⟨?_, ih (k + 1) fun b B hb hin => h (b + 1) B (by simpa using hb) (by rw [Nat.add_assoc, Nat.add_comm 1 b] at hin; exact hin)⟩
    by_cases h1 : Nat.ble L k = false ∧ rd.contains k = false
    · exact .inl h1
    · right
      refine h 0 A rfl ?_
      rw [Nat.add_zero]
      cases h2 : Nat.ble L k with
      | true => exact .inl (Nat.le_of_ble_eq_true h2)
      | false =>
        right
        cases h3 : rd.contains k with
        | true => rfl
        | false => exact (h1 ⟨h2, h3⟩).elim
noncomputable def inE (L : Nat) (rd : List Nat) : Option Blk → Bool
  | some B => inB L rd B
  | none => true
/-- A call that what its arguments lead to is lent to. -/
noncomputable def lentC (call : CallE) (g : FuncId) (args : List AVal) (st0 : Tr Blk) (ns0 : Nat) : Option (List Nat × AVal × Tr Blk × Nat) :=
  closE (rdS st0 ns0) 4000 (refsVL args) [] fun rd => cond (rd.all fun b => liveE (rdS st0 ns0 b)) (match call g args (subT (rdS st0 ns0) rd .e) ns0 with
    | some (r, st, ns) => forceV r fun r => forceN ns fun ns => cond (inR ns0 rd r && ((rd.all fun b => inE ns0 rd (rdS st ns b)) && ((List.range' ns0 (ns - ns0)).all fun b => inE ns0 rd (rdS st ns b))))
      (some (rd, r, subT (rdS st ns) (rd ++ List.range' ns0 (ns - ns0)) st0, ns)) none
    | none => none) none
/-- A block that is as it was. -/
def sameB (x y : Option Blk) : Bool := match x with
  | some B => (match y with | some B' => eqB B B' | none => false)
  | none => false
noncomputable def lentE (C : CB) (call : CallE) (o : Oper) (g : FuncId) (args : List AVal) (e : ES) : Option (Lab × ES) :=
  match lentC call g args e.st e.ns with
  | some (rd, r, st, ns) => (match ES.put ⟨e.tm, e.nt, st, ns⟩ o.dst r with
    | some e' => some (⟨rd, rd.filter fun b => !(sameB (e.st.get b) (st.get b)), some e.ns, false⟩, e')
    | none => none)
  | none => none

theorem rdS_some {st : Tr Blk} {ns b : Nat} {B : Blk} (h : st.get b = some B) : rdS st ns b = some B := by unfold rdS; rw [h]
theorem rdS_none {st : Tr Blk} {ns b : Nat} (h : st.get b = none) : rdS st ns b = if b < ns then some .gone else none := by
  unfold rdS; rw [h]
  by_cases hb : b < ns
  · have : Nat.blt b ns = true := by simpa using hb
    simp only [this, cond_true, if_pos hb]
  · have : Nat.blt b ns = false := by rw [Bool.eq_false_iff]; simp; omega
    simp only [this, cond_false, if_neg hb]
theorem subT_in {gt : Nat → Option Blk} {l : List Nat} {t : Tr Blk} {j : Nat} {B : Blk} (h : j ∈ l) (hg : gt j = some B) : (subT gt l t).get j = some B := by
  rw [subT_get, if_pos ⟨h, by rw [hg]; rfl⟩, hg]
theorem subT_out {gt : Nat → Option Blk} {l : List Nat} {t : Tr Blk} {j : Nat} (h : j ∉ l ∨ gt j = none) : (subT gt l t).get j = t.get j := by
  rw [subT_get, if_neg]
  rintro ⟨h1, h2⟩
  rcases h with h | h
  · exact h h1
  · rw [h] at h2; cases h2

theorem subT_mask {st : Tr Blk} {ns : Nat} {sto : List Blk} (h : CorS st ns sto) {rds : List Nat} (hlt : ∀ b, b ∈ rds → b < sto.length) : CorS (subT (rdS st ns) rds .e) ns (mask sto rds) := by
  have hlen := h.len
  refine ⟨by rw [mask_length]; exact hlen, fun b => ?_⟩
  rw [mask_get]
  have hgb := h.get b
  by_cases hb : b ∈ rds
  · have hcb : rds.contains b = true := by simpa using hb
    have hbl := hlt b hb
    rw [List.getElem?_eq_getElem hbl] at hgb ⊢
    rw [rdS_some (subT_in hb hgb)]
    simp only [Option.map_some, hcb, if_true]
  · have hcb : ¬ rds.contains b = true := by simpa using hb
    rw [rdS_none (by rw [subT_out (.inl hb), Tr.get_e])]
    by_cases hbl : b < sto.length
    · rw [List.getElem?_eq_getElem hbl, Option.map_some, if_neg hcb, if_pos (by omega)]
    · rw [List.getElem?_eq_none (by omega), if_neg (by omega)]; rfl

theorem liveE_B {st : Tr Blk} {ns : Nat} {sto : List Blk} (h : CorS st ns sto) {rds : List Nat} (hlv : (rds.all fun b => liveE (rdS st ns b)) = true) : ∀ b, b ∈ rds → liveB sto b = true := fun b hb => by
  have := List.all_eq_true.1 hlv b hb
  rw [h.get b] at this
  unfold liveB
  unfold liveE at this
  exact this

theorem lentC_sound (hc : CSound CF call) {g : FuncId} {args : List AVal} {st st' : Tr Blk} {ns ns' : Nat} {sto : List Blk} {rds : List Nat} {r : AVal} (h : CorS st ns sto) (hl : lentC call g args st ns = some (rds, r, st', ns')) :
    ∃ sto1, CF g args (mask sto rds) r sto1 ∧ (rds.all fun b => liveB sto b) = true ∧ sto.length ≤ sto1.length ∧ inR sto.length rds r = true ∧ insAll sto.length rds 0 sto1 = true ∧ CorS st' ns' (merge sto rds sto1) := by
  unfold lentC at hl
  obtain ⟨rd0, hrd⟩ := closE_eq (rdS st ns) 4000 (refsVL args) [] (fun rd => cond (rd.all fun b => liveE (rdS st ns b)) (match call g args (subT (rdS st ns) rd .e) ns with
    | some (r, st1, ns1) => forceV r fun r => forceN ns1 fun ns1 => cond (inR ns rd r && ((rd.all fun b => inE ns rd (rdS st1 ns1 b)) && ((List.range' ns (ns1 - ns)).all fun b => inE ns rd (rdS st1 ns1 b))))
      (some (rd, r, subT (rdS st1 ns1) (rd ++ List.range' ns (ns1 - ns)) st, ns1)) none
    | none => none) none)
  rw [hrd] at hl
  clear hrd
  cases hlv : (rd0.all fun b => liveE (rdS st ns b)) with
  | false => rw [hlv] at hl; cases hl
  | true =>
    rw [hlv, cond_true] at hl
    have hlen := h.len
    have hlive := liveE_B h hlv
    have hlt : ∀ b, b ∈ rd0 → b < sto.length := fun b hb => live_lt (liveB_iff (hlive b hb))
    have hsub := subT_mask h hlt
    split at hl
    · rename_i r1 st1 ns1 hr
      simp only [forceV_eq, forceN_eq] at hl
      obtain ⟨sto1, h4, h5, h6⟩ := hc _ _ _ _ _ _ _ _ hsub hr
      rw [mask_length] at h6
      cases hck : (inR ns rd0 r1 && ((rd0.all fun b => inE ns rd0 (rdS st1 ns1 b)) && ((List.range' ns (ns1 - ns)).all fun b => inE ns rd0 (rdS st1 ns1 b)))) with
      | false => rw [hck] at hl; cases hl
      | true =>
        rw [hck, cond_true] at hl
        simp only [Bool.and_eq_true] at hck
        obtain ⟨c1, c2, c3⟩ := hck
        cases hl
        have hlen5 := h5.len
        have hmem : ∀ b, b ∈ rds ++ List.range' ns (ns' - ns) ↔ b ∈ rds ∨ (ns ≤ b ∧ b < ns') := fun b => by
          rw [List.mem_append, List.mem_range'_1]
          constructor
          · rintro (h | h)
            · exact .inl h
            · exact .inr (by omega)
          · rintro (h | h)
            · exact .inl h
            · exact .inr (by omega)
        have hcor : CorS (subT (rdS st1 ns') (rds ++ List.range' ns (ns' - ns)) st) ns' (merge sto rds sto1) := by
          refine ⟨by rw [merge_length h6]; exact hlen5, fun b => ?_⟩
          rw [merge_get h6]
          have hgb := h.get b
          have hg5 := h5.get b
          by_cases hin : b ∈ rds ++ List.range' ns (ns' - ns)
          · have hno : ¬ (b < sto.length ∧ rds.contains b = false) := by
              rintro ⟨q1, q2⟩
              rcases (hmem b).1 hin with h7 | h7
              · have : rds.contains b = true := by simpa using h7
                rw [this] at q2; cases q2
              · omega
            rw [if_neg hno]
            have hbn : b < sto1.length := by
              rcases (hmem b).1 hin with h7 | h7
              · have := hlt b h7; omega
              · omega
            rw [List.getElem?_eq_getElem hbn] at hg5 ⊢
            exact rdS_some (subT_in hin hg5)
          · have hnr : b ∉ rds := fun h => hin ((hmem b).2 (.inl h))
            have hcb : rds.contains b = false := by simpa using hnr
            by_cases hbl : b < sto.length
            · rw [if_pos ⟨hbl, hcb⟩, ← hgb]
              cases hst : st.get b with
              | some B => rw [rdS_some (by rw [subT_out (.inl hin)]; exact hst), rdS_some hst]
              | none => rw [rdS_none (by rw [subT_out (.inl hin)]; exact hst), rdS_none hst, if_pos (by omega), if_pos (by omega)]
            · rw [if_neg (fun h => hbl h.1)]
              have hge : ns' ≤ b := by
                rcases Nat.lt_or_ge b ns' with h8 | h8
                · exact (hin ((hmem b).2 (.inr ⟨by omega, h8⟩))).elim
                · exact h8
              rw [List.getElem?_eq_none (by omega)]
              rw [List.getElem?_eq_none (by omega)] at hgb
              cases hst : st.get b with
              | some B => rw [rdS_some hst] at hgb; cases hgb
              | none => rw [rdS_none (by rw [subT_out (.inl hin)]; exact hst), if_neg (by omega)]
        refine ⟨sto1, h4, List.all_eq_true.2 hlive, h6, by rw [← hlen]; exact c1, ?_, hcor⟩
        refine insAll_of sto1 0 fun b B hb hin => ?_
        rw [Nat.zero_add] at hin
        have hg5 := h5.get b
        rw [hb] at hg5
        have hbl := (List.getElem?_eq_some_iff.1 hb).1
        rw [← hlen]
        rcases hin with h7 | h7
        · have := List.all_eq_true.1 c3 b (by rw [List.mem_range'_1]; omega)
          rw [hg5] at this; exact this
        · have := List.all_eq_true.1 c2 b (by simpa using h7)
          rw [hg5] at this; exact this
    · cases hl

theorem lentE_sound (hc : CSound CF call) {id : Nat} {o : Oper} {e e' : ES} {l : Lab} {s : St} {c : Call} {f : Operand} {g : FuncId} {first caps : List AVal} (h : Cor e s) (hg : guardOf ops s.tmps o = .run) (ho : o.op = .call c) (hcl : c.callee = .value f) (hf : s.eval C f = .func g first caps)
    (hl : lentE (cb C) call o g (first ++ c.args.toList.map (s.eval C) ++ caps) e = some (l, e')) :
    ∃ s', OpLab C CF (fun _ => false) ops id o l s s' ∧ Cor e' s' ∧ s.sto.length ≤ s'.sto.length := by
  unfold lentE at hl
  split at hl
  · rename_i rds r st ns hcc
    obtain ⟨sto1, h4, h5, h6, h7, h8, h9⟩ := lentC_sound hc h.cs hcc
    split at hl
    · rename_i e1 hp
      cases hl
      refine ⟨_, .fcall (l := ⟨rds, rds.filter fun b => !(sameB (e.st.get b) (st.get b)), some e.ns, false⟩) hg ho hcl (by rw [tmpEval_eq]; exact hf) (by rw [tmpEval_eq]; exact h4) ⟨by rw [h.cs.len], rfl⟩ (fun b hb => ?_) h5 h6 h7 h8, h.put h9 hp, by show s.sto.length ≤ (merge s.sto rds sto1).length; rw [merge_length h6]; exact h6⟩
      have hb : b ∈ rds := hb
      cases hs : sameB (e.st.get b) (st.get b) with
      | false => exact .inl (List.mem_filter.2 ⟨hb, by rw [hs]; rfl⟩)
      | true =>
        right
        unfold sameB at hs
        split at hs
        · rename_i B hB
          split at hs
          · rename_i B' hB'
            have := eqB_eq hs
            subst this
            have g1 := h9.get b
            rw [rdS_some hB', merge_get h6, if_neg (by rintro ⟨_, hq⟩; rw [List.contains_iff_mem.2 hb] at hq; cases hq)] at g1
            rw [← g1, ← h.cs.get b, rdS_some hB]
          · cases hs
        · cases hs
    · cases hl
  · cases hl

/-! Regions whose order is open. -/
noncomputable def tryE (C : CB) (ops : Array Oper) (base i : Nat) (o : Oper) (e : ES) (rd : List Nat) : Option (Lab × ES) :=
  match denG o.op (fpB C) (e.ev C) (fun b => (rdS e.st e.ns b).map fun B => if rd.contains b = true then B else .gone) (idD ops base i o) with
  | some (v, ws) => cond (ws.all fun p => Nat.blt p.1 e.ns) (match wrsE ws e.st e.ns with
    | some (st, ns) => forceV v fun v => (match ES.put ⟨e.tm, e.nt, st, ns⟩ o.dst v with
      | some e' => some (⟨rd, ws.map (·.1), none, false⟩, e')
      | none => none)
    | none => none) none
  | none => none
noncomputable def labE (C : CB) (call : CallE) (ops : Array Oper) (base i : Nat) (o : Oper) (e : ES) : Option (Lab × ES) :=
  match guardE ops e o with
  | .lost => none
  | .skip => (match ES.put ⟨e.tm, e.nt, e.st, e.ns⟩ o.dst .undef with
    | some e' => some (⟨[], [], none, false⟩, e')
    | none => none)
  | .run => (match callOf (e.ev C) o with
    | some none => none
    | some (some (g, args)) => lentE C call o g args e
    | none => (match tryE C ops base i o e [] with
      | some r => some r
      | none => tryE C ops base i o e (rdLab (e.ev C) o)))

theorem tryE_sound {base i : Nat} {o : Oper} {e : ES} {rds : List Nat} {l : Lab} {e' : ES} {s : St} (h : Cor e s) (hg : guardOf ops s.tmps o = .run) (ht : tryE (cb C) ops base i o e rds = some (l, e')) :
    ∃ s', OpLab C CF (fun _ => false) ops (idD ops base i o) o l s s' ∧ Cor e' s' ∧ s.sto.length ≤ s'.sto.length := by
  unfold tryE at ht
  have hm : (fun b => (rdS e.st e.ns b).map fun B => if rds.contains b = true then B else .gone) = rd (mask s.sto rds) := by
    funext b
    rw [h.cs.get b]
    exact (mask_get rds s.sto b).symm
  rw [hm, h.ev] at ht
  split at ht
  · rename_i v ws hd
    cases hall : (ws.all fun p => Nat.blt p.1 e.ns) with
    | false => rw [hall] at ht; cases ht
    | true =>
      rw [hall, cond_true] at ht
      split at ht
      · rename_i st ns hw
        simp only [forceV_eq] at ht
        split at ht
        · rename_i e1 hp
          cases ht
          have hcc := h.put (wrsE_sound ws h.cs hw) hp
          have hin : ∀ p, p ∈ ws → p.1 < s.sto.length := fun p hp => by
            have := List.all_eq_true.1 hall p hp
            rw [← h.cs.len]; simpa using this
          have hlab : ∀ (hd : OpDo C CF (fun _ => false) ops (idD ops base i o) o s.tmps (mask s.sto rds) v ws), ∃ s', OpLab C CF (fun _ => false) ops (idD ops base i o) o ⟨rds, ws.map (·.1), none, false⟩ s s' ∧ Cor e' s' ∧ s.sto.length ≤ s'.sto.length := fun hd =>
            ⟨_, OpLab.intro (l := ⟨rds, ws.map (·.1), none, false⟩) hd rfl hin ⟨rfl, rfl⟩, hcc, wrs_ge _ _⟩
          rcases denB_sound hd with hd | hd
          · refine hlab (.den hg ?_)
            rw [tmpEval_eq]
            cases hdst : o.dst <;> exact hd
          · exact hlab (.ext hg (by rw [tmpEval_eq]; exact hd))
        · cases ht
      · cases ht
  · cases ht

theorem labE_sound (hc : CSound CF call) {base i : Nat} {o : Oper} {e e' : ES} {l : Lab} {s : St} (h : Cor e s) (ho : labE (cb C) call ops base i o e = some (l, e')) :
    ∃ s', OpLab C CF (fun _ => false) ops (idD ops base i o) o l s s' ∧ Cor e' s' ∧ s.sto.length ≤ s'.sto.length := by
  unfold labE at ho
  rw [h.guard ops o] at ho
  split at ho
  · cases ho
  · rename_i hg
    split at ho
    · rename_i e1 hp
      cases ho
      exact ⟨_, OpLab.intro (l := ⟨[], [], none, false⟩) (ws := []) (.skip hg) rfl (fun p hp => by cases hp) ⟨rfl, rfl⟩, h.put h.cs hp, Nat.le_refl _⟩
    · cases ho
  · rename_i hg
    split at ho
    · cases ho
    · rename_i g args hcall
      rw [h.ev] at hcall
      obtain ⟨c, f, first, caps, h1, h2, h3, rfl⟩ := callOf_some hcall
      exact lentE_sound hc h hg h1 h2 h3 ho
    · split at ho
      · rename_i r hr
        cases ho
        exact tryE_sound h hg hr
      · exact tryE_sound h hg ho

noncomputable def opsDE (C : CB) (call : CallE) (ops : Array Oper) (base : Nat) : Nat → List Oper → ES → Option (List (Nat × Lab) × ES)
  | _, [], e => some ([], e)
  | k, o :: rest, e => (match labE C call ops base k o e with
    | some (l, e) => (match opsDE C call ops base (k + 1) rest e with
      | some (il, e) => some ((k, l) :: il, e)
      | none => none)
    | none => none)
theorem opsDE_sound (hc : CSound CF call) {base : Nat} : ∀ (l : List Oper) (k : Nat) {e e' : ES} {il : List (Nat × Lab)} {s : St}, ops.toList.drop k = l → Cor e s → opsDE (cb C) call ops base k l e = some (il, e') →
    ∃ s', RunD C CF (fun _ => false) ops base il s s' ∧ Cor e' s' ∧ s.sto.length ≤ s'.sto.length ∧ il.map (·.1) = List.range' k l.length := by
  intro l
  induction l with
  | nil => intro k e e' il s hl h ho; cases ho; exact ⟨s, .nil s, h, Nat.le_refl _, rfl⟩
  | cons o l ih =>
    intro k e e' il s hl h ho
    unfold opsDE at ho
    split at ho
    · rename_i lb e1 h1
      split at ho
      · rename_i il' e2 h2
        cases ho
        have hk : ops[k]? = some o := by
          have : (ops.toList.drop k)[0]? = some o := by rw [hl]; rfl
          rw [List.getElem?_drop, Nat.add_zero, Array.getElem?_toList] at this
          exact this
        have hl' : ops.toList.drop (k + 1) = l := by
          have : (ops.toList.drop k).drop 1 = l := by rw [hl]; rfl
          rwa [List.drop_drop] at this
        obtain ⟨s1, h3, h4, h5⟩ := labE_sound hc h h1
        obtain ⟨s2, h6, h7, h8, h9⟩ := ih (k + 1) hl' h4 h2
        exact ⟨s2, .cons hk h3 h6, h7, Nat.le_trans h5 h8, by simp [h9, List.range'_succ]⟩
      · cases ho
    · cases ho

theorem Cor.reserve {e : ES} {s : St} (h : Cor e s) (ops : Array Oper) : Cor ⟨e.tm, e.nt, e.st, e.ns + rank ops.toList ops.size⟩ (Ai.reserve ops s) := by
  refine ⟨h.nt, h.tm, ⟨by simp [Ai.reserve, h.cs.len], fun b => ?_⟩⟩
  have hb := h.cs.get b
  have hn := h.cs.len
  simp only [Ai.reserve, List.getElem?_append]
  simp only [rdS] at hb ⊢
  cases hg : e.st.get b with
  | some B =>
    rw [hg] at hb
    have hlt := (List.getElem?_eq_some_iff.1 hb.symm).1
    rw [if_pos hlt, ← hb]
  | none =>
    rw [hg] at hb
    simp only at hb ⊢
    by_cases hlt : b < s.sto.length
    · rw [if_pos hlt, ← hb]
      have e1 : Nat.blt b e.ns = true := by simp; omega
      have e2 : Nat.blt b (e.ns + rank ops.toList ops.size) = true := by simp; omega
      rw [e1, e2]
    · rw [if_neg hlt, List.getElem?_replicate]
      by_cases h2 : b - s.sto.length < rank ops.toList ops.size
      · have e2 : Nat.blt b (e.ns + rank ops.toList ops.size) = true := by simp; omega
        rw [if_pos h2, e2]; rfl
      · have e2 : Nat.blt b (e.ns + rank ops.toList ops.size) = false := by
          rw [Bool.eq_false_iff]; simp; omega
        rw [if_neg h2, e2]; rfl
end

/-! Code and calls. -/
inductive EOut where
  | norm (e : ES)
  | exit (id : Nat) (e : ES)
  | ret (e : ES)
noncomputable def tmFrom {α : Type} : Nat → List α → Tr α → Tr α
  | _, [], t => t
  | k, x :: xs, t => tmFrom (k + 1) xs (t.put k x)
noncomputable def entryE (n : Nat) (args : List AVal) (st : Tr Blk) (ns : Nat) : Option ES := cond (Nat.ble args.length n) (some ⟨tmFrom 0 args .e, n, st, ns⟩) none
noncomputable def resVE (P : FP) (e : ES) : ResultVar → Option AVal
  | .tmp t => some (e.tv t)
  | .cell a t => (layF P t).bind fun q => (rdCellsE (rdS e.st e.ns) (e.tv a) (if q.1 = true then q.2 else 1)).bind (mkV q.1)
noncomputable def resLE (P : FP) (e : ES) : List ResultVar → Option (List AVal)
  | [] => some []
  | r :: rest => (resVE P e r).bind fun v => (resLE P e rest).map (v :: ·)
noncomputable def resAE (P : FP) (e : ES) (rs : List ResultVar) : Option AVal :=
  (resLE P e rs).map fun vs => match vs with | [v] => v | vs => .tup vs
/-! Steps over maps: all ways. -/
def bindM {α β : Type} (f : α → Option (List β)) : List α → Option (List β)
  | [] => some []
  | x :: xs => (match f x with
    | some l => (match bindM f xs with
      | some m => some (l ++ m)
      | none => none)
    | none => none)
theorem bindM_mem {α β : Type} {f : α → Option (List β)} : ∀ {xs : List α} {ys : List β}, bindM f xs = some ys → ∀ x, x ∈ xs → ∃ l, f x = some l ∧ ∀ y, y ∈ l → y ∈ ys := by
  intro xs
  induction xs with
  | nil => intro ys _ x hx; cases hx
  | cons z zs ih =>
    intro ys h x hx
    simp only [bindM] at h
    split at h
    · rename_i l hl
      split at h
      · rename_i m hm
        cases h
        rcases List.mem_cons.1 hx with rfl | hx
        · exact ⟨l, hl, fun y hy => List.mem_append_left _ hy⟩
        · obtain ⟨l', h1, h2⟩ := ih hm x hx
          exact ⟨l', h1, fun y hy => List.mem_append_right _ (h2 y hy)⟩
      · cases h
    · cases h
noncomputable def singleM (C : CB) (call : CallE) (ops : Array Oper) (o : Oper) (e : ES) : Option (List ES) :=
  match opE C call ops o e with
  | some e1 => some [e1]
  | none => none
noncomputable def rangeM (C : CB) (o : Oper) (t : TypeId) (b : Nat) (e : ES) : Option (List ES) :=
  cond (mapTF (fpB C) t).isSome (match rdS e.st e.ns b with
    | some (.map _ clock) => (match wrsE [(e.ns, .miter (.mapr b) clock [] clock)] e.st e.ns with
      | some (st, ns) => (match ES.put ⟨e.tm, e.nt, st, ns⟩ o.dst (.ptr e.ns 0) with
        | some e1 => some [e1]
        | none => none)
      | none => none)
    | _ => none) none
def leftM (es : List (AVal × AVal × Nat)) (seen : List Nat) : List (AVal × AVal × Nat) := es.filter fun p => !(hasN seen p.2.2)
noncomputable def nextM (o : Oper) (b : Nat) (e : ES) : Option (List ES) :=
  match rdS e.st e.ns b with
  | some (.miter (.mapr m) since seen last) => (match rdS e.st e.ns m with
    | some (.map es clock) => cond ((es.all fun p => Nat.blt p.2.2 since) && Nat.ble since last)
      (cond (leftM es seen).isEmpty (match ES.put ⟨e.tm, e.nt, e.st, e.ns⟩ o.dst (.tup [.bool false]) with
        | some e1 => some [e1]
        | none => none)
      (bindM (fun p => (match wrsE [(b, .miter (.mapr m) since (seen ++ [p.2.2]) clock)] e.st e.ns with
        | some (st, ns) => (match ES.put ⟨e.tm, e.nt, st, ns⟩ o.dst (.tup [.bool true, p.1, p.2.1]) with
          | some e1 => some [e1]
          | none => none)
        | none => none)) (leftM es seen))) none
    | _ => none)
  | _ => none
noncomputable def entryM (o : Oper) (b : Nat) (e : ES) : Option (List ES) :=
  match rdS e.st e.ns b with
  | some (.miter (.mapr m) _ seen last) => (match rdS e.st e.ns m with
    | some (.map es clock) => (match seen.getLast? with
      | some n => (match es.find? fun p => Nat.beq p.2.2 n with
        | some p => cond (Nat.beq last clock && decide ((es.map (·.2.2)).Nodup)) (match ES.put ⟨e.tm, e.nt, e.st, e.ns⟩ o.dst (.tup [p.1, p.2.1]) with
          | some e1 => some [e1]
          | none => none) none
        | none => none)
      | none => none)
    | _ => none)
  | _ => none
/-- An evaluator of the calls of a loop's yield. -/
abbrev YE := AVal → List AVal → Tr Blk → Nat → Option (AVal × Tr Blk × Nat)
noncomputable def yieldM (C : CB) (yv : YE) (o : Oper) (c : Call) (y : AVal) (e : ES) : Option (List ES) :=
  match yv y (c.args.toList.map (e.ev C)) e.st e.ns with
  | some (r, st, ns) => forceN ns fun ns => (match ES.put ⟨e.tm, e.nt, st, ns⟩ o.dst r with
    | some e1 => some [e1]
    | none => none)
  | none => none
def isYld : AVal → Bool
  | .yld _ _ _ _ => true
  | _ => false
noncomputable def callOrM (C : CB) (yv : YE) (call : CallE) (ops : Array Oper) (o : Oper) (c : Call) (e : ES) : Option (List ES) :=
  match c.callee with
  | .value f => cond (isYld (e.ev C f)) (yieldM C yv o c (e.ev C f) e) (singleM C call ops o e)
  | _ => singleM C call ops o e
noncomputable def stepM (C : CB) (yv : YE) (call : CallE) (ops : Array Oper) (o : Oper) (e : ES) : Option (List ES) :=
  match guardE ops e o with
  | .run => (match mKind o.op with
    | .range t x => (match e.ev C x with
      | .mapr b => rangeM C o t b e
      | _ => singleM C call ops o e)
    | .next it false => (match e.ev C it with
      | .ptr b 0 => nextM o b e
      | _ => none)
    | .entry it => (match e.ev C it with
      | .ptr b 0 => entryM o b e
      | _ => none)
    | .call c => callOrM C yv call ops o c e
    | _ => singleM C call ops o e)
  | _ => singleM C call ops o e
noncomputable def opsM (C : CB) (yv : YE) (call : CallE) (ops : Array Oper) : List Oper → ES → Option (List ES)
  | [], e => some [e]
  | o :: rest, e => (match stepM C yv call ops o e with
    | some es => bindM (opsM C yv call ops rest) es
    | none => none)

/-! The end of a call that steps over maps: what nothing leads to is gone. -/
def lowBE (L : Nat) : Option Blk → Bool
  | some (.cells _ cs) => lowRL L cs
  | some (.arr _ _ rows) => rows.all (lowRL L)
  | some (.map es _) => es.all fun p => lowR L p.1 && lowR L p.2.1
  | some (.buf _ _ _ _) => true
  | some (.nbuf _ _) => true
  | some (.iter _ _) => true
  | some .gone => true
  | _ => false
def resRoots (rs : List ResultVar) : List Nat := rs.map fun r => match r with | .tmp t => t | .cell a _ => a
noncomputable def gcE (args : List AVal) (rs : List ResultVar) (e : ES) : Option ES :=
  closE (rdS e.st e.ns) 4000 (refsVL args ++ refsVL ((resRoots rs).map e.tv)) [] fun K =>
    cond ((K.all fun b => liveE (rdS e.st e.ns b)) && ((K.all fun b => Nat.blt b e.ns && lowBE e.ns (rdS e.st e.ns b)) && ((List.range e.nt).all fun t => lowR e.ns (e.tv t))))
      (some ⟨e.tm, e.nt, subT (rdS e.st e.ns) K .e, e.ns⟩) none
/-- No block of a trie holds a yield. -/
def noYO : Option Blk → Bool
  | some B => noYB B
  | none => true
noncomputable def noYT (t : Tr Blk) : Bool := Tr.rec (motive := fun _ => Bool) true (fun _ v _ ihl ihr => cond ihl (cond (noYO v) ihr false) false) t
noncomputable def endM (P : FP) (args : List AVal) (fn : Func) (e : ES) : Option (AVal × Tr Blk × Nat) :=
  match gcE args fn.results.toList e with
  | some e2 => cond (noYT e2.st && (resRoots fn.results.toList).all fun t => noY (e2.tv t)) (match resAE P e2 fn.results.toList with | some r => some (r, e2.st, e2.ns) | none => none) none
  | none => none
noncomputable def finM (P : FP) (args : List AVal) (fn : Func) (o : EOut) : Option (AVal × Tr Blk × Nat) :=
  match o with
  | .norm e => endM P args fn e
  | .ret e => endM P args fn e
  | _ => none
noncomputable def joinM (P : FP) (args : List AVal) (fn : Func) : List EOut → Option (AVal × Tr Blk × Nat)
  | [] => none
  | o :: rest => (match finM P args fn o with
    | some (r, st, ns) => cond (rest.all fun o' => (match finM P args fn o' with | some (r', st', ns') => eqV r r' && (Nat.beq ns ns' && eqT st st') | none => false)) (some (r, st, ns)) none
    | none => none)
noncomputable def callM (C : CB) (rm : Code → ES → Option (List EOut)) : CallE := fun g args st ns =>
  match C.J g with
  | some fn => (match fn.body with
    | some c => (match entryE fn.ntmps args st ns with
      | some e => (match rm c e with
        | some os => (match joinM (fpB C) args fn os with
          | some (r, st1, ns1) => cond (Nat.ble ns ns1) (some (r, st1, ns1)) none
          | none => none)
        | none => none)
      | none => none)
    | none => none)
  | none => none
noncomputable def callS (C : CB) (rc : Code → ES → Option EOut) : CallE := fun g args st ns =>
  match C.J g with
  | some fn => (match fn.body with
    | some c => (match entryE fn.ntmps args st ns with
      | some e => (match rc c e with
        | some (.norm e1) => (match resAE (fpB C) e1 fn.results.toList with | some r => some (r, e1.st, e1.ns) | none => none)
        | some (.ret e1) => (match resAE (fpB C) e1 fn.results.toList with | some r => some (r, e1.st, e1.ns) | none => none)
        | _ => none)
      | none => none)
    | none => none)
  | none => none
/-! Functions that defer calls. -/
def lastD : List Oper → Option (List Oper × Operand)
  | [] => none
  | o :: rest => (match rest with
    | [] => (match o.guard, o.dst, o.op with
      | none, none, .defer c => (match c.callee with
        | .value f => (match c.args.toList with | [] => some ([], f) | _ => none)
        | _ => none)
      | _, _, _ => none)
    | _ => (match lastD rest with | some (pre, f) => some (o :: pre, f) | none => none))
noncomputable def hasD : Nat → Code → Bool
  | 0, _ => false
  | n + 1, c => (match c with
    | .seq a b => hasD n a || hasD n b
    | .region _ ops false => (match lastD ops.toList with | some _ => true | none => false)
    | _ => false)
noncomputable def evDf (C : CB) (rc : Code → ES → Option EOut) : Nat → Code → List AVal → ES → Option (List AVal × EOut)
  | 0, _, _, _ => none
  | n + 1, c, ds, e => (match c with
    | .seq a b => (match evDf C rc n a ds e with
      | some (ds1, .norm e1) => evDf C rc n b ds1 e1
      | some (ds1, .exit id e1) => some (ds1, .exit id e1)
      | some (ds1, .ret e1) => some (ds1, .ret e1)
      | none => none)
    | .region id ops false => (match lastD ops.toList with
      | some (pre, f) => (match opsE C (fun _ _ _ _ => none) ops pre e with
        | some e1 => (match e1.ev C f with | .func g first caps => some (.func g first caps :: ds, .norm e1) | _ => none)
        | none => none)
      | none => (match rc (.region id ops false) e with | some o => some (ds, o) | none => none))
    | c => (match rc c e with | some o => some (ds, o) | none => none))
noncomputable def endR (P : FP) (fn : Func) (e : ES) : Option (Tr Blk × Nat) := match resAE P e fn.results.toList with | some _ => some (e.st, e.ns) | none => none
noncomputable def callRE (C : CB) (rc : Code → ES → Option EOut) (g : FuncId) (args : List AVal) (st : Tr Blk) (ns : Nat) : Option (Tr Blk × Nat) :=
  match C.J g with
  | some fn => (match fn.body with
    | some (.seq (.region _ ops false) rest) => (match recAt ops.toList with
      | some (t, u) => (match entryE fn.ntmps args st ns with
        | some e => (match ES.put ⟨e.tm, e.nt, e.st, e.ns⟩ (some t) .nilif with
          | some e1 => (match ES.put ⟨e1.tm, e1.nt, e1.st, e1.ns⟩ (some u) (e1.ev C (.tmp t)) with
            | some e2 => (match rc rest e2 with
              | some (.norm e3) => endR (fpB C) fn e3
              | some (.ret e3) => endR (fpB C) fn e3
              | _ => none)
            | none => none)
          | none => none)
        | none => none)
      | none => none)
    | _ => none)
  | none => none
noncomputable def runDE (C : CB) (rc : Code → ES → Option EOut) : List AVal → Tr Blk → Nat → Option (Tr Blk × Nat)
  | [], st, ns => some (st, ns)
  | x :: ds, st, ns => (match x with
    | .func g first caps => (match callRE C rc g (first ++ caps) st ns with | some (st1, ns1) => runDE C rc ds st1 ns1 | none => none)
    | _ => none)
noncomputable def endD (C : CB) (rc : Code → ES → Option EOut) (fn : Func) (ds : List AVal) (e : ES) : Option (AVal × Tr Blk × Nat) :=
  match runDE C rc ds e.st e.ns with
  | some (st2, ns2) => (match resAE (fpB C) ⟨e.tm, e.nt, st2, ns2⟩ fn.results.toList with | some r => some (r, st2, ns2) | none => none)
  | none => none
noncomputable def callDE (C : CB) (rc : Code → ES → Option EOut) : CallE := fun g args st ns =>
  match C.J g with
  | some fn => (match fn.body with
    | some c => cond (hasD 60 c) (match entryE fn.ntmps args st ns with
      | some e => (match evDf C rc 60 c [] e with
        | some (ds, .norm e1) => endD C rc fn ds e1
        | some (ds, .ret e1) => endD C rc fn ds e1
        | _ => none)
      | none => none) none
    | none => none)
  | none => none
noncomputable def callSD (C : CB) (rc : Code → ES → Option EOut) : CallE := fun g args st ns =>
  match C.XE g args (rdS st ns) with
  | some r => some (r, st, ns)
  | none => (match callS C rc g args st ns with
    | some r => some r
    | none => callDE C rc g args st ns)
/-! Calls that are known: a table. -/
structure TE where
  g : FuncId
  args : List AVal
  st : Tr Blk
  ns : Nat
  r : AVal
  st' : Tr Blk
  ns' : Nat
noncomputable def TE.is (t : TE) (g : FuncId) (args : List AVal) (st : Tr Blk) (ns : Nat) : Bool := cond (Nat.beq t.g g) (cond (Nat.beq t.ns ns) (cond (eqVL t.args args) (eqT t.st st) false) false) false
noncomputable def callT (call : CallE) : List TE → CallE
  | [], g, args, st, ns => call g args st ns
  | t :: tab, g, args, st, ns => cond (t.is g args st ns) (some (t.r, t.st', t.ns')) (callT call tab g args st ns)
noncomputable def callE (C : CB) (Ms : List Nat) (tab : List TE) (rc : Code → ES → Option EOut) (rm : Code → ES → Option (List EOut)) : CallE := fun g args st ns =>
  cond (hasN Ms g) (match lentC (callT (callM C rm) tab) g args st ns with | some (_, r, st, ns) => some (r, st, ns) | none => none) (callSD C rc g args st ns)
noncomputable def evDraw (C : CB) (call : CallE) (ops : Array Oper) (e : ES) : Option EOut :=
  match opsDE C call ops e.ns 0 ops.toList ⟨e.tm, e.nt, e.st, e.ns + rank ops.toList ops.size⟩ with
  | some (il, e) => cond (openOK ops il) (some (.norm e)) none
  | none => none
noncomputable def evReg (C : CB) (call : CallE) (ops : Array Oper) (e : ES) : Option EOut :=
  match opsE C call ops ops.toList e with | some e => some (.norm e) | none => none
noncomputable def evSeq (rc : Code → ES → Option EOut) (a b : Code) (e : ES) : Option EOut :=
  match rc a e with | some (.norm e1) => rc b e1 | r => r
noncomputable def evCond (C : CB) (rc : Code → ES → Option EOut) (x : Operand) (a b : Code) (e : ES) : Option EOut :=
  match e.ev C x with | .bool t => rc (cond t a b) e | _ => none
noncomputable def evBlock (rc : Code → ES → Option EOut) (id : Nat) (b : Code) (e : ES) : Option EOut :=
  match rc b e with | some (.exit id' e1) => cond (Nat.beq id' id) (some (.norm e1)) (some (.exit id' e1)) | r => r
noncomputable def evLoop (rc : Code → ES → Option EOut) (b : Code) (e : ES) : Option EOut :=
  match rc b e with | some (.norm e1) => rc (.loop b) e1 | r => r
noncomputable def evStep (C : CB) (call : CallE) (rc : Code → ES → Option EOut) (c : Code) (e : ES) : Option EOut :=
  match c with
  | .skip => some (.norm e)
  | .label _ => some (.norm e)
  | .exit id => some (.exit id e)
  | .ret => some (.ret e)
  | .region _ ops false => evReg C call ops e
  | .region _ ops true => evDraw C call ops e
  | .seq a b => evSeq rc a b e
  | .cond x a b => evCond C rc x a b e
  | .block id b => evBlock rc id b e
  | .loop b => evLoop rc b e
  | .scope c => rc c e
  | _ => none
noncomputable def evMReg (C : CB) (yv : YE) (call : CallE) (ops : Array Oper) (e : ES) : Option (List EOut) :=
  match opsM C yv call ops ops.toList e with | some es => some (es.map .norm) | none => none
noncomputable def evMSeq (rm : Code → ES → Option (List EOut)) (a b : Code) (e : ES) : Option (List EOut) :=
  match rm a e with | some os => bindM (fun o => (match o with | .norm e1 => rm b e1 | o => some [o])) os | none => none
noncomputable def evMCond (C : CB) (rm : Code → ES → Option (List EOut)) (x : Operand) (a b : Code) (e : ES) : Option (List EOut) :=
  match e.ev C x with | .bool t => rm (cond t a b) e | _ => none
noncomputable def evMBlock (rm : Code → ES → Option (List EOut)) (id : Nat) (b : Code) (e : ES) : Option (List EOut) :=
  match rm b e with | some os => some (os.map fun o => (match o with | .exit id' e1 => cond (Nat.beq id' id) (.norm e1) (.exit id' e1) | o => o)) | none => none
noncomputable def evMLoop (rm : Code → ES → Option (List EOut)) (b : Code) (e : ES) : Option (List EOut) :=
  match rm b e with | some os => bindM (fun o => (match o with | .norm e1 => rm (.loop b) e1 | o => some [o])) os | none => none
noncomputable def evMOne (C : CB) (call : CallE) (rc : Code → ES → Option EOut) (c : Code) (e : ES) : Option (List EOut) :=
  match evStep C call rc c e with | some o => some [o] | none => none
/-- A round of a loop over a function. -/
noncomputable def roundE (rc : Code → ES → Option EOut) : YE := fun y args st ns =>
  match y with
  | .yld ps assign body tmps => cond (Nat.beq args.length ps.length) (match rc assign ⟨tmFrom 0 (setPs tmps ps args) .e, (setPs tmps ps args).length, st, ns⟩ with
    | some (.norm e1) => cond (((List.range e1.nt).all fun t => noY (e1.tv t)) && noYT e1.st) (match rc body e1 with
      | some (.norm e2) => cond (noYT e2.st) (some (.bool true, e2.st, e2.ns)) none
      | _ => none) none
    | _ => none) none
  | _ => none
noncomputable def evMRange (C : CB) (callY : YE → CallE) (rc : Code → ES → Option EOut) (g : Operand) (ps : Array Tmp) (assign body : Code) (e : ES) : Option (List EOut) :=
  match e.ev C g with
  | .func gf first caps => (match C.J gf with
    | some fn => cond (fn.body.isSome && (((List.range e.nt).all fun t => noY (e.tv t)) && ((noYL first && noYL caps) && noYT e.st)))
      (match callY (roundE rc) gf (first ++ [.yld ps.toList assign body ((List.range e.nt).map e.tv)] ++ caps) e.st e.ns with
      | some (_, st, ns) => forceN ns fun ns => cond (noYT st) (some [.norm ⟨e.tm, e.nt, st, ns⟩]) none
      | none => none) none
    | none => none)
  | _ => none
noncomputable def evMStep (C : CB) (yv : YE) (call : CallE) (callY : YE → CallE) (rc : Code → ES → Option EOut) (rm : Code → ES → Option (List EOut)) (c : Code) (e : ES) : Option (List EOut) :=
  match c with
  | .region _ ops false => evMReg C yv call ops e
  | .seq a b => evMSeq rm a b e
  | .cond x a b => evMCond C rm x a b e
  | .block id b => evMBlock rm id b e
  | .loop b => evMLoop rm b e
  | .scope c => rm c e
  | .rangeFunc g ps assign body => evMRange C callY rc g ps assign body e
  | c => evMOne C call rc c e
structure EP where
  c : Code → ES → Option EOut
  m : Code → ES → Option (List EOut)
noncomputable def evP (C : CB) (Ms : List Nat) (tab : List TE) (n : Nat) : YE → EP := Nat.rec (motive := fun _ => YE → EP) (fun _ => ⟨fun _ _ => none, fun _ _ => none⟩)
  (fun _ ih yv => ⟨evStep C (callE C Ms tab (ih yv).c (ih yv).m) (ih yv).c, evMStep C yv (callE C Ms tab (ih yv).c (ih yv).m) (fun yv' => callE C Ms tab (ih yv').c (ih yv').m) (ih yv).c (ih yv).m⟩) n

def EOut.es : EOut → ES
  | .norm e => e
  | .exit _ e => e
  | .ret e => e
inductive CorO : EOut → Out → Prop
  | norm {e : ES} {s : St} (h : Cor e s) : CorO (.norm e) (.norm s)
  | exit {id : Nat} {e : ES} {s : St} (h : Cor e s) : CorO (.exit id e) (.exit id s)
  | ret {e : ES} {s : St} (h : Cor e s) : CorO (.ret e) (.ret s)

theorem tmFrom_get {α : Type} : ∀ (xs : List α) (k : Nat) (t : Tr α) (j : Nat), (tmFrom k xs t).get j = if k ≤ j ∧ j < k + xs.length then xs[j - k]? else t.get j := by
  intro xs
  induction xs with
  | nil => intro k t j; rw [if_neg (by simp)]; rfl
  | cons x xs ih =>
    intro k t j
    simp only [tmFrom, ih, Tr.get_put, List.length_cons]
    by_cases h1 : k + 1 ≤ j ∧ j < k + 1 + xs.length
    · rw [if_pos h1, if_pos (by omega)]
      have : j - k = (j - (k + 1)) + 1 := by omega
      rw [this, List.getElem?_cons_succ]
    · rw [if_neg h1]
      by_cases h2 : j = k
      · subst h2; rw [if_pos rfl, if_pos (by omega), Nat.sub_self]; rfl
      · rw [if_neg h2, if_neg (by omega)]
/-- Tables of a program's types and functions. -/
noncomputable def tabI (P : Program) : TypeId → Option TypeInfo := fun t => match (tmFrom 0 P.types.toList .e).get t with
  | some i => some i
  | none => P.info? t
noncomputable def tabJ (P : Program) : FuncId → Option Func := (tmFrom 0 P.funcs.toList .e).get
theorem tab_get {α : Type} (l : List α) (j : Nat) : (tmFrom 0 l (.e : Tr α)).get j = l[j]? := by
  rw [tmFrom_get]
  by_cases h : j < l.length
  · rw [if_pos ⟨Nat.zero_le _, by omega⟩, Nat.sub_zero]
  · rw [if_neg (by omega), List.getElem?_eq_none (by omega)]; rfl
theorem tabI_eq (P : Program) : tabI P = P.info? := by
  funext t
  unfold tabI
  rw [tab_get, Array.getElem?_toList]
  split
  · rename_i i h
    have hlt := (Array.getElem?_eq_some_iff.1 h).1
    unfold Tables.info?
    rw [if_pos hlt, h]
  · rfl
theorem tabJ_eq (P : Program) : tabJ P = fun g => P.funcs[g]? := by
  funext g
  rw [tabJ, tab_get]
  simp
theorem entryE_sound {n : Nat} {args : List AVal} {st : Tr Blk} {ns : Nat} {sto : List Blk} {e : ES} (h : CorS st ns sto) (he : entryE n args st ns = some e) : Cor e (entry n args sto) := by
  unfold entryE at he
  cases hb : Nat.ble args.length n with
  | false => rw [hb] at he; cases he
  | true =>
    rw [hb] at he; cases he
    have hle := Nat.le_of_ble_eq_true hb
    refine ⟨by simp [entry]; omega, fun t => ?_, h⟩
    simp only [ES.tv, tmFrom_get, entry, Tr.get_e, Nat.zero_le, true_and, Nat.zero_add, Nat.sub_zero]
    rw [List.getD_eq_getElem?_getD, List.getElem?_append]
    by_cases h1 : t < args.length
    · rw [if_pos h1, if_pos h1, List.getElem?_eq_getElem h1]; rfl
    · rw [if_neg h1, if_neg h1, List.getElem?_replicate]
      by_cases h2 : t < n
      · have : Nat.blt t n = true := by simpa using h2
        rw [this, if_pos (by omega)]; rfl
      · have : Nat.blt t n = false := by rw [Bool.eq_false_iff]; simp; omega
        rw [this, if_neg (by omega)]; rfl
theorem resAE_sound0 {P : Program} {e : ES} {s : St} (h : Cor e s) (rs : List ResultVar) : resAE (fo P) e rs = resA P s rs := by
  have hv : ∀ r, resVE (fo P) e r = resV P s r := fun r => by
    cases r with
    | tmp t => simp only [resVE, resV, h.tm]
    | cell a t => simp only [resVE, resV, h.tm, h.cs.rd, rdCellsE_eq, layF_eq]
  have hl : ∀ rs, resLE (fo P) e rs = resL P s rs := fun rs => by
    induction rs with
    | nil => rfl
    | cons r rs ih => simp only [resLE, resL, hv, ih]
  unfold resAE resA
  rw [hl]; rfl

theorem resAE_sound {C : Ctx} {e : ES} {s : St} (h : Cor e s) (rs : List ResultVar) : resAE (fpB (cb C)) e rs = resA C.P s rs := by rw [fpB_eq]; exact resAE_sound0 h rs

/-- What is said of functions from outside is so. -/
def XOK (C : Ctx) : Prop := ∀ (f : FuncId) (args : List AVal) (r : AVal) (sto : List Blk), C.XE f args (rd sto) = some r → CallS C f args sto r sto
/-- No function with a body bears the one name that is set apart. -/
def NamesOK (C : Ctx) : Prop := (∀ (g : FuncId) (fn : Func), C.P.funcs[g]? = some fn → fn.body.isSome = true → fn.name ≠ "runtime.NumGoroutine") ∧ XOK C

theorem last_split {l : List Nat} {n : Nat} (h : l.getLast? = some n) : l = l.dropLast ++ [n] := by
  cases l with
  | nil => cases h
  | cons x xs =>
    rw [List.getLast?_eq_some_getLast (by simp)] at h
    cases h
    exact (List.dropLast_concat_getLast (by simp)).symm
theorem hasN_iff : ∀ {l : List Nat} {b : Nat}, hasN l b = true ↔ b ∈ l := by
  intro l
  induction l with
  | nil => intro b; simp [hasN]
  | cons x xs ih =>
    intro b
    simp only [hasN, List.mem_cons]
    cases h : Nat.beq x b with
    | true => have := Nat.eq_of_beq_eq_true h; subst this; simp
    | false => have := Nat.ne_of_beq_eq_false h; simp only [cond_false, ih]; constructor
               · exact .inr
               · rintro (h1 | h1)
                 · exact (this h1.symm).elim
                 · exact h1

section
variable {C : Ctx} {CF : CallRel} {call : CallE} {ops : Array Oper}
/-- What an evaluated call of a loop's yield is. -/
def YvOK (C : Ctx) (yv : YE) : Prop := ∀ y args st ns r st' ns' sto, CorS st ns sto → yv y args st ns = some (r, st', ns') → ∃ sto', C.Y y args sto r sto' ∧ CorS st' ns' sto' ∧ sto.length ≤ sto'.length
theorem stepM_sound (hc : CSound CF call) {yv : YE} (hyv : YvOK C yv) {o : Oper} {e : ES} {s : St} {es : List ES} (h : Cor e s) (ho : stepM (cb C) yv call ops o e = some es) {rest : List Oper} {Q : St → Prop}
    (hk : ∀ e1, e1 ∈ es → ∀ s1, Cor e1 s1 → s.sto.length ≤ s1.sto.length → RunM C CF (fun _ => false) ops rest s1 Q) : RunM C CF (fun _ => false) ops (o :: rest) s Q := by
  have single : singleM (cb C) call ops o e = some es → RunM C CF (fun _ => false) ops (o :: rest) s Q := fun hs => by
    unfold singleM at hs
    split at hs
    · rename_i e1 h1
      cases hs
      obtain ⟨s1, h2, h3, h4⟩ := opE_sound hc h h1
      exact .cons h2 (hk e1 (List.mem_singleton.2 rfl) s1 h3 h4)
    · cases hs
  unfold stepM at ho
  split at ho
  · rename_i hg
    rw [h.guard ops o] at hg
    split at ho
    · rename_i t x hop
      have hop := mKind_range hop
      split at ho
      · rename_i b hx
        rw [h.ev] at hx
        unfold rangeM at ho
        have hmt : mapTF (fpB (cb C)) t = mapT C.P t := by rw [fpB_eq]; rfl
        rw [hmt] at ho
        cases hm : (mapT C.P t).isSome with
        | false => rw [hm] at ho; cases ho
        | true =>
          rw [hm, cond_true] at ho
          split at ho
          · rename_i es0 clock hb
            rw [h.cs.get b] at hb
            split at ho
            · rename_i st ns hw
              split at ho
              · rename_i e1 hp
                cases ho
                have h1 := wrsE_sound _ h.cs hw
                have e2 : wrs s.sto [(e.ns, .miter (.mapr b) clock [] clock)] = s.sto ++ [.miter (.mapr b) clock [] clock] := by simp [wrs, wr1, h.cs.len]
                rw [e2] at h1
                have h2 := h.put h1 hp
                rw [h.cs.len] at h2
                exact .range hg hop hm hx hb (hk _ (List.mem_singleton.2 rfl) _ h2 (by simp))
              · cases ho
            · cases ho
          · cases ho
      · exact single ho
    · rename_i it hop
      have hop := mKind_next hop
      split at ho
      · rename_i b hx
        rw [h.ev] at hx
        unfold nextM at ho
        split at ho
        · rename_i m since seen last hb
          rw [h.cs.get b] at hb
          split at ho
          · rename_i es0 clock hm
            rw [h.cs.get m] at hm
            cases hck : ((es0.all fun p => Nat.blt p.2.2 since) && Nat.ble since last) with
            | false => rw [hck] at ho; cases ho
            | true =>
              rw [hck, cond_true] at ho
              simp only [Bool.and_eq_true, List.all_eq_true] at hck
              have hold : ∀ p, p ∈ es0 → p.2.2 < since := fun p hp => by have := hck.1 p hp; simpa using this
              have hsl := Nat.le_of_ble_eq_true hck.2
              have hblt : b < s.sto.length := (List.getElem?_eq_some_iff.1 hb).1
              have hleft : ∀ p, p ∈ leftM es0 seen ↔ p ∈ es0 ∧ p.2.2 ∉ seen := fun p => by
                unfold leftM
                rw [List.mem_filter]
                simp only [Bool.not_eq_true', ← hasN_iff, Bool.not_eq_true]
              cases hl : (leftM es0 seen).isEmpty with
              | true =>
                rw [hl, cond_true] at ho
                have hnil : leftM es0 seen = [] := List.isEmpty_iff.1 hl
                split at ho
                · rename_i e1 hp
                  cases ho
                  refine .next hg hop hx hb hm hold hsl (fun _ => hk _ (List.mem_singleton.2 rfl) _ (h.put h.cs hp) (Nat.le_refl _)) (fun p h1 h2 => ?_)
                  have := (hleft p).2 ⟨h1, h2⟩
                  rw [hnil] at this; cases this
                · cases ho
              | false =>
                rw [hl, cond_false] at ho
                refine .next hg hop hx hb hm hold hsl (fun hd => ?_) (fun p h1 h2 => ?_)
                · exfalso
                  cases hq : leftM es0 seen with
                  | nil => rw [hq] at hl; cases hl
                  | cons p ps =>
                    have := (hleft p).1 (by rw [hq]; simp)
                    exact this.2 (hd p this.1)
                · obtain ⟨l, h3, h4⟩ := bindM_mem ho p ((hleft p).2 ⟨h1, h2⟩)
                  split at h3
                  · rename_i st ns hw
                    split at h3
                    · rename_i e1 hp
                      cases h3
                      have h5 := wrsE_sound _ h.cs hw
                      have e2 : wrs s.sto [(b, .miter (.mapr m) since (seen ++ [p.2.2]) clock)] = s.sto.set b (.miter (.mapr m) since (seen ++ [p.2.2]) clock) := by simp [wrs, wr1, hblt]
                      rw [e2] at h5
                      exact hk e1 (h4 e1 (List.mem_singleton.2 rfl)) _ (h.put h5 hp) (by simp)
                    · cases h3
                  · cases h3
          · cases ho
        · cases ho
      · cases ho
    · rename_i it hop
      have hop := mKind_entry hop
      split at ho
      · rename_i b hx
        rw [h.ev] at hx
        unfold entryM at ho
        split at ho
        · rename_i m since seen last hb
          rw [h.cs.get b] at hb
          split at ho
          · rename_i es0 clock hm
            rw [h.cs.get m] at hm
            split at ho
            · rename_i n hn
              split at ho
              · rename_i p hp
                cases hck : (Nat.beq last clock && decide ((es0.map (·.2.2)).Nodup)) with
                | false => rw [hck] at ho; cases ho
                | true =>
                  rw [hck, cond_true] at ho
                  simp only [Bool.and_eq_true, decide_eq_true_eq] at hck
                  have e1 := Nat.eq_of_beq_eq_true hck.1
                  subst e1
                  have h9 := List.find?_some hp
                  have e2 : p.2.2 = n := Nat.eq_of_beq_eq_true h9
                  have e3 : seen = seen.dropLast ++ [p.2.2] := by rw [e2]; exact last_split hn
                  split at ho
                  · rename_i e1 hput
                    cases ho
                    rw [e3] at hb
                    exact .entry hg hop hx hb hm (List.mem_of_find?_eq_some hp) hck.2 (hk _ (List.mem_singleton.2 rfl) _ (h.put h.cs hput) (Nat.le_refl _))
                  · cases ho
              · cases ho
            · cases ho
          · cases ho
        · cases ho
      · cases ho
    · rename_i c hop
      have hop := mKind_call hop
      unfold callOrM at ho
      split at ho
      · rename_i f hcl
        cases hy : isYld (e.ev (cb C) f) with
        | false => rw [hy] at ho; exact single ho
        | true =>
          rw [hy, cond_true] at ho
          unfold yieldM at ho
          split at ho
          · rename_i r st ns hyr
            simp only [forceN_eq] at ho
            split at ho
            · rename_i e1 hput
              cases ho
              rw [h.ev] at hyr
              obtain ⟨sto', q1, q2, q3⟩ := hyv _ _ _ _ _ _ _ _ h.cs hyr
              exact .yield hg hop hcl rfl q1 (hk _ (List.mem_singleton.2 rfl) _ (h.put q2 hput) q3)
            · cases ho
          · cases ho
      · exact single ho
    · exact single ho
  · exact single ho

theorem opsM_sound (hc : CSound CF call) {yv : YE} (hyv : YvOK C yv) : ∀ (l : List Oper) {e : ES} {es : List ES} {s : St}, Cor e s → opsM (cb C) yv call ops l e = some es →
    RunM C CF (fun _ => false) ops l s (fun s1 => ∃ e1, e1 ∈ es ∧ Cor e1 s1 ∧ s.sto.length ≤ s1.sto.length) := by
  intro l
  induction l with
  | nil => intro e es s h ho; cases ho; exact .nil ⟨e, List.mem_singleton.2 rfl, h, Nat.le_refl _⟩
  | cons o l ih =>
    intro e es s h ho
    unfold opsM at ho
    split at ho
    · rename_i es1 h1
      refine stepM_sound hc hyv h h1 fun e1 he1 s1 hs1 hle => ?_
      obtain ⟨m, h2, h3⟩ := bindM_mem ho e1 he1
      exact (ih hs1 h2).conseq fun s2 ⟨e2, q1, q2, q3⟩ => ⟨e2, h3 e2 q1, q2, Nat.le_trans hle q3⟩
    · cases ho
end

theorem lowBE_wb {L : Nat} {B : Blk} (h : lowBE L (some B) = true) : WB L B B := by
  have wlr : ∀ {xs : List AVal}, lowRL L xs = true → WL L xs xs := by
    intro xs
    induction xs with
    | nil => intro _; exact .nil
    | cons x xs ih => intro h; simp only [lowRL, Bool.and_eq_true] at h; exact .cons (.refl h.1) (ih h.2)
  cases B with
  | cells t cs => exact .cells (wlr h)
  | buf t sz rows cap => exact .buf
  | nbuf t sz => exact .nbuf
  | iter s pos => exact .iter
  | arr t sz rows => exact .arr (fun r hr => List.all_eq_true.1 h r hr)
  | map es clock => exact .map (fun p hp => by have := List.all_eq_true.1 h p hp; simpa using this)
  | gone => exact .gone _
  | miter mv s se l => cases h

theorem ws_mask {L : Nat} {K : List Nat} : ∀ (sto : List Blk) (k : Nat), (∀ (b : Nat) B, sto[b]? = some B → K.contains (k + b) = true → WB L B B) → WS L sto (maskFrom K k sto) := by
  intro sto
  induction sto with
  | nil => intro k _; exact .nil _
  | cons B bs ih =>
    intro k h
    simp only [maskFrom]
    refine .cons ?_ (ih (k + 1) fun b B' hb hc => h (b + 1) B' (by simpa using hb) (by rw [Nat.add_assoc, Nat.add_comm 1 b] at hc; exact hc))
    by_cases hc : K.contains k = true
    · rw [if_pos hc]; exact h 0 B rfl (by simpa using hc)
    · rw [if_neg hc]; exact .gone _

theorem gcE_sound {args : List AVal} {rs : List ResultVar} {e e2 : ES} {s : St} (h : Cor e s) (hg : gcE args rs e = some e2) (m0 : Nat) (hm : m0 ≤ s.sto.length) : ∃ s2, Weak m0 s s2 ∧ Cor e2 s2 ∧ s2.sto.length = s.sto.length := by
  unfold gcE at hg
  obtain ⟨K, hK⟩ := closE_eq (rdS e.st e.ns) 4000 (refsVL args ++ refsVL ((resRoots rs).map e.tv)) [] (fun K =>
    cond ((K.all fun b => liveE (rdS e.st e.ns b)) && ((K.all fun b => Nat.blt b e.ns && lowBE e.ns (rdS e.st e.ns b)) && ((List.range e.nt).all fun t => lowR e.ns (e.tv t))))
      (some (⟨e.tm, e.nt, subT (rdS e.st e.ns) K .e, e.ns⟩ : ES)) none)
  rw [hK] at hg
  cases hck : ((K.all fun b => liveE (rdS e.st e.ns b)) && ((K.all fun b => Nat.blt b e.ns && lowBE e.ns (rdS e.st e.ns b)) && ((List.range e.nt).all fun t => lowR e.ns (e.tv t)))) with
  | false => rw [hck] at hg; cases hg
  | true =>
    rw [hck, cond_true] at hg
    cases hg
    simp only [Bool.and_eq_true] at hck
    obtain ⟨c1, c2, c3⟩ := hck
    have hlive := liveE_B h.cs c1
    have hlt : ∀ b, b ∈ K → b < s.sto.length := fun b hb => live_lt (liveB_iff (hlive b hb))
    have hlen := h.cs.len
    refine ⟨⟨s.tmps, mask s.sto K⟩, ⟨by rw [mask_length]; exact hm, ?_, ?_⟩, ⟨h.nt, h.tm, subT_mask h.cs hlt⟩, mask_length _ _⟩
    · rw [mask_length]
      have : ∀ (xs : List AVal), (∀ x, x ∈ xs → lowR s.sto.length x = true) → WL s.sto.length xs xs := by
        intro xs
        induction xs with
        | nil => intro _; exact .nil
        | cons x xs ih => intro hx; exact .cons (.refl (hx x (by simp))) (ih fun y hy => hx y (by simp [hy]))
      refine this _ fun x hx => ?_
      obtain ⟨i, hi⟩ := List.mem_iff_getElem?.1 hx
      have hil := (List.getElem?_eq_some_iff.1 hi).1
      have h1 := List.all_eq_true.1 c3 i (by rw [List.mem_range, h.nt]; exact hil)
      rw [h.tm i, List.getD_eq_getElem?_getD, hi, hlen] at h1
      exact h1
    · rw [mask_length]
      refine ws_mask s.sto 0 fun b B hb hc => ?_
      rw [Nat.zero_add] at hc
      have h1 := List.all_eq_true.1 c2 b (by simpa using hc)
      simp only [Bool.and_eq_true] at h1
      have h1 := h1.2
      rw [h.cs.get b, hb, hlen] at h1
      exact lowBE_wb h1

/-- The store that is left behind a collection. -/
theorem gcE_cor {args : List AVal} {rs : List ResultVar} {e e2 : ES} (hg : gcE args rs e = some e2) : CorS e2.st e2.ns ((List.range e2.ns).map fun b => (rdS e2.st e2.ns b).getD .gone) := by
  unfold gcE at hg
  obtain ⟨K, hK⟩ := closE_eq (rdS e.st e.ns) 4000 (refsVL args ++ refsVL ((resRoots rs).map e.tv)) [] (fun K =>
    cond ((K.all fun b => liveE (rdS e.st e.ns b)) && ((K.all fun b => Nat.blt b e.ns && lowBE e.ns (rdS e.st e.ns b)) && ((List.range e.nt).all fun t => lowR e.ns (e.tv t))))
      (some (⟨e.tm, e.nt, subT (rdS e.st e.ns) K .e, e.ns⟩ : ES)) none)
  rw [hK] at hg
  cases hck : ((K.all fun b => liveE (rdS e.st e.ns b)) && ((K.all fun b => Nat.blt b e.ns && lowBE e.ns (rdS e.st e.ns b)) && ((List.range e.nt).all fun t => lowR e.ns (e.tv t)))) with
  | false => rw [hck] at hg; cases hg
  | true =>
    rw [hck, cond_true] at hg
    cases hg
    simp only [Bool.and_eq_true] at hck
    refine ⟨by simp, fun b => ?_⟩
    simp only [List.getElem?_map]
    by_cases hb : b < e.ns
    · rw [List.getElem?_range hb, Option.map_some]
      cases hq : (subT (rdS e.st e.ns) K .e).get b with
      | some B => rw [rdS_some hq]; rfl
      | none => rw [rdS_none hq, if_pos hb]; rfl
    · rw [List.getElem?_eq_none (by simp; omega)]
      have hn : (subT (rdS e.st e.ns) K .e).get b = none := by
        rw [subT_get, if_neg]
        · rfl
        · rintro ⟨h1, _⟩
          have h2 := List.all_eq_true.1 hck.2.1 b h1
          simp only [Bool.and_eq_true] at h2
          have h3 : b < e.ns := by simpa using h2.1
          exact hb h3
      rw [rdS_none hn, if_neg hb]; rfl
theorem noYT_get {B : Blk} : ∀ {t : Tr Blk} {i : Nat}, noYT t = true → t.get i = some B → noYB B = true := by
  intro t
  induction t with
  | e => intro i _ h; cases h
  | n l v r ihl ihr =>
    intro i h hg
    have h : cond (noYT l) (cond (noYO v) (noYT r) false) false = true := h
    cases h1 : noYT l with
    | false => rw [h1] at h; cases h
    | true =>
      rw [h1, cond_true] at h
      cases i with
      | zero =>
        rw [Tr.get_z] at hg
        subst hg
        cases h2 : noYB B with
        | true => rfl
        | false =>
          have h3 : noYO (some B) = false := h2
          rw [h3] at h; cases h
      | succ i =>
        rw [Tr.get_s] at hg
        cases hp : Nat.beq (i % 2) 0 with
        | true => rw [hp] at hg; exact ihl h1 hg
        | false =>
          rw [hp] at hg
          cases h2 : noYO v with
          | false => rw [h2] at h; cases h
          | true => rw [h2] at h; exact ihr h hg
theorem noYT_sto {st : Tr Blk} {ns : Nat} {sto : List Blk} (h : CorS st ns sto) (hn : noYT st = true) : noYS sto = true := by
  refine List.all_eq_true.2 fun B hB => ?_
  obtain ⟨b, hb⟩ := List.mem_iff_getElem?.1 hB
  have := h.get b
  rw [hb] at this
  unfold rdS at this
  split at this
  · rename_i B' hg
    cases this
    exact noYT_get hn hg
  · cases hq : Nat.blt b ns with
    | true => rw [hq] at this; cases this; rfl
    | false => rw [hq] at this; cases this
theorem noY_tmps {e : ES} {s : St} (h : Cor e s) (hn : ((List.range e.nt).all fun t => noY (e.tv t)) = true) : noYL s.tmps = true := by
  have key : ∀ (xs : List AVal), (∀ x, x ∈ xs → noY x = true) → noYL xs = true := by
    intro xs
    induction xs with
    | nil => intro _; rfl
    | cons x xs ih => intro hx; simp only [noYL, Bool.and_eq_true]; exact ⟨hx x List.mem_cons_self, ih fun y hy => hx y (List.mem_cons_of_mem _ hy)⟩
  refine key _ fun x hx => ?_
  obtain ⟨i, hi⟩ := List.mem_iff_getElem?.1 hx
  have hlt := (List.getElem?_eq_some_iff.1 hi).1
  have h1 := List.all_eq_true.1 hn i (by rw [List.mem_range, h.nt]; exact hlt)
  rw [h.tm i, List.getD_eq_getElem?_getD, hi] at h1
  exact h1
theorem endM_cor {P : FP} {args : List AVal} {fn : Func} {e : ES} {r : AVal} {st : Tr Blk} {ns : Nat} (hf : endM P args fn e = some (r, st, ns)) : CorS st ns ((List.range ns).map fun b => (rdS st ns b).getD .gone) := by
  unfold endM at hf
  split at hf
  · rename_i e2 hg
    cases hc : (noYT e2.st && (resRoots fn.results.toList).all fun t => noY (e2.tv t)) with
    | false => rw [hc] at hf; cases hf
    | true =>
      rw [hc, cond_true] at hf
      split at hf
      · cases hf; exact gcE_cor hg
      · cases hf
  · cases hf
theorem finM_cor {P : FP} {args : List AVal} {fn : Func} {eo : EOut} {r : AVal} {st : Tr Blk} {ns : Nat} (hf : finM P args fn eo = some (r, st, ns)) : CorS st ns ((List.range ns).map fun b => (rdS st ns b).getD .gone) := by
  cases eo <;> simp only [finM] at hf
  case norm e => exact endM_cor hf
  case ret e => exact endM_cor hf
  case exit => cases hf

theorem resA_dropY {C : Ctx} {e : ES} {s : St} (h : Cor e s) {rs : List ResultVar} (hn : ((resRoots rs).all fun t => noY (e.tv t)) = true) : resA C.P (dropY s) rs = resA C.P s rs := by
  have ht : ∀ t, noY (e.tv t) = true → (dropY s).tmps.getD t .dead = s.tmps.getD t .dead := fun t hy => by
    rw [h.tm t] at hy
    simp only [dropY, List.getD_eq_getElem?_getD, List.getElem?_map] at hy ⊢
    cases hx : s.tmps[t]? with
    | none => rfl
    | some x => rw [hx] at hy; simp only [Option.map_some, Option.getD_some] at hy ⊢; rw [if_pos hy]
  have hl : ∀ (rs : List ResultVar), ((resRoots rs).all fun t => noY (e.tv t)) = true → resL C.P (dropY s) rs = resL C.P s rs := by
    intro rs
    induction rs with
    | nil => intro _; rfl
    | cons r rs ih =>
      intro hn
      simp only [resRoots, List.map_cons, List.all_cons, Bool.and_eq_true] at hn
      have hv : resV C.P (dropY s) r = resV C.P s r := by
        cases r with
        | tmp t => simp only [resV]; rw [ht t hn.1]
        | cell a t => simp only [resV]; rw [ht a hn.1]; rfl
      simp only [resL, hv, ih hn.2]
  unfold resA
  rw [hl rs hn]
theorem endM_sound {C : Ctx} {args : List AVal} {fn : Func} {e : ES} {s : St} {r : AVal} {st : Tr Blk} {ns : Nat} (sto : List Blk) (hs : Cor e s) (hle : sto.length ≤ s.sto.length) (hf : endM (fpB (cb C)) args fn e = some (r, st, ns)) :
    ∃ s2, CorS st ns s2.sto ∧ Weak sto.length s s2 ∧ noYS s2.sto = true ∧ resA C.P (dropY s2) fn.results.toList = some r ∧ sto.length ≤ s2.sto.length := by
  unfold endM at hf
  split at hf
  · rename_i e2 hg
    cases hc : (noYT e2.st && (resRoots fn.results.toList).all fun t => noY (e2.tv t)) with
    | false => rw [hc] at hf; cases hf
    | true =>
      rw [hc, cond_true] at hf
      simp only [Bool.and_eq_true] at hc
      split at hf
      · rename_i r' hr
        cases hf
        obtain ⟨s2, h1, h2, h3⟩ := gcE_sound hs hg sto.length hle
        rw [resAE_sound h2] at hr
        exact ⟨s2, h2.cs, h1, noYT_sto h2.cs hc.1, by rw [resA_dropY (C := C) h2 hc.2]; exact hr, h1.low⟩
      · cases hf
  · cases hf
theorem finM_sound {C : Ctx} {args : List AVal} {fn : Func} {eo : EOut} {o : Out} {r : AVal} {st : Tr Blk} {ns : Nat} (sto : List Blk) (h : CorO eo o) (hle : sto.length ≤ o.st.sto.length) (hf : finM (fpB (cb C)) args fn eo = some (r, st, ns)) :
    ∃ sto', CorS st ns sto' ∧ EndY C fn sto r sto' o ∧ sto.length ≤ sto'.length := by
  cases h with
  | @norm e s hs =>
    obtain ⟨s2, h1, h2, h3, h4, h5⟩ := endM_sound sto hs hle hf
    exact ⟨_, h1, ⟨s, s2, .inl rfl, .inr h2, h3, h4, rfl⟩, h5⟩
  | @ret e s hs =>
    obtain ⟨s2, h1, h2, h3, h4, h5⟩ := endM_sound sto hs hle hf
    exact ⟨_, h1, ⟨s, s2, .inr rfl, .inr h2, h3, h4, rfl⟩, h5⟩
  | exit hs => simp [finM] at hf

theorem CorS.uniq {st : Tr Blk} {ns : Nat} {sto sto' : List Blk} (h : CorS st ns sto) (h' : CorS st ns sto') : sto = sto' :=
  List.ext_getElem? fun b => by rw [← h.get b, ← h'.get b]

theorem callM_sound' {C : Ctx} (hm : C.P.follows .mixedOrders = true) (hN : NamesOK C) (hYs : YSound C) {rm : Code → ES → Option (List EOut)}
    (hrm : ∀ c e os s m0, rm c e = some os → Cor e s → ExecY C (fun _ => false) m0 c s (fun o => ∃ eo, eo ∈ os ∧ CorO eo o ∧ s.sto.length ≤ o.st.sto.length)) : CSound (CallS C) (callM (cb C) rm) := by
  intro g args st ns r st' ns' sto h hc
  unfold callM at hc
  split at hc
  · rename_i fn hfn
    have hfn : C.P.funcs[g]? = some fn := by have h1 : C.J g = some fn := hfn; rw [C.hJ] at h1; exact h1
    split at hc
    · rename_i c hb
      have hname := hN.1 g fn hfn (by rw [hb]; rfl)
      split at hc
      · rename_i e he
        have hcor := entryE_sound h he
        split at hc
        · rename_i os hos
          have hx := hrm _ _ _ _ sto.length hos hcor
          cases os with
          | nil => simp [joinM] at hc
          | cons o0 rest =>
            split at hc
            · rename_i r0 st0 ns0 hj
              cases hle : Nat.ble ns ns0 with
              | false => rw [hle] at hc; cases hc
              | true =>
                rw [hle] at hc; cases hc
                simp only [joinM] at hj
                split at hj
                · rename_i r1 st1 ns1 hf0
                  cases hall : (rest.all fun o' => (match finM (fpB (cb C)) args fn o' with | some (r', st', ns') => eqV r1 r' && (Nat.beq ns1 ns' && eqT st1 st') | none => false)) with
                  | false => rw [hall] at hj; cases hj
                  | true =>
                    rw [hall] at hj; cases hj
                    have hfin : ∀ eo, eo ∈ o0 :: rest → finM (fpB (cb C)) args fn eo = some (r, st', ns') := fun eo heo => by
                      rcases List.mem_cons.1 heo with rfl | heo
                      · exact hf0
                      · have := List.all_eq_true.1 hall eo heo
                        split at this
                        · rename_i r' st1 ns1 hf1
                          simp only [Bool.and_eq_true] at this
                          rw [hf1, eqV_eq _ _ this.1, Nat.eq_of_beq_eq_true this.2.1, eqT_eq _ _ this.2.2]
                        · cases this
                    have hcs := finM_cor hf0
                    refine ⟨_, ?_, hcs, by have := Nat.le_of_ble_eq_true hle; rw [← h.len, ← hcs.len]; exact this⟩
                    intro E w vs hr hv
                    refine callY_sound hm hYs g args sto r _ ⟨fn, c, fun _ => false, hfn, hb, hname, hx.conseq fun o ⟨eo, h1, h2, h3⟩ => ?_⟩ E w vs hr hv
                    obtain ⟨sto2, g1, g2, g3⟩ := finM_sound sto h2 (by simpa [entry] using h3) (hfin eo h1)
                    rw [g1.uniq hcs] at g2; exact g2
                · cases hj
            · cases hc
        · cases hc
      · cases hc
    · cases hc
  · cases hc

theorem callS_sound {C : Ctx} (hm : C.P.follows .mixedOrders = true) (hN : NamesOK C) (hYs : YSound C) {rc : Code → ES → Option EOut} (hrc : ∀ c e o s m0, rc c e = some o → Cor e s → ∃ o', Exec C (CallS C) (fun _ => false) m0 c s o' ∧ CorO o o' ∧ s.sto.length ≤ o'.st.sto.length) : CSound (CallS C) (callS (cb C) rc) := by
  intro g args st ns r st' ns' sto h hc
  unfold callS at hc
  split at hc
  · rename_i fn hfn
    have hfn : C.P.funcs[g]? = some fn := by have h1 : C.J g = some fn := hfn; rw [C.hJ] at h1; exact h1
    split at hc
    · rename_i c hb
      have hname := hN.1 g fn hfn (by rw [hb]; rfl)
      split at hc
      · rename_i e he
        have hcor := entryE_sound h he
        split at hc
        · rename_i e1 hr1
          split at hc
          · rename_i r' hr2
            cases hc
            obtain ⟨o', h1, h2, h3⟩ := hrc _ _ _ _ sto.length hr1 hcor
            cases h2 with
            | @norm _ s hs =>
              rw [resAE_sound hs] at hr2
              exact ⟨s.sto, fun E w vs hr hv => callM_sound hm hYs callS_sem g args sto r _ ⟨fn, c, fun _ => false, hfn, hb, hname, .one h1 ⟨s, s, r, .inl rfl, .inl rfl, hr2, .inl ⟨rfl, rfl⟩⟩⟩ E w vs hr hv, hs.cs, h3⟩
          · cases hc
        · rename_i e1 hr1
          split at hc
          · rename_i r' hr2
            cases hc
            obtain ⟨o', h1, h2, h3⟩ := hrc _ _ _ _ sto.length hr1 hcor
            cases h2 with
            | @ret _ s hs =>
              rw [resAE_sound hs] at hr2
              exact ⟨s.sto, fun E w vs hr hv => callM_sound hm hYs callS_sem g args sto r _ ⟨fn, c, fun _ => false, hfn, hb, hname, .one h1 ⟨s, s, r, .inr rfl, .inl rfl, hr2, .inl ⟨rfl, rfl⟩⟩⟩ E w vs hr hv, hs.cs, h3⟩
          · cases hc
        · cases hc
      · cases hc
    · cases hc
  · cases hc

theorem lastD_eq : ∀ {l pre : List Oper} {f : Operand}, lastD l = some (pre, f) → ∃ o c, l = pre ++ [o] ∧ o.op = .defer c ∧ c.callee = .value f ∧ c.args = #[] ∧ o.guard = none ∧ o.dst = none := by
  intro l
  induction l with
  | nil => intro pre f h; cases h
  | cons o rest ih =>
    intro pre f h
    cases rest with
    | nil =>
      simp only [lastD] at h
      split at h
      · rename_i c hg hd hop
        split at h
        · rename_i f' hc
          split at h
          · rename_i ha
            simp only [Option.some.injEq, Prod.mk.injEq] at h
            obtain ⟨rfl, rfl⟩ := h
            exact ⟨o, c, rfl, hop, hc, by rw [← Array.toList_inj]; exact ha, hg, hd⟩
          · cases h
        · cases h
      · cases h
    | cons o2 rest =>
      have h : (match lastD (o2 :: rest) with | some (pre, f) => some (o :: pre, f) | none => none) = some (pre, f) := h
      split at h
      · rename_i pre' f' h1
        simp only [Option.some.injEq, Prod.mk.injEq] at h
        obtain ⟨rfl, rfl⟩ := h
        obtain ⟨o', c, h2, h3⟩ := ih h1
        exact ⟨o', c, by rw [h2]; rfl, h3⟩
      · cases h
section
variable {C : Ctx} {rc : Code → ES → Option EOut}
theorem evDf_sound (hrc : ∀ c e o s m0, rc c e = some o → Cor e s → ∃ o', Exec C (CallS C) (fun _ => false) m0 c s o' ∧ CorO o o' ∧ s.sto.length ≤ o'.st.sto.length) : ∀ (n : Nat) (c : Code) (ds : List AVal) (e : ES) (s : St) (ds' : List AVal) (eo : EOut), Cor e s →
    evDf (cb C) rc n c ds e = some (ds', eo) → ∃ o, ExecD C ds c s ds' o ∧ CorO eo o ∧ s.sto.length ≤ o.st.sto.length := by
  intro n
  induction n with
  | zero => intro c ds e s ds' eo _ h; cases h
  | succ n ih =>
    have plain : ∀ {c : Code} {ds : List AVal} {e : ES} {s : St} {ds' : List AVal} {eo : EOut}, Cor e s → (match rc c e with | some o => some (ds, o) | none => none) = some (ds', eo) → ∃ o, ExecD C ds c s ds' o ∧ CorO eo o ∧ s.sto.length ≤ o.st.sto.length := by
      intro c ds e s ds' eo hcor h
      split at h
      · rename_i o ho
        simp only [Option.some.injEq, Prod.mk.injEq] at h
        obtain ⟨rfl, rfl⟩ := h
        obtain ⟨o', h1, h2, h3⟩ := hrc _ _ _ _ s.sto.length ho hcor
        exact ⟨o', .m h1, h2, h3⟩
      · cases h
    intro c ds e s ds' eo hcor h
    unfold evDf at h
    split at h
    · rename_i a b
      split at h
      · rename_i ds1 e1 h1
        obtain ⟨o1, g1, g2, g3⟩ := ih _ _ _ _ _ _ hcor h1
        cases g2 with
        | norm hs =>
          obtain ⟨o2, k1, k2, k3⟩ := ih _ _ _ _ _ _ hs h
          exact ⟨o2, .seqN g1 k1, k2, Nat.le_trans g3 k3⟩
      · rename_i ds1 id e1 h1
        simp only [Option.some.injEq, Prod.mk.injEq] at h
        obtain ⟨rfl, rfl⟩ := h
        obtain ⟨o1, g1, g2, g3⟩ := ih _ _ _ _ _ _ hcor h1
        cases g2 with
        | exit hs => exact ⟨_, .seqX g1, .exit hs, g3⟩
      · rename_i ds1 e1 h1
        simp only [Option.some.injEq, Prod.mk.injEq] at h
        obtain ⟨rfl, rfl⟩ := h
        obtain ⟨o1, g1, g2, g3⟩ := ih _ _ _ _ _ _ hcor h1
        cases g2 with
        | ret hs => exact ⟨_, .seqR g1, .ret hs, g3⟩
      · cases h
    · rename_i id ops
      split at h
      · rename_i pre f hl
        obtain ⟨o, c, h1, h2, h3, h4, h5, h6⟩ := lastD_eq hl
        split at h
        · rename_i e1 he1
          obtain ⟨s1, g1, g2, g3⟩ := opsE_sound (C := C) (CF := CallS C) (fun _ _ _ _ _ _ _ _ _ hx => by cases hx) pre hcor he1
          split at h
          · rename_i g first caps hev
            simp only [Option.some.injEq, Prod.mk.injEq] at h
            obtain ⟨rfl, rfl⟩ := h
            rw [g2.ev] at hev
            exact ⟨.norm s1, .defer h1 h2 h3 h4 h5 h6 g1 hev, .norm g2, g3⟩
          · cases h
        · cases h
      · exact plain hcor h
    · exact plain hcor h
theorem endR_some {P : FP} {fn : Func} {e : ES} {st : Tr Blk} {ns : Nat} (h : endR P fn e = some (st, ns)) : ∃ r, resAE P e fn.results.toList = some r ∧ st = e.st ∧ ns = e.ns := by
  unfold endR at h
  split at h
  · rename_i r hr
    simp only [Option.some.injEq, Prod.mk.injEq] at h
    exact ⟨r, hr, h.1.symm, h.2.symm⟩
  · cases h
theorem callRE_sound (hN : NamesOK C) (hrc : ∀ c e o s m0, rc c e = some o → Cor e s → ∃ o', Exec C (CallS C) (fun _ => false) m0 c s o' ∧ CorO o o' ∧ s.sto.length ≤ o'.st.sto.length) {g : FuncId} {args : List AVal} {st st' : Tr Blk} {ns ns' : Nat} {sto : List Blk}
    (h : CorS st ns sto) (hc : callRE (cb C) rc g args st ns = some (st', ns')) : ∃ sto', CallR C g args sto sto' ∧ CorS st' ns' sto' ∧ sto.length ≤ sto'.length := by
  unfold callRE at hc
  split at hc
  · rename_i fn hfn
    have hfn : C.P.funcs[g]? = some fn := by have h1 : C.J g = some fn := hfn; rw [C.hJ] at h1; exact h1
    split at hc
    · rename_i id ops rest hb
      have hname := hN.1 g fn hfn (by rw [hb]; rfl)
      split at hc
      · rename_i t u hrec
        split at hc
        · rename_i e he
          have hcor := entryE_sound h he
          split at hc
          · rename_i e1 he1
            have h1 := hcor.put hcor.cs he1
            split at hc
            · rename_i e2 he2
              have h2 := h1.put h1.cs he2
              rw [h1.ev] at h2
              have hst : Cor e2 (recSt C fn.ntmps args sto t u) := h2
              split at hc
              · rename_i e3 hr3
                obtain ⟨r, q1, q2, q3⟩ := endR_some hc
                obtain ⟨o', g1, g2, g3⟩ := hrc _ _ _ _ sto.length hr3 hst
                cases g2 with
                | @norm _ s hs =>
                  rw [resAE_sound hs] at q1
                  exact ⟨s.sto, ⟨fn, id, ops, rest, t, u, _, s, r, hfn, hb, hname, hrec, g1, .inl rfl, q1, rfl⟩, by rw [q2, q3]; exact hs.cs, g3⟩
              · rename_i e3 hr3
                obtain ⟨r, q1, q2, q3⟩ := endR_some hc
                obtain ⟨o', g1, g2, g3⟩ := hrc _ _ _ _ sto.length hr3 hst
                cases g2 with
                | @ret _ s hs =>
                  rw [resAE_sound hs] at q1
                  exact ⟨s.sto, ⟨fn, id, ops, rest, t, u, _, s, r, hfn, hb, hname, hrec, g1, .inr rfl, q1, rfl⟩, by rw [q2, q3]; exact hs.cs, g3⟩
              · cases hc
            · cases hc
          · cases hc
        · cases hc
      · cases hc
    · cases hc
  · cases hc
theorem runDE_sound (hN : NamesOK C) (hrc : ∀ c e o s m0, rc c e = some o → Cor e s → ∃ o', Exec C (CallS C) (fun _ => false) m0 c s o' ∧ CorO o o' ∧ s.sto.length ≤ o'.st.sto.length) : ∀ {ds : List AVal} {st st' : Tr Blk} {ns ns' : Nat} {sto : List Blk}, CorS st ns sto →
    runDE (cb C) rc ds st ns = some (st', ns') → ∃ sto', RunDs C ds sto sto' ∧ CorS st' ns' sto' ∧ sto.length ≤ sto'.length := by
  intro ds
  induction ds with
  | nil =>
    intro st st' ns ns' sto h hc
    simp only [runDE, Option.some.injEq, Prod.mk.injEq] at hc
    obtain ⟨rfl, rfl⟩ := hc
    exact ⟨sto, .nil sto, h, Nat.le_refl _⟩
  | cons x ds ih =>
    intro st st' ns ns' sto h hc
    unfold runDE at hc
    split at hc
    · rename_i g first caps
      split at hc
      · rename_i st1 ns1 h1
        obtain ⟨sto1, g1, g2, g3⟩ := callRE_sound hN hrc h h1
        obtain ⟨sto2, k1, k2, k3⟩ := ih g2 hc
        exact ⟨sto2, .cons g1 k1, k2, Nat.le_trans g3 k3⟩
      · cases hc
    · cases hc
theorem endD_sound (hN : NamesOK C) (hrc : ∀ c e o s m0, rc c e = some o → Cor e s → ∃ o', Exec C (CallS C) (fun _ => false) m0 c s o' ∧ CorO o o' ∧ s.sto.length ≤ o'.st.sto.length) {fn : Func} {ds : List AVal} {e : ES} {s : St} {r : AVal} {st' : Tr Blk} {ns' : Nat} (h : Cor e s)
    (hc : endD (cb C) rc fn ds e = some (r, st', ns')) : ∃ sto', RunDs C ds s.sto sto' ∧ CorS st' ns' sto' ∧ s.sto.length ≤ sto'.length ∧ resA C.P ⟨s.tmps, sto'⟩ fn.results.toList = some r := by
  unfold endD at hc
  split at hc
  · rename_i st2 ns2 h1
    obtain ⟨sto2, g1, g2, g3⟩ := runDE_sound hN hrc h.cs h1
    split at hc
    · rename_i r' hr
      simp only [Option.some.injEq, Prod.mk.injEq] at hc
      obtain ⟨rfl, rfl, rfl⟩ := hc
      have hcor : Cor ⟨e.tm, e.nt, st2, ns2⟩ ⟨s.tmps, sto2⟩ := ⟨h.nt, h.tm, g2⟩
      rw [resAE_sound hcor] at hr
      exact ⟨sto2, g1, g2, g3, hr⟩
    · cases hc
  · cases hc
theorem callDE_sound (hm : C.P.follows .mixedOrders = true) (hN : NamesOK C) (hrc : ∀ c e o s m0, rc c e = some o → Cor e s → ∃ o', Exec C (CallS C) (fun _ => false) m0 c s o' ∧ CorO o o' ∧ s.sto.length ≤ o'.st.sto.length) {g : FuncId} {args : List AVal} {st st' : Tr Blk} {ns ns' : Nat} {r : AVal} {sto : List Blk} (h : CorS st ns sto)
    (hc : callDE (cb C) rc g args st ns = some (r, st', ns')) : ∃ sto', CallS C g args sto r sto' ∧ CorS st' ns' sto' ∧ sto.length ≤ sto'.length := by
  unfold callDE at hc
  split at hc
  · rename_i fn hfn
    have hfn : C.P.funcs[g]? = some fn := by have h1 : C.J g = some fn := hfn; rw [C.hJ] at h1; exact h1
    split at hc
    · rename_i c hb
      have hname := hN.1 g fn hfn (by rw [hb]; rfl)
      cases hd : hasD 60 c with
      | false => rw [hd] at hc; cases hc
      | true =>
        rw [hd, cond_true] at hc
        split at hc
        · rename_i e he
          have hcor := entryE_sound h he
          split at hc
          · rename_i ds e1 h1
            obtain ⟨o, g1, g2, g3⟩ := evDf_sound hrc _ _ _ _ _ _ _ hcor h1
            cases g2 with
            | @norm _ s hs =>
              obtain ⟨sto', k1, k2, k3, k4⟩ := endD_sound hN hrc hs hc
              exact ⟨sto', fun E w vs hr hv => callD_sound hm g args sto r sto' ⟨fn, c, ds, _, s, hfn, hb, hname, g1, .inl rfl, k1, k4⟩ E w vs hr hv, k2, Nat.le_trans g3 k3⟩
          · rename_i ds e1 h1
            obtain ⟨o, g1, g2, g3⟩ := evDf_sound hrc _ _ _ _ _ _ _ hcor h1
            cases g2 with
            | @ret _ s hs =>
              obtain ⟨sto', k1, k2, k3, k4⟩ := endD_sound hN hrc hs hc
              exact ⟨sto', fun E w vs hr hv => callD_sound hm g args sto r sto' ⟨fn, c, ds, _, s, hfn, hb, hname, g1, .inr rfl, k1, k4⟩ E w vs hr hv, k2, Nat.le_trans g3 k3⟩
          · cases hc
        · cases hc
    · cases hc
  · cases hc

theorem callSD_sound (hm : C.P.follows .mixedOrders = true) (hN : NamesOK C) (hYs : YSound C) (hrc : ∀ c e o s m0, rc c e = some o → Cor e s → ∃ o', Exec C (CallS C) (fun _ => false) m0 c s o' ∧ CorO o o' ∧ s.sto.length ≤ o'.st.sto.length) : CSound (CallS C) (callSD (cb C) rc) := by
  intro g args st ns r st' ns' sto h hc
  unfold callSD at hc
  split at hc
  · rename_i r' hx
    simp only [Option.some.injEq, Prod.mk.injEq] at hc
    obtain ⟨rfl, rfl, rfl⟩ := hc
    rw [h.rd] at hx
    exact ⟨sto, hN.2 g args r' sto hx, h, Nat.le_refl _⟩
  · split at hc
    · rename_i q hq
      cases hc
      exact callS_sound hm hN hYs hrc g args st ns r st' ns' sto h hq
    · exact callDE_sound hm hN hrc h hc
end

theorem ExecY.of_ev {C : Ctx} {m0 : Nat} {c : Code} {s : St} {o : Out} {eo : EOut} {os : List EOut} (h : Exec C (CallS C) (fun _ => false) m0 c s o) (hc : CorO eo o) (hm : eo ∈ os) (hle : s.sto.length ≤ o.st.sto.length) :
    ExecY C (fun _ => false) m0 c s (fun o => ∃ eo, eo ∈ os ∧ CorO eo o ∧ s.sto.length ≤ o.st.sto.length) := .m (.one h ⟨eo, hm, hc, hle⟩)

/-- Each entry of a table is the call that it says. -/
def TabOK (C : Ctx) (tab : List TE) : Prop := ∀ t, t ∈ tab → ∀ sto, CorS t.st t.ns sto → ∃ sto', CallS C t.g t.args sto t.r sto' ∧ CorS t.st' t.ns' sto' ∧ sto.length ≤ sto'.length
theorem TE.is_eq {t : TE} {g : FuncId} {args : List AVal} {st : Tr Blk} {ns : Nat} (h : t.is g args st ns = true) : t.g = g ∧ t.args = args ∧ t.st = st ∧ t.ns = ns := by
  unfold TE.is at h
  cases h1 : Nat.beq t.g g with
  | false => rw [h1] at h; cases h
  | true =>
    rw [h1, cond_true] at h
    cases h2 : Nat.beq t.ns ns with
    | false => rw [h2] at h; cases h
    | true =>
      rw [h2, cond_true] at h
      cases h3 : eqVL t.args args with
      | false => rw [h3] at h; cases h
      | true =>
        rw [h3, cond_true] at h
        exact ⟨Nat.eq_of_beq_eq_true h1, eqVL_eq _ _ h3, eqT_eq _ _ h, Nat.eq_of_beq_eq_true h2⟩
theorem callT_sound {C : Ctx} {call : CallE} (hc : CSound (CallS C) call) : ∀ {tab : List TE}, TabOK C tab → CSound (CallS C) (callT call tab) := by
  intro tab
  induction tab with
  | nil => intro _; exact hc
  | cons t tab ih =>
    intro ht g args st ns r st' ns' sto h hcall
    simp only [callT] at hcall
    cases hi : t.is g args st ns with
    | true =>
      rw [hi, cond_true] at hcall
      cases hcall
      obtain ⟨rfl, rfl, rfl, rfl⟩ := TE.is_eq hi
      exact ht t List.mem_cons_self sto h
    | false =>
      rw [hi, cond_false] at hcall
      exact ih (fun t ht' => ht t (List.mem_cons_of_mem _ ht')) g args st ns r st' ns' sto h hcall
theorem callE_sound {C : Ctx} (hm : C.P.follows .mixedOrders = true) (hN : NamesOK C) (hYs : YSound C) {Ms : List Nat} {tab : List TE} {rc : Code → ES → Option EOut} {rm : Code → ES → Option (List EOut)}
    (hrc : ∀ c e o s m0, rc c e = some o → Cor e s → ∃ o', Exec C (CallS C) (fun _ => false) m0 c s o' ∧ CorO o o' ∧ s.sto.length ≤ o'.st.sto.length)
    (hrm : ∀ c e os s m0, rm c e = some os → Cor e s → ExecY C (fun _ => false) m0 c s (fun o => ∃ eo, eo ∈ os ∧ CorO eo o ∧ s.sto.length ≤ o.st.sto.length)) (ht : TabOK C tab) : CSound (CallS C) (callE (cb C) Ms tab rc rm) := by
  intro g args st ns r st' ns' sto h hc
  unfold callE at hc
  cases hq : hasN Ms g with
  | false => rw [hq, cond_false] at hc; exact callSD_sound hm hN hYs hrc g args st ns r st' ns' sto h hc
  | true =>
    rw [hq, cond_true] at hc
    split at hc
    · rename_i rds r1 st1 ns1 hl
      cases hc
      obtain ⟨sto1, h1, h2, h3, h4, h5, h6⟩ := lentC_sound (callT_sound (callM_sound' hm hN hYs hrm) ht) h hl
      refine ⟨merge sto rds sto1, fun E w vs hr hv => ?_, h6, by rw [merge_length h3]; exact h3⟩
      exact (call_lent callS_sem hr hv h1 h3 (fun b hb => liveB_iff (List.all_eq_true.1 h2 b (by simpa using hb))) h4 h5).mono fun v w' ⟨E', g1, g2, g3, g4⟩ => ⟨E', g1, g2, g3, g4, by rw [merge_length h3]; exact h3⟩
    · cases hc

theorem CallS.withY {C : Ctx} {Y} {f : FuncId} {args : List AVal} {sto sto' : List Blk} {r : AVal} (h : CallS C f args sto r sto') : CallS { C with Y := Y } f args sto r sto' :=
  fun E w vs hr hv => (h E w vs hr.ofY hv).mono fun v w' ⟨E', h1, h2⟩ => ⟨E', h1.withY, h2⟩
theorem TabOK.withY {C : Ctx} {Y} {tab : List TE} (h : TabOK C tab) : TabOK { C with Y := Y } tab := fun t ht sto hs => by
  obtain ⟨sto', h1, h2⟩ := h t ht sto hs
  exact ⟨sto', h1.withY, h2⟩
theorem cor_start {xs : List AVal} {st : Tr Blk} {ns : Nat} {sto : List Blk} (h : CorS st ns sto) : Cor ⟨tmFrom 0 xs .e, xs.length, st, ns⟩ ⟨xs, sto⟩ := by
  refine ⟨rfl, fun t => ?_, h⟩
  simp only [ES.tv, tmFrom_get, Tr.get_e, Nat.zero_le, true_and, Nat.zero_add, Nat.sub_zero]
  rw [List.getD_eq_getElem?_getD]
  by_cases h1 : t < xs.length
  · rw [if_pos h1, List.getElem?_eq_getElem h1]; rfl
  · rw [if_neg h1, List.getElem?_eq_none (by omega)]
    have : Nat.blt t xs.length = false := by rw [Bool.eq_false_iff]; simp; omega
    simp only [this]; rfl
theorem roundE_sound {C : Ctx} {rc : Code → ES → Option EOut} (hrc : ∀ c e o s m0, rc c e = some o → Cor e s → ∃ o', Exec C (CallS C) (fun _ => false) m0 c s o' ∧ CorO o o' ∧ s.sto.length ≤ o'.st.sto.length) :
    YvOK { C with Y := Round C (CallS C) } (roundE rc) := by
  intro y args st ns r st' ns' sto h hy
  unfold roundE at hy
  split at hy
  · rename_i ps assign body tmps
    cases hl : Nat.beq args.length ps.length with
    | false => rw [hl] at hy; cases hy
    | true =>
      rw [hl, cond_true] at hy
      split at hy
      · rename_i e1 h1
        cases hc : (((List.range e1.nt).all fun t => noY (e1.tv t)) && noYT e1.st) with
        | false => rw [hc] at hy; cases hy
        | true =>
          rw [hc, cond_true] at hy
          simp only [Bool.and_eq_true] at hc
          split at hy
          · rename_i e2 h2
            cases hn : noYT e2.st with
            | false => rw [hn] at hy; cases hy
            | true =>
              rw [hn, cond_true] at hy
              cases hy
              obtain ⟨o1, x1, x2, x3⟩ := hrc _ _ _ _ sto.length h1 (cor_start (xs := setPs tmps ps args) h)
              cases x2 with
              | @norm _ s1 hs1 =>
                obtain ⟨o2, z1, z2, z3⟩ := hrc _ _ _ _ s1.sto.length h2 hs1
                cases z2 with
                | @norm _ s2 hs2 =>
                  exact ⟨s2.sto, ⟨ps, assign, body, tmps, _, _, s1, s2, rfl, Nat.eq_of_beq_eq_true hl, x1, noY_tmps hs1 hc.1, noYT_sto hs1.cs hc.2, z1, noYT_sto hs2.cs hn, rfl, rfl⟩, hs2.cs, Nat.le_trans x3 z3⟩
          · cases hy
      · cases hy
  · cases hy
theorem tmps_list {e : ES} {s : St} (h : Cor e s) : (List.range e.nt).map e.tv = s.tmps := by
  apply List.ext_getElem?
  intro i
  simp only [List.getElem?_map]
  by_cases hi : i < e.nt
  · rw [List.getElem?_range hi, Option.map_some, h.tm i]
    have hlt : i < s.tmps.length := by rw [← h.nt]; exact hi
    rw [List.getD_eq_getElem?_getD, List.getElem?_eq_getElem hlt]; rfl
  · rw [List.getElem?_eq_none (by simp; omega), List.getElem?_eq_none (by rw [← h.nt]; omega)]; rfl

theorem evP_sound {C0 : Ctx} (hm : C0.P.follows .mixedOrders = true) (hN : NamesOK C0) (Ms : List Nat) {tab : List TE} (ht : TabOK C0 tab) : ∀ (n : Nat) (Y : AVal → List AVal → List Blk → AVal → List Blk → Prop) (yv : YE), YSound { C0 with Y := Y } → YvOK { C0 with Y := Y } yv →
    (∀ (c : Code) (e : ES) (o : EOut) (s : St) (m0 : Nat), (evP (cb C0) Ms tab n yv).c c e = some o → Cor e s → ∃ o', Exec { C0 with Y := Y } (CallS { C0 with Y := Y }) (fun _ => false) m0 c s o' ∧ CorO o o' ∧ s.sto.length ≤ o'.st.sto.length) ∧
    (∀ (c : Code) (e : ES) (os : List EOut) (s : St) (m0 : Nat), (evP (cb C0) Ms tab n yv).m c e = some os → Cor e s → ExecY { C0 with Y := Y } (fun _ => false) m0 c s (fun o => ∃ eo, eo ∈ os ∧ CorO eo o ∧ s.sto.length ≤ o.st.sto.length)) := by
  intro n
  induction n with
  | zero => exact fun Y yv _ _ => ⟨fun c e o s m0 h => (by cases h), fun c e o s m0 h => (by cases h)⟩
  | succ n ih0 =>
    intro Y yv hYs hyv
    have ih := ih0 Y yv hYs hyv
    generalize hCq : ({ C0 with Y := Y } : Ctx) = C at ih hYs hyv ⊢
    have hm' : C.P.follows .mixedOrders = true := by subst hCq; exact hm
    have hN' : NamesOK C := by subst hCq; exact ⟨hN.1, fun f args r sto h => (hN.2 f args r sto h).withY⟩
    have ht' : TabOK C tab := by subst hCq; exact ht.withY
    have hcb : cb C = cb C0 := by subst hCq; rfl
    have hcallI : ∀ yv', YvOK { C with Y := Round C (CallS C) } yv' → CSound (CallS { C with Y := Round C (CallS C) }) (callE (cb C) Ms tab (evP (cb C) Ms tab n yv').c (evP (cb C) Ms tab n yv').m) := by
      intro yv' hyv'
      subst hCq
      have hYr := round_sound (C := { C0 with Y := Y }) hm' callS_sem
      obtain ⟨i1, i2⟩ := ih0 (Round { C0 with Y := Y } (CallS { C0 with Y := Y })) yv' hYr hyv'
      exact callE_sound (C := { C0 with Y := Round { C0 with Y := Y } (CallS { C0 with Y := Y }) }) (Ms := Ms) hm' ⟨hN'.1, fun f args r sto h => (hN'.2 f args r sto h).withY⟩ hYr i1 i2 ht.withY
    rw [← hcb] at ih ⊢
    clear hCq ih0 ht hm hN
    have hcall := callE_sound (C := C) (Ms := Ms) hm' hN' hYs ih.1 ih.2 ht'
    have one : ∀ (c : Code) (e : ES) (o : EOut) (s : St) (m0 : Nat), evStep (cb C) (callE (cb C) Ms tab (evP (cb C) Ms tab n yv).c (evP (cb C) Ms tab n yv).m) (evP (cb C) Ms tab n yv).c c e = some o → Cor e s → ∃ o', Exec C (CallS C) (fun _ => false) m0 c s o' ∧ CorO o o' ∧ s.sto.length ≤ o'.st.sto.length := by
      intro c e o s m0 h hcor
      cases c <;> simp only [evStep, evSeq, evCond, evBlock, evLoop] at h
      case skip => cases h; exact ⟨_, .skip s, .norm hcor, Nat.le_refl _⟩
      case label l => cases h; exact ⟨_, .label l s, .norm hcor, Nat.le_refl _⟩
      case exit id => cases h; exact ⟨_, .exit id s, .exit hcor, Nat.le_refl _⟩
      case ret => cases h; exact ⟨_, .ret s, .ret hcor, Nat.le_refl _⟩
      case region id ops b =>
        cases b with
        | false =>
          simp only [evReg] at h
          split at h
          · rename_i e1 h1
            cases h
            obtain ⟨s1, h2, h3, h4⟩ := opsE_sound hcall _ hcor h1
            exact ⟨_, .region h2, .norm h3, h4⟩
          · cases h
        | true =>
          simp only [evDraw] at h
          split at h
          · rename_i il e1 h1
            cases hok : openOK ops il with
            | false => rw [hok] at h; cases h
            | true =>
              rw [hok] at h; cases h
              obtain ⟨s1, h2, h3, h4, h5⟩ := opsDE_sound hcall ops.toList 0 (by simp) (hcor.reserve ops) h1
              rw [hcor.cs.len] at h2
              refine ⟨_, .regionD h2 ?_ hok, .norm h3, ?_⟩
              · rw [h5, List.range_eq_range', Array.length_toList]
              · have : s.sto.length ≤ (reserve ops s).sto.length := by simp [reserve]
                exact Nat.le_trans this h4
          · cases h
      case seq a b =>
        split at h
        · rename_i e1 h1
          obtain ⟨o1, h2, h3, h4⟩ := ih.1 _ _ _ _ m0 h1 hcor
          cases h3 with
          | norm hs =>
            obtain ⟨o2, h5, h6, h7⟩ := ih.1 _ _ _ _ m0 h hs
            exact ⟨o2, .seqN (h2) (h5), h6, Nat.le_trans h4 h7⟩
        · rename_i hne
          obtain ⟨o1, h2, h3, h4⟩ := ih.1 _ _ _ _ m0 h hcor
          cases h3 with
          | norm hs => exact (hne _ h).elim
          | exit hs => exact ⟨_, .seqX (h2), .exit hs, h4⟩
          | ret hs => exact ⟨_, .seqR (h2), .ret hs, h4⟩
      case cond x a b =>
        split at h
        · rename_i t ht
          rw [hcor.ev] at ht
          obtain ⟨o1, h2, h3, h4⟩ := ih.1 _ _ _ _ m0 h hcor
          refine ⟨o1, .cond (t := t) ht ?_, h3, h4⟩
          cases t <;> exact h2
        · cases h
      case block id b =>
        split at h
        · rename_i id' e1 h1
          obtain ⟨o1, h2, h3, h4⟩ := ih.1 _ _ _ _ m0 h1 hcor
          cases h3 with
          | exit hs =>
            cases hid : Nat.beq id' id with
            | true =>
              rw [hid] at h; cases h
              have := Nat.eq_of_beq_eq_true hid
              subst this
              exact ⟨_, .blockX (h2), .norm hs, h4⟩
            | false =>
              rw [hid] at h; cases h
              exact ⟨_, .blockY (Nat.ne_of_beq_eq_false hid) (h2), .exit hs, h4⟩
        · rename_i hne
          obtain ⟨o1, h2, h3, h4⟩ := ih.1 _ _ _ _ m0 h hcor
          cases h3 with
          | norm hs => exact ⟨_, .blockN (h2), .norm hs, h4⟩
          | exit hs => exact (hne _ _ h).elim
          | ret hs => exact ⟨_, .blockR (h2), .ret hs, h4⟩
      case loop b =>
        split at h
        · rename_i e1 h1
          obtain ⟨o1, h2, h3, h4⟩ := ih.1 _ _ _ _ m0 h1 hcor
          cases h3 with
          | norm hs =>
            obtain ⟨o2, h5, h6, h7⟩ := ih.1 _ _ _ _ m0 h hs
            exact ⟨o2, .loopN (h2) (h5), h6, Nat.le_trans h4 h7⟩
        · rename_i hne
          obtain ⟨o1, h2, h3, h4⟩ := ih.1 _ _ _ _ m0 h hcor
          cases h3 with
          | norm hs => exact (hne _ h).elim
          | exit hs => exact ⟨_, .loopX (h2), .exit hs, h4⟩
          | ret hs => exact ⟨_, .loopR (h2), .ret hs, h4⟩
      case scope c =>
        obtain ⟨o1, h2, h3, h4⟩ := ih.1 _ _ _ _ m0 h hcor
        exact ⟨o1, .scope (h2), h3, h4⟩
      all_goals cases h
    refine ⟨one, fun c e os s m0 h0 hcor => ?_⟩
    have h : evMStep (cb C) yv (callE (cb C) Ms tab (evP (cb C) Ms tab n yv).c (evP (cb C) Ms tab n yv).m) (fun yv' => callE (cb C) Ms tab (evP (cb C) Ms tab n yv').c (evP (cb C) Ms tab n yv').m) (evP (cb C) Ms tab n yv).c (evP (cb C) Ms tab n yv).m c e = some os := h0
    clear h0
    have single : (match evStep (cb C) (callE (cb C) Ms tab (evP (cb C) Ms tab n yv).c (evP (cb C) Ms tab n yv).m) (evP (cb C) Ms tab n yv).c c e with | some o => some [o] | none => none) = some os →
        ExecY C (fun _ => false) m0 c s (fun o => ∃ eo, eo ∈ os ∧ CorO eo o ∧ s.sto.length ≤ o.st.sto.length) := fun h => by
      split at h
      · rename_i o1 h1
        cases h
        obtain ⟨o2, h2, h3, h4⟩ := one c e o1 s m0 h1 hcor
        exact .of_ev h2 h3 (List.mem_singleton.2 rfl) h4
      · cases h
    unfold evMStep at h
    split at h
    · rename_i id ops
      unfold evMReg at h
      split at h
      · rename_i es hes
        cases h
        exact .m (.region ((opsM_sound hcall hyv ops.toList hcor hes).conseq fun s1 ⟨e1, h1, h2, h3⟩ => ⟨.norm e1, List.mem_map_of_mem h1, .norm h2, h3⟩))
      · cases h
    · rename_i a b
      unfold evMSeq at h
      split at h
      · rename_i os1 h1
        refine .seq ((ih.2 _ _ _ _ m0 h1 hcor)) (fun s1 ⟨eo, h2, h3, h4⟩ => ?_) (fun id s1 ⟨eo, h2, h3, h4⟩ => ?_) (fun s1 ⟨eo, h2, h3, h4⟩ => ?_)
        · cases h3 with
          | norm hs =>
            obtain ⟨l, h5, h6⟩ := bindM_mem h _ h2
            exact ((ih.2 _ _ _ _ m0 h5 hs)).conseq fun o ⟨eo, q1, q2, q3⟩ => ⟨eo, h6 eo q1, q2, Nat.le_trans h4 q3⟩
        · cases h3 with
          | exit hs =>
            obtain ⟨l, h5, h6⟩ := bindM_mem h _ h2
            cases h5
            exact ⟨_, h6 _ (List.mem_singleton.2 rfl), .exit hs, h4⟩
        · cases h3 with
          | ret hs =>
            obtain ⟨l, h5, h6⟩ := bindM_mem h _ h2
            cases h5
            exact ⟨_, h6 _ (List.mem_singleton.2 rfl), .ret hs, h4⟩
      · cases h
    · rename_i x a b
      unfold evMCond at h
      split at h
      · rename_i t ht
        rw [hcor.ev] at ht
        refine .cond (t := t) ht ?_
        have := (ih.2 _ _ _ _ m0 h hcor)
        cases t <;> exact this
      · cases h
    · rename_i id b
      unfold evMBlock at h
      split at h
      · rename_i os1 h1
        cases h
        refine .block ((ih.2 _ _ _ _ m0 h1 hcor)) fun o ⟨eo, h2, h3, h4⟩ => ?_
        cases h3 with
        | norm hs => exact ⟨_, List.mem_map_of_mem h2, .norm hs, h4⟩
        | ret hs => exact ⟨_, List.mem_map_of_mem h2, .ret hs, h4⟩
        | @exit id' e1 s1 hs =>
          refine ⟨_, List.mem_map_of_mem h2, ?_⟩
          simp only [Out.blk]
          cases hid : Nat.beq id' id with
          | true =>
            have := Nat.eq_of_beq_eq_true hid
            rw [if_pos this]
            exact ⟨.norm hs, h4⟩
          | false =>
            have := Nat.ne_of_beq_eq_false hid
            rw [if_neg this]
            exact ⟨.exit hs, h4⟩
      · cases h
    · rename_i b
      unfold evMLoop at h
      split at h
      · rename_i os1 h1
        refine .loop ((ih.2 _ _ _ _ m0 h1 hcor)) (fun s1 ⟨eo, h2, h3, h4⟩ => ?_) (fun id s1 ⟨eo, h2, h3, h4⟩ => ?_) (fun s1 ⟨eo, h2, h3, h4⟩ => ?_)
        · cases h3 with
          | norm hs =>
            obtain ⟨l, h5, h6⟩ := bindM_mem h _ h2
            exact ((ih.2 _ _ _ _ m0 h5 hs)).conseq fun o ⟨eo, q1, q2, q3⟩ => ⟨eo, h6 eo q1, q2, Nat.le_trans h4 q3⟩
        · cases h3 with
          | exit hs =>
            obtain ⟨l, h5, h6⟩ := bindM_mem h _ h2
            cases h5
            exact ⟨_, h6 _ (List.mem_singleton.2 rfl), .exit hs, h4⟩
        · cases h3 with
          | ret hs =>
            obtain ⟨l, h5, h6⟩ := bindM_mem h _ h2
            cases h5
            exact ⟨_, h6 _ (List.mem_singleton.2 rfl), .ret hs, h4⟩
      · cases h
    · rename_i c
      exact .scope ((ih.2 _ _ _ _ m0 h hcor))
    · rename_i g ps assign body
      unfold evMRange at h
      split at h
      · rename_i gf first caps hg
        rw [hcor.ev] at hg
        split at h
        · rename_i fn hfn
          have hfn : C.P.funcs[gf]? = some fn := by have h1 : C.J gf = some fn := hfn; rw [C.hJ] at h1; exact h1
          cases hc : (fn.body.isSome && (((List.range e.nt).all fun t => noY (e.tv t)) && ((noYL first && noYL caps) && noYT e.st))) with
          | false => rw [hc] at h; cases h
          | true =>
            rw [hc, cond_true] at h
            simp only [Bool.and_eq_true] at hc
            split at h
            · rename_i r st ns hcl
              simp only [forceN_eq] at h
              cases hn : noYT st with
              | false => rw [hn] at h; cases h
              | true =>
                rw [hn, cond_true] at h
                cases h
                rw [tmps_list hcor] at hcl
                obtain ⟨sto', q1, q2, q3⟩ := hcallI _ (roundE_sound ih.1) _ _ _ _ _ _ _ _ hcor.cs hcl
                exact .rangeF hg hfn hc.1 (hN'.1 gf fn hfn hc.1) (noY_tmps hcor hc.2.1) (by simp only [Bool.and_eq_true]; exact hc.2.2.1) (noYT_sto hcor.cs hc.2.2.2) (noYT_sto q2 hn) q1 ⟨_, List.mem_singleton.2 rfl, .norm ⟨hcor.nt, hcor.tm, q2⟩, q3⟩
            · cases h
        · cases h
      · cases h
    · exact single h

/-- A closed call, run: whatever the order of what it steps over. -/
noncomputable def isB (P : FP) (fn : Func) (b : Bool) (o : EOut) : Bool :=
  match o with
  | .norm e => (match resAE P e fn.results.toList with | some (.bool b') => b == b' | _ => false)
  | .ret e => (match resAE P e fn.results.toList with | some (.bool b') => b == b' | _ => false)
  | _ => false
noncomputable def isT (fn : Func) (b : Bool) (e : ES) : Bool :=
  match fn.results.toList with
  | [.tmp t] => (match e.tv t with | .bool b' => b == b' | _ => false)
  | _ => false
noncomputable def isBY (fn : Func) (b : Bool) (o : EOut) : Bool :=
  match o with
  | .norm e => isT fn b e
  | .ret e => isT fn b e
  | _ => false
noncomputable def noneY : YE := fun _ _ _ _ => none
noncomputable def runE (C : CB) (Ms : List Nat) (tab : List TE) (n : Nat) (g : FuncId) (args : List AVal) (b : Bool) : Bool :=
  match C.J g with
  | some fn => (match fn.body with
    | some c => (match entryE fn.ntmps args .e 0 with
      | some e => cond (hasN Ms g) (match (evP C Ms tab n noneY).m c e with | some os => os.all (isBY fn b) | none => false) (match (evP C Ms tab n noneY).c c e with | some o => isB (fpB C) fn b o | none => false)
      | none => false)
    | none => false)
  | none => false
theorem isB_sound {C : Ctx} {fn : Func} {b : Bool} {eo : EOut} {o : Out} (h : isB (fpB (cb C)) fn b eo = true) (hc : CorO eo o) : EndOK C fn [] (.bool b) [] o := by
  cases hc with
  | @norm e s hs =>
    simp only [isB] at h
    split at h
    · rename_i b' hr
      rw [resAE_sound hs] at hr
      have : b = b' := by simpa using h
      subst this
      exact ⟨s, s, .bool b, .inl rfl, .inl rfl, hr, .inr ⟨rfl, rfl, rfl, .refl _, rfl⟩⟩
    · cases h
  | @ret e s hs =>
    simp only [isB] at h
    split at h
    · rename_i b' hr
      rw [resAE_sound hs] at hr
      have : b = b' := by simpa using h
      subst this
      exact ⟨s, s, .bool b, .inr rfl, .inl rfl, hr, .inr ⟨rfl, rfl, rfl, .refl _, rfl⟩⟩
    · cases h
  | exit hs => simp [isB] at h
/-- Nothing is kept but truth values. -/
def keepB : AVal → AVal
  | .bool b => .bool b
  | _ => .dead
theorem isT_sound {C : Ctx} {fn : Func} {b : Bool} {e : ES} {s : St} (hs : Cor e s) (h : isT fn b e = true) : ∃ s2, Weak 0 s s2 ∧ noYS s2.sto = true ∧ resA C.P (dropY s2) fn.results.toList = some (.bool b) ∧ [] = s2.sto := by
  refine ⟨⟨s.tmps.map keepB, []⟩, ⟨Nat.le_refl _, ?_, .nil _⟩, rfl, ?_, rfl⟩
  · have : ∀ xs : List AVal, WL 0 xs (xs.map keepB) := by
      intro xs
      induction xs with
      | nil => exact .nil
      | cons x xs ih => exact .cons (by cases x <;> first | exact .dead _ | exact .refl rfl) ih
    exact this _
  · unfold isT at h
    split at h
    · rename_i t hrs
      split at h
      · rename_i b' ht
        have : b = b' := by simpa using h
        subst this
        rw [hs.tm t, List.getD_eq_getElem?_getD] at ht
        have h2 : (dropY ⟨s.tmps.map keepB, []⟩).tmps.getD t .dead = .bool b := by
          simp only [dropY, List.getD_eq_getElem?_getD, List.getElem?_map]
          cases hx : s.tmps[t]? with
          | none => rw [hx] at ht; cases ht
          | some x => rw [hx] at ht; simp only [Option.getD_some] at ht; subst ht; rfl
        simp only [resA, hrs, resL, resV, h2]; rfl
      · cases h
    · cases h
theorem isBY_sound {C : Ctx} {fn : Func} {b : Bool} {eo : EOut} {o : Out} (h : isBY fn b eo = true) (hc : CorO eo o) : EndY C fn [] (.bool b) [] o := by
  cases hc with
  | @norm e s hs =>
    obtain ⟨s2, h1, h2, h3, h4⟩ := isT_sound (C := C) hs (show isT fn b e = true from h)
    exact ⟨s, s2, .inl rfl, .inr h1, h2, h3, h4⟩
  | @ret e s hs =>
    obtain ⟨s2, h1, h2, h3, h4⟩ := isT_sound (C := C) hs (show isT fn b e = true from h)
    exact ⟨s, s2, .inr rfl, .inr h1, h2, h3, h4⟩
  | exit hs => simp [isBY] at h
theorem noneY_ok {C : Ctx} : YvOK C noneY := fun y args st ns r st' ns' sto _ h => by cases h
theorem runE_sound {C : Ctx} (hm : C.P.follows .mixedOrders = true) (hN : NamesOK C) (hYs : YSound C) {Ms : List Nat} {tab : List TE} (ht : TabOK C tab) {n : Nat} {g : FuncId} {args : List AVal} {b : Bool} (h : runE (cb C) Ms tab n g args b = true) : CallS C g args [] (.bool b) [] := by
  unfold runE at h
  split at h
  · rename_i fn hfn
    have hfn : C.P.funcs[g]? = some fn := by have h1 : C.J g = some fn := hfn; rw [C.hJ] at h1; exact h1
    split at h
    · rename_i c hb
      have hname := hN.1 g fn hfn (by rw [hb]; rfl)
      split at h
      · rename_i e he
        have hcs : CorS .e 0 ([] : List Blk) := ⟨rfl, fun b => by simp only [rdS, Tr.get_e]; rw [Bool.eq_false_iff.2 (show Nat.blt b 0 ≠ true by simp)]; rfl⟩
        have hcor := entryE_sound hcs he
        obtain ⟨hc1, hc2⟩ := evP_sound hm hN Ms ht n C.Y noneY hYs noneY_ok
        cases hq : hasN Ms g with
        | true =>
          rw [hq, cond_true] at h
          split at h
          · rename_i os hos
            have hx := hc2 _ _ _ _ 0 hos hcor
            exact fun E w vs hr hv => callY_sound hm hYs g args [] _ [] ⟨fn, c, fun _ => false, hfn, hb, hname, hx.conseq fun o ⟨eo, h1, h2, h3⟩ => isBY_sound (List.all_eq_true.1 h eo h1) h2⟩ E w vs hr hv
          · cases h
        | false =>
          rw [hq, cond_false] at h
          split at h
          · rename_i o ho
            obtain ⟨o', h1, h2, h3⟩ := hc1 _ _ _ _ 0 ho hcor
            exact fun E w vs hr hv => callM_sound hm hYs callS_sem g args [] _ [] ⟨fn, c, fun _ => false, hfn, hb, hname, .one h1 (isB_sound h h2)⟩ E w vs hr hv
          · cases h
      · cases h
    · cases h
  · cases h
/-! Closed calls that hand back values without memory. -/
theorem view_less0 {sto : List Blk} {d : Nat} {x : AVal} (h : memless0 x = true) : view sto (d + 1) x = x := by cases x <;> first | rfl | cases h
theorem view_less1 {sto : List Blk} {d : Nat} {x : AVal} (h : memless1 x = true) : view sto (d + 2) x = x := by
  cases x with
  | agg cs =>
    have h : cs.all memless0 = true := h
    show AVal.agg (cs.map (view sto (d + 1))) = .agg cs
    congr 1
    have : ∀ l : List AVal, (l.all memless0) = true → l.map (view sto (d + 1)) = l := by
      intro l
      induction l with
      | nil => intro _; rfl
      | cons y ys ih => intro hl; simp only [List.all_cons, Bool.and_eq_true] at hl; rw [List.map_cons, view_less0 hl.1, ih hl.2]
    exact this cs h
  | _ => exact view_less0 h
theorem view_less {sto : List Blk} {x : AVal} (h : memless x = true) : view sto 4 x = x := by
  cases x with
  | tup vs =>
    have h : vs.all memless1 = true := h
    show AVal.tup (vs.map (view sto 3)) = .tup vs
    congr 1
    have : ∀ l : List AVal, (l.all memless1) = true → l.map (view sto 3) = l := by
      intro l
      induction l with
      | nil => intro _; rfl
      | cons y ys ih => intro hl; simp only [List.all_cons, Bool.and_eq_true] at hl; rw [List.map_cons, view_less1 (d := 1) hl.1, ih hl.2]
    exact this vs h
  | _ => exact view_less1 (d := 2) h
theorem noref_less0 {x : AVal} (h : memless0 x = true) : noref x = true := by cases x <;> first | rfl | cases h
theorem norefL_of {xs : List AVal} (h : ∀ x, x ∈ xs → noref x = true) : norefL xs = true := by
  induction xs with
  | nil => rfl
  | cons x xs ih => simp only [norefL, Bool.and_eq_true]; exact ⟨h x List.mem_cons_self, ih fun y hy => h y (List.mem_cons_of_mem _ hy)⟩
theorem noref_less1 {x : AVal} (h : memless1 x = true) : noref x = true := by
  cases x with
  | agg cs => exact norefL_of fun y hy => noref_less0 (List.all_eq_true.1 h y hy)
  | _ => exact noref_less0 h
theorem noref_less {x : AVal} (h : memless x = true) : noref x = true := by
  cases x with
  | tup vs => exact norefL_of fun y hy => noref_less1 (List.all_eq_true.1 h y hy)
  | _ => exact noref_less1 h
noncomputable def isV (P : FP) (fn : Func) (r : AVal) (o : EOut) : Bool :=
  match o with
  | .norm e => (match resAE P e fn.results.toList with | some r' => eqV r' r && memless r' | none => false)
  | .ret e => (match resAE P e fn.results.toList with | some r' => eqV r' r && memless r' | none => false)
  | _ => false
noncomputable def runV (C : CB) (Ms : List Nat) (tab : List TE) (n : Nat) (g : FuncId) (args : List AVal) (r : AVal) : Bool :=
  match C.J g with
  | some fn => (match fn.body with
    | some c => (match entryE fn.ntmps args .e 0 with
      | some e => (match (evP C Ms tab n noneY).c c e with | some o => isV (fpB C) fn r o | none => false)
      | none => false)
    | none => false)
  | none => false
theorem isV_sound {C : Ctx} {fn : Func} {r : AVal} {eo : EOut} {o : Out} (h : isV (fpB (cb C)) fn r eo = true) (hc : CorO eo o) : EndOK C fn [] r [] o := by
  have key : ∀ {r' : AVal}, (eqV r' r && memless r') = true → r' = r ∧ noref r = true ∧ memless r = true := fun {r'} h => by
    simp only [Bool.and_eq_true] at h
    have := eqV_eq _ _ h.1
    subst this
    exact ⟨rfl, noref_less h.2, h.2⟩
  cases hc with
  | @norm e s hs =>
    simp only [isV] at h
    split at h
    · rename_i r' hr
      rw [resAE_sound hs] at hr
      obtain ⟨rfl, h1, h2⟩ := key h
      exact ⟨s, s, r', .inl rfl, .inl rfl, hr, .inr ⟨rfl, rfl, by rw [view_less h2]; exact h1, by rw [view_less h2]; exact .refl _, h1⟩⟩
    · cases h
  | @ret e s hs =>
    simp only [isV] at h
    split at h
    · rename_i r' hr
      rw [resAE_sound hs] at hr
      obtain ⟨rfl, h1, h2⟩ := key h
      exact ⟨s, s, r', .inr rfl, .inl rfl, hr, .inr ⟨rfl, rfl, by rw [view_less h2]; exact h1, by rw [view_less h2]; exact .refl _, h1⟩⟩
    · cases h
  | exit hs => simp [isV] at h
theorem runV_sound {C : Ctx} (hm : C.P.follows .mixedOrders = true) (hN : NamesOK C) (hYs : YSound C) {Ms : List Nat} {tab : List TE} (ht : TabOK C tab) {n : Nat} {g : FuncId} {args : List AVal} {r : AVal} (h : runV (cb C) Ms tab n g args r = true) : CallS C g args [] r [] := by
  unfold runV at h
  split at h
  · rename_i fn hfn
    have hfn : C.P.funcs[g]? = some fn := by have h1 : C.J g = some fn := hfn; rw [C.hJ] at h1; exact h1
    split at h
    · rename_i c hb
      have hname := hN.1 g fn hfn (by rw [hb]; rfl)
      split at h
      · rename_i e he
        have hcs : CorS .e 0 ([] : List Blk) := ⟨rfl, fun b => by simp only [rdS, Tr.get_e]; rw [Bool.eq_false_iff.2 (show Nat.blt b 0 ≠ true by simp)]; rfl⟩
        have hcor := entryE_sound hcs he
        obtain ⟨hc1, hc2⟩ := evP_sound hm hN Ms ht n C.Y noneY hYs noneY_ok
        split at h
        · rename_i o ho
          obtain ⟨o', h1, h2, h3⟩ := hc1 _ _ _ _ 0 ho hcor
          exact fun E w vs hr hv => callM_sound hm hYs callS_sem g args [] _ [] ⟨fn, c, fun _ => false, hfn, hb, hname, .one h1 (isV_sound h h2)⟩ E w vs hr hv
        · cases h
      · cases h
    · cases h
  · cases h
/-- A new entry of a table, run. -/
noncomputable def chkE (C : CB) (Ms : List Nat) (tab : List TE) (n : Nat) (t : TE) : Bool :=
  match callM C (evP C Ms tab n noneY).m t.g t.args t.st t.ns with
  | some (r, st, ns) => eqV t.r r && (Nat.beq t.ns' ns && eqT t.st' st)
  | none => false
theorem TabOK.nil {C : Ctx} : TabOK C [] := fun t h => by cases h
theorem TabOK.cons {C : Ctx} (hm : C.P.follows .mixedOrders = true) (hN : NamesOK C) (hYs : YSound C) {Ms : List Nat} {tab : List TE} {n : Nat} {t : TE} (ht : TabOK C tab) (h : chkE (cb C) Ms tab n t = true) : TabOK C (t :: tab) := by
  intro t' hmem sto hs
  rcases List.mem_cons.1 hmem with rfl | hmem
  · unfold chkE at h
    split at h
    · rename_i r st ns hc
      simp only [Bool.and_eq_true] at h
      obtain ⟨sto', h1, h2, h3⟩ := callM_sound' hm hN hYs (evP_sound hm hN Ms ht n C.Y noneY hYs noneY_ok).2 _ _ _ _ _ _ _ sto hs hc
      rw [← eqV_eq _ _ h.1] at h1
      rw [← Nat.eq_of_beq_eq_true h.2.1, ← eqT_eq _ _ h.2.2] at h2
      exact ⟨sto', h1, h2, h3⟩
    · cases h
  · exact ht t' hmem sto hs

/-- A context in which closed runs of another one are known from outside. -/
theorem outside_sound {C : Ctx} {X : FuncId → List AVal → AVal → Prop} (h : ∀ f args r, X f args r → CallS C f args [] r []) : Sound { C with X := X } (CallN { C with X := X } 0) := by
  intro f args sto r sto' ⟨hs, hs', hx⟩ E w vs hr hv
  subst hs; subst hs'
  exact (h f args r hx E w vs ⟨hr.n, hr.al, hr.cur, hr.okb, hr.inj, hr.blk, hr.glob⟩ hv).mono fun v w' ⟨E', h1, h2⟩ => ⟨E', ⟨h1.n, h1.al, h1.cur, h1.okb, h1.inj, h1.blk, h1.glob⟩, h2⟩

/-! Calls that read memory at most and hand back a value without memory: known once, known everywhere. -/
structure PE where
  g : FuncId
  args : List AVal
  r : AVal
def pvX (gt : Nat → Option Blk) (x : AVal) : Option AVal :=
  match x with
  | .sub b n lo len _ => (match gt b with
    | some (.arr _ sz rows) => if rows.length = n then (if (rows.all fun r => r.all memless0) = true then some (.slc sz ((rows.drop lo).take len) none) else none) else none
    | _ => none)
  | x => if noref x = true then some x else none
def pvXs (gt : Nat → Option Blk) : List AVal → Option (List AVal)
  | [] => some []
  | x :: xs => (match pvX gt x with | some y => (pvXs gt xs).map (y :: ·) | none => none)
def pureE (gt : Nat → Option Blk) (g : FuncId) (args : List AVal) : List PE → Option AVal
  | [] => none
  | t :: l => cond (Nat.beq t.g g) (cond (memless t.r)
      (match pvXs gt args with | some ys => cond (eqVL ys t.args) (some t.r) (pureE gt g args l) | none => pureE gt g args l)
      (cond (norefL args && (noref t.r && eqVL args t.args)) (some t.r) (pureE gt g args l))) (pureE gt g args l)
theorem CallS.withXE {C : Ctx} {XE} {f : FuncId} {args : List AVal} {sto sto' : List Blk} {r : AVal} (h : CallS C f args sto r sto') : CallS { C with XE := XE } f args sto r sto' :=
  fun E w vs hr hv => (h E w vs ⟨hr.n, hr.al, hr.cur, hr.okb, hr.inj, hr.blk, hr.glob⟩ hv).mono fun v w' ⟨E', h1, h2⟩ => ⟨E', ⟨h1.n, h1.al, h1.cur, h1.okb, h1.inj, h1.blk, h1.glob⟩, h2⟩
section
variable {C : Ctx} {E : Env} {sto : List Blk} {w : World}
theorem memless0_cellish {x : AVal} (h : memless0 x = true) (hu : x ≠ .undef) : cellish x = true := by cases x <;> first | rfl | exact (hu rfl).elim | cases h
theorem pvX_sound (hr : Rel C E sto w) {x y : AVal} {v : Value} (hx : V w E x v) (h : pvX (rd sto) x = some y) : PV w (fun k => k < w.heap.size) y v := by
  unfold pvX at h
  split at h
  · rename_i b n lo len cap
    split at h
    · rename_i t0 sz rows hb
      split at h
      · rename_i hn
        split at h
        · rename_i hall
          cases h
          have hb : sto[b]? = some (.arr t0 sz rows) := hb
          obtain ⟨hal, hle, hv⟩ := hx.sub_inv
          obtain ⟨a, c, rfl, ha, hlc, hln, hcc, _⟩ := hv (by rw [hr.cur, curOf_curB hb]; simp [curB, hn])
          cases hr.blk b _ hb with
          | arr _ _ _ vals hg hn' hE hs hl hm h0 hsz hval =>
            have hlen : ((rows.drop lo).take len).length = len := by simp; omega
            have mem : ∀ {r : List AVal}, r ∈ (rows.drop lo).take len → r ∈ rows := fun h => List.mem_of_mem_drop (List.mem_of_mem_take h)
            have less : ∀ {r : List AVal} {x : AVal}, r ∈ rows → x ∈ r → memless0 x = true := fun h1 h2 => List.all_eq_true.1 (List.all_eq_true.1 hall _ h1) _ h2
            have cell : ∀ (i : Nat) r (j : Nat) x, ((rows.drop lo).take len)[i]? = some r → r[j]? = some x → ∃ v, w.cell? (a.add (i * sz + j)) = some v ∧ a.block < w.heap.size ∧ v.oneCell' = true ∧ V w E x v := by
              intro i r j x hi hj
              rw [List.getElem?_take] at hi
              split at hi
              · rename_i hil
                rw [List.getElem?_drop] at hi
                obtain ⟨v, hv1, hv2, hv3⟩ := hval (lo + i) r j x hi hj
                have ha := ha (by omega)
                subst ha
                refine ⟨v, ?_, (Array.getElem?_eq_some_iff.1 hg).1, hv2, hv3⟩
                rw [addr_plain, hE]
                simp only [World.cell?, hg, Option.isSome_none, Bool.false_eq_true, if_false]
                rw [← hv1]
                congr 1
                rw [Nat.add_mul]; omega
              · cases hi
            rw [show Value.slice (some a) len c = .slice (some a) ((rows.drop lo).take len).length c by rw [hlen]]
            refine .slc sz _ none (some a) c (fun i j => (w.cell? (a.add (i * sz + j))).getD default) (fun r hr => hsz r (mem hr)) (fun r hr x hx => ?_) (by omega) (fun k hk => by cases hk) (fun hk => by cases hk) (by omega) (fun i r j x hi hj => ?_) (fun i r j x hi hj => ?_)
            · obtain ⟨i, hi⟩ := List.mem_iff_getElem?.1 hr
              obtain ⟨j, hj⟩ := List.mem_iff_getElem?.1 hx
              obtain ⟨v, _, _, h3, h4⟩ := cell i r j x hi hj
              refine memless0_cellish (less (mem hr) hx) fun e => ?_
              subst e
              rw [h4.undef_inv] at h3
              cases h3
            · obtain ⟨v, h1, h2, _⟩ := cell i r j x hi hj
              exact ⟨a, rfl, h2, by rw [h1]; rfl⟩
            · obtain ⟨v, h1, _, _, h4⟩ := cell i r j x hi hj
              rw [h1]
              exact (h4.pv (noref_less0 (less (mem (List.mem_of_getElem? hi)) (List.mem_of_getElem? hj)))).mono (fun k hk => hr.okb k hk) (fun _ _ => rfl)
        · cases h
      · cases h
    · cases h
  · split at h
    · rename_i hn
      cases h
      exact (hx.pv hn).mono (fun k hk => hr.okb k hk) (fun _ _ => rfl)
    · cases h
theorem pvXs_sound (hr : Rel C E sto w) : ∀ {xs ys : List AVal}, pvXs (rd sto) xs = some ys → ys.length = xs.length ∧ ∀ (i : Nat) y, ys[i]? = some y → ∃ x, xs[i]? = some x ∧ pvX (rd sto) x = some y
  | [], ys, h => by cases h; exact ⟨rfl, fun i y hy => by simp at hy⟩
  | x :: xs, ys, h => by
    unfold pvXs at h
    split at h
    · rename_i y hy
      obtain ⟨zs, hz, rfl⟩ := Option.map_eq_some_iff.1 h
      obtain ⟨h1, h2⟩ := pvXs_sound hr hz
      refine ⟨by simp [h1], fun i u hu => ?_⟩
      cases i with
      | zero => simp at hu; subst hu; exact ⟨x, rfl, hy⟩
      | succ i => simp at hu; simpa using h2 i u hu
    · cases h
theorem call_seen {f : FuncId} {args args' : List AVal} {r : AVal} (hp : pvXs (rd sto) args = some args') (h : CallS C f args' [] r []) (hm : memless r = true) : CallS C f args sto r sto := by
  intro E w vs hr hvl
  obtain ⟨hl, hg⟩ := pvXs_sound hr hp
  have hr0 : Rel C (Env.bare fun k => k < w.heap.size) [] w :=
    ⟨fun _ h => h.elim, fun b h => by (simp [live] at h), fun b => by simp [Env.bare, curOf], fun k hk => hk, fun b _ h => by (simp [live] at h), fun b B h => by simp at h, fun g => (hr.glob g).mono (fun k hk => hr.okb k hk) (fun _ _ => rfl)⟩
  have hv0 : VL w (Env.bare fun k => k < w.heap.size) args' vs := ⟨by rw [hl]; exact hvl.1, fun i y v hy hv => by
    obtain ⟨x, hx, hxy⟩ := hg i y hy
    exact .pure (pvX_sound hr (hvl.2 i x v hx hv) hxy)⟩
  refine (h _ w vs hr0 hv0).mono fun v w' ⟨E', _, h2, h3, _, _⟩ => ?_
  obtain ⟨k1, k2⟩ := rel_fresh hr h3.os h3.tape h3.output h3.size (fun k hk => h3.heap k hk fun b hb => by simp [live] at hb)
  exact ⟨_, k1, .pure (memless_pv hm (h2.pv (noref_less hm))), k2, fun _ h => .inl h, Nat.le_refl _⟩
theorem call_same {f : FuncId} {args : List AVal} {r : AVal} (hn : norefL args = true) (hrn : noref r = true) (h : CallS C f args [] r []) : CallS C f args sto r sto := by
  intro E w vs hr hvl
  have hr0 : Rel C (Env.bare E.ok) [] w :=
    ⟨fun _ h => h.elim, fun b h => by (simp [live] at h), fun b => by simp [Env.bare, curOf], hr.okb, fun b _ h => by (simp [live] at h), fun b B h => by simp at h, hr.glob⟩
  have mem : ∀ {xs : List AVal} {x : AVal}, norefL xs = true → x ∈ xs → noref x = true := by
    intro xs
    induction xs with
    | nil => intro x _ h; cases h
    | cons y ys ih =>
      intro x h hx
      simp only [norefL, Bool.and_eq_true] at h
      rcases List.mem_cons.1 hx with rfl | hx
      · exact h.1
      · exact ih h.2 hx
  have hv0 : VL w (Env.bare E.ok) args vs := ⟨hvl.1, fun i x v hx hv => by
    have h : PV w E.ok x v := (hvl.2 i x v hx hv).pv (mem hn (List.mem_of_getElem? hx))
    exact .pure h⟩
  refine (h _ w vs hr0 hv0).mono fun v w' ⟨E', h1, h2, h3, _, _⟩ => ?_
  obtain ⟨k1, k2⟩ := rel_fresh hr h3.os h3.tape h3.output h3.size (fun k hk => h3.heap k hk fun b hb => by simp [live] at hb)
  refine ⟨_, k1, .pure ((h2.pv hrn).mono (fun k hk => ?_) (fun _ _ => rfl)), k2, fun _ h => .inl h, Nat.le_refl _⟩
  rcases h3.okNew k hk with h | h | ⟨b, hb, _⟩
  · exact .inl h
  · exact .inr ⟨h, h1.okb k hk⟩
  · simp [live] at hb
theorem pureE_sound {g : FuncId} {args : List AVal} {r : AVal} : ∀ {l : List PE}, (∀ t, t ∈ l → CallS C t.g t.args [] t.r []) → pureE (rd sto) g args l = some r → CallS C g args sto r sto
  | [], _, h => by cases h
  | t :: l, hl, h => by
    unfold pureE at h
    have rest : pureE (rd sto) g args l = some r → CallS C g args sto r sto := pureE_sound fun t ht => hl t (List.mem_cons_of_mem _ ht)
    cases hg : Nat.beq t.g g with
    | false => rw [hg] at h; exact rest h
    | true =>
      rw [hg, cond_true] at h
      have h2 := hl t List.mem_cons_self
      cases hm : memless t.r with
      | true =>
        rw [hm, cond_true] at h
        split at h
        · rename_i ys ha
          cases he : eqVL ys t.args with
          | false => rw [he] at h; exact rest h
          | true =>
            rw [he] at h
            cases h
            rw [← eqVL_eq _ _ he, Nat.eq_of_beq_eq_true hg] at h2
            exact call_seen ha h2 hm
        · exact rest h
      | false =>
        rw [hm, cond_false] at h
        cases he : (norefL args && (noref t.r && eqVL args t.args)) with
        | false => rw [he] at h; exact rest h
        | true =>
          rw [he] at h
          cases h
          simp only [Bool.and_eq_true] at he
          rw [← eqVL_eq _ _ he.2.2, Nat.eq_of_beq_eq_true hg] at h2
          exact call_same he.1 he.2.1 h2
end
/-! Calls whose results lie in memory of their own: what they hand back, read through. -/
def mapO {α β : Type} (f : α → Option β) : List α → Option (List β)
  | [] => some []
  | x :: xs => (match f x with | some y => (mapO f xs).map (y :: ·) | none => none)
theorem mapO_some {α β : Type} {f : α → Option β} : ∀ {xs : List α} {ys : List β}, mapO f xs = some ys → ys.length = xs.length ∧ ∀ (i : Nat) y, ys[i]? = some y → ∃ x, xs[i]? = some x ∧ f x = some y
  | [], ys, h => by cases h; exact ⟨rfl, fun i y hy => by simp at hy⟩
  | x :: xs, ys, h => by
    unfold mapO at h
    split at h
    · rename_i y hy
      obtain ⟨zs, hz, rfl⟩ := Option.map_eq_some_iff.1 h
      obtain ⟨h1, h2⟩ := mapO_some hz
      refine ⟨by simp [h1], fun i u hu => ?_⟩
      cases i with
      | zero => simp at hu; subst hu; exact ⟨x, rfl, hy⟩
      | succ i => simp at hu; simpa using h2 i u hu
    · cases h
def pvR (gt : Nat → Option Blk) (d : Nat) : AVal → Option AVal :=
  Nat.rec (motive := fun _ => AVal → Option AVal) (fun _ => none) (fun _ ih x =>
    match x with
    | .sub b n lo len _ => (match gt b with
      | some (.arr _ sz rows) => cond (Nat.beq rows.length n) (match mapO (mapO ih) ((rows.drop lo).take len) with
        | some rows' => cond (rows'.all fun r => r.all cellish) (some (.slc sz rows' none)) none
        | none => none) none
      | _ => none)
    | .csl b off sz len cap => (match gt b with
      | some (.cells _ cs) => cond (Nat.beq sz 1 && (Nat.ble (off + len) cs.length && Nat.ble cap 1000000)) (match mapO ih ((cs.drop off).take len) with
        | some xs => cond (xs.all cellish) (some (.slc 1 (xs.map fun c => [c]) none)) none
        | none => none) none
      | _ => none)
    | .agg cs => (mapO ih cs).map .agg
    | .tup cs => (mapO ih cs).map .tup
    | x => cond (noref x) (some x) none) d
section
variable {C : Ctx} {E : Env} {sto : List Blk} {w : World} {ok : Nat → Prop}
theorem pvR_sound (hr : Rel C E sto w) (hok : ∀ k, E.ok k → ok k) (hlive : ∀ b, live sto b → ok (E.ι b)) : ∀ (d : Nat) {x y : AVal} {v : Value}, V w E x v → pvR (rd sto) d x = some y → PV w ok y v := by
  intro d
  induction d with
  | zero => intro x y v _ h; cases h
  | succ d ih =>
    intro x y v hx h
    have pure : ∀ {x y : AVal} {v : Value}, V w E x v → cond (noref x) (some x) none = some y → PV w ok y v := by
      intro x y v hx h
      cases hn : noref x with
      | false => rw [hn] at h; cases h
      | true => rw [hn] at h; cases h; exact (hx.pv hn).mono hok (fun _ _ => rfl)
    cases x with
    | agg cs =>
      obtain ⟨ys, hy, rfl⟩ := Option.map_eq_some_iff.1 (show (mapO (pvR (rd sto) d) cs).map AVal.agg = some y from h)
      obtain ⟨vs, rfl, hv⟩ := hx.agg_inv
      obtain ⟨h1, h2⟩ := mapO_some hy
      exact .agg ys vs (by rw [h1]; exact hv.1) fun i y u hyi hu => by
        obtain ⟨x, hxi, he⟩ := h2 i y hyi
        exact ih (hv.2 i x u hxi hu) he
    | tup cs =>
      obtain ⟨ys, hy, rfl⟩ := Option.map_eq_some_iff.1 (show (mapO (pvR (rd sto) d) cs).map AVal.tup = some y from h)
      obtain ⟨vs, rfl, hv⟩ := hx.tup_inv
      obtain ⟨h1, h2⟩ := mapO_some hy
      exact .tup ys vs (by rw [h1]; exact hv.1) fun i y u hyi hu => by
        obtain ⟨x, hxi, he⟩ := h2 i y hyi
        exact ih (hv.2 i x u hxi hu) he
    | sub b n lo len cap =>
      replace h : (match rd sto b with
        | some (.arr _ sz rows) => cond (Nat.beq rows.length n) (match mapO (mapO (pvR (rd sto) d)) ((rows.drop lo).take len) with
          | some rows' => cond (rows'.all fun r => r.all cellish) (some (AVal.slc sz rows' none)) none
          | none => none) none
        | _ => none) = some y := h
      split at h
      · rename_i t0 sz rows hb
        have hb : sto[b]? = some (.arr t0 sz rows) := hb
        cases hn : Nat.beq rows.length n with
        | false => rw [hn] at h; cases h
        | true =>
          rw [hn, cond_true] at h
          have hn := Nat.eq_of_beq_eq_true hn
          split at h
          · rename_i rows' hm'
            cases hc : (rows'.all fun r => r.all cellish) with
            | false => rw [hc] at h; cases h
            | true =>
              rw [hc] at h; cases h
              obtain ⟨hal, hle, hv⟩ := hx.sub_inv
              obtain ⟨a, c, rfl, ha, hlc, hln, hcc, _⟩ := hv (by rw [hr.cur, curOf_curB hb]; simp [curB, hn])
              have hlb := hlive b (live_iff.2 ⟨_, hb, rfl⟩)
              cases hr.blk b _ hb with
              | arr _ _ _ vals hg hn' hE hs hl hm h0 hsz hval =>
                obtain ⟨h1, h2⟩ := mapO_some hm'
                have hlen : rows'.length = len := by rw [h1]; simp; omega
                have cell : ∀ (i : Nat) r (j : Nat) y, rows'[i]? = some r → r[j]? = some y → ∃ v, w.cell? (a.add (i * sz + j)) = some v ∧ a.block = E.ι b ∧ PV w ok y v := by
                  intro i r j y hi hj
                  obtain ⟨r0, hr0, hm0⟩ := h2 i r hi
                  obtain ⟨x, hxj, hxy⟩ := (mapO_some hm0).2 j y hj
                  rw [List.getElem?_take] at hr0
                  split at hr0
                  · rename_i hil
                    rw [List.getElem?_drop] at hr0
                    obtain ⟨v, hv1, hv2, hv3⟩ := hval (lo + i) r0 j x hr0 hxj
                    have ha := ha (by omega)
                    subst ha
                    refine ⟨v, ?_, rfl, ih hv3 hxy⟩
                    rw [addr_plain, hE]
                    simp only [World.cell?, hg, Option.isSome_none, Bool.false_eq_true, if_false]
                    rw [← hv1]
                    congr 1
                    rw [Nat.add_mul]; omega
                  · cases hr0
                rw [show Value.slice (some a) len c = .slice (some a) rows'.length c by rw [hlen]]
                refine .slc sz _ none (some a) c (fun i j => (w.cell? (a.add (i * sz + j))).getD default) (fun r hr => ?_) (fun r hr x hx => List.all_eq_true.1 (List.all_eq_true.1 hc r hr) x hx) (by omega) (fun k hk => by cases hk) (fun hk => by cases hk) (by omega) (fun i r j x hi hj => ?_) (fun i r j x hi hj => ?_)
                · obtain ⟨i, hi⟩ := List.mem_iff_getElem?.1 hr
                  obtain ⟨r0, hr0, hm0⟩ := h2 i r hi
                  rw [(mapO_some hm0).1]
                  exact hsz r0 (List.mem_of_mem_drop (List.mem_of_mem_take (List.mem_of_getElem? hr0)))
                · obtain ⟨v, h1, h2, _⟩ := cell i r j x hi hj
                  exact ⟨a, rfl, by rw [h2]; exact hlb, by rw [h1]; rfl⟩
                · obtain ⟨v, h1, _, h4⟩ := cell i r j x hi hj
                  rw [h1]; exact h4
          · cases h
      · cases h
    | csl b off sz len cap =>
      replace h : (match rd sto b with
        | some (.cells _ cs) => cond (Nat.beq sz 1 && (Nat.ble (off + len) cs.length && Nat.ble cap 1000000)) (match mapO (pvR (rd sto) d) ((cs.drop off).take len) with
          | some xs => cond (xs.all cellish) (some (AVal.slc 1 (xs.map fun c => [c]) none)) none
          | none => none) none
        | _ => none) = some y := h
      split at h
      · rename_i t0 cs hb
        have hb : sto[b]? = some (.cells t0 cs) := hb
        cases hn : (Nat.beq sz 1 && (Nat.ble (off + len) cs.length && Nat.ble cap 1000000)) with
        | false => rw [hn] at h; cases h
        | true =>
          rw [hn, cond_true] at h
          simp only [Bool.and_eq_true] at hn
          have hsz := Nat.eq_of_beq_eq_true hn.1
          have hfit := Nat.le_of_ble_eq_true hn.2.1
          have hcb := Nat.le_of_ble_eq_true hn.2.2
          subst hsz
          split at h
          · rename_i xs hm'
            cases hc : xs.all cellish with
            | false => rw [hc] at h; cases h
            | true =>
              rw [hc] at h; cases h
              obtain ⟨hal, hcur, rfl, hlc⟩ := hx.csl_inv
              have hlb := hlive b (live_iff.2 ⟨_, hb, rfl⟩)
              obtain ⟨h1, h2⟩ := mapO_some hm'
              have hlen : (xs.map fun c => [c]).length = len := by rw [List.length_map, h1, List.length_take, List.length_drop]; omega
              cases hr.blk b _ hb with
              | cells _ _ vals hg hn' hs hv =>
                have cell : ∀ (i : Nat) r (j : Nat) y, (xs.map fun c => [c])[i]? = some r → r[j]? = some y → ∃ v, w.cell? ((⟨E.ι b, off, none⟩ : Addr).add (i * 1 + j)) = some v ∧ PV w ok y v := by
                  intro i r j y hi hj
                  rw [List.getElem?_map] at hi
                  cases hxi : xs[i]? with
                  | none => rw [hxi] at hi; cases hi
                  | some z =>
                    rw [hxi] at hi; cases hi
                    cases j with
                    | succ j => simp at hj
                    | zero =>
                      simp at hj; subst hj
                      obtain ⟨x, hx0, hxy⟩ := h2 i z hxi
                      rw [List.getElem?_take] at hx0
                      split at hx0
                      · rw [List.getElem?_drop] at hx0
                        have hlt : off + i < vals.size := by rw [hs]; exact (List.getElem?_eq_some_iff.1 hx0).1
                        refine ⟨vals[off + i], ?_, ih (hv _ _ _ hx0 (Array.getElem?_eq_getElem hlt)) hxy⟩
                        rw [addr_plain]
                        simp only [World.cell?, hg, Option.isSome_none, Bool.false_eq_true, if_false, Nat.mul_one, Nat.add_zero]
                        exact Array.getElem?_eq_getElem hlt
                      · cases hx0
                rw [show Value.slice (some ⟨E.ι b, off, none⟩) len cap = .slice (some ⟨E.ι b, off, none⟩) (xs.map fun c => [c]).length cap by rw [hlen]]
                refine .slc 1 _ none (some ⟨E.ι b, off, none⟩) cap (fun i j => (w.cell? ((⟨E.ι b, off, none⟩ : Addr).add (i * 1 + j))).getD default) (fun r hr => ?_) (fun r hr x hx => ?_) (by rw [hlen]; exact hlc) (fun k hk => by cases hk) (fun hk => by cases hk) (by simp only [maxLen]; omega) (fun i r j x hi hj => ?_) (fun i r j x hi hj => ?_)
                · obtain ⟨c, _, rfl⟩ := List.mem_map.1 hr; rfl
                · obtain ⟨c, hc', rfl⟩ := List.mem_map.1 hr
                  rw [List.mem_singleton.1 hx]
                  exact List.all_eq_true.1 hc c hc'
                · obtain ⟨v, h1, _⟩ := cell i r j x hi hj
                  exact ⟨_, rfl, hlb, by rw [h1]; rfl⟩
                · obtain ⟨v, h1, h4⟩ := cell i r j x hi hj
                  rw [h1]; exact h4
          · cases h
      · cases h
    | _ => exact pure hx h
/-- What a call hands back lies in memory that it made: read through, it is known without it. -/
theorem call_given {C : Ctx} {g : FuncId} {args : List AVal} {r0 r : AVal} {sto' : List Blk} {d : Nat} (h : CallS C g args [] r0 sto') (hp : pvR (rd sto') d r0 = some r) : CallS C g args [] r [] := by
  intro E w vs hr hvl
  refine (h E w vs hr hvl).mono fun v w' ⟨E', h1, h2, h3, _, _⟩ => ?_
  have hl : ∀ b, live sto' b → w.heap.size ≤ E'.ι b ∧ E'.ι b < w'.heap.size := fun b hb => by
    refine ⟨?_, ?_⟩
    · rcases h3.own b hb with ⟨h4, _⟩ | h4
      · simp [live] at h4
      · exact h4
    · exact (h1.liveBlk hb).2
  have key := pvR_sound (ok := fun k => E.ok k ∨ (w.heap.size ≤ k ∧ k < w'.heap.size)) h1 (fun k hk => by
    rcases h3.okNew k hk with h4 | h4 | ⟨b, h4, _⟩
    · exact .inl h4
    · exact .inr ⟨h4, h1.okb k hk⟩
    · simp [live] at h4) (fun b hb => .inr (hl b hb)) d h2 hp
  obtain ⟨k1, k2⟩ := rel_fresh hr h3.os h3.tape h3.output h3.size (fun k hk => h3.heap k hk fun b hb => by simp [live] at hb)
  exact ⟨_, k1, .pure key, k2, fun _ h => .inl h, Nat.le_refl _⟩
end
noncomputable def runR (K : CB) (Ms : List Nat) (n : Nat) (g : FuncId) (args : List AVal) (r : AVal) : Bool :=
  match callE K Ms [] (evP K Ms [] n noneY).c (evP K Ms [] n noneY).m g args .e 0 with
  | some (r0, st, ns) => (match pvR (rdS st ns) 8 r0 with | some r' => eqV r' r | none => false)
  | none => false
theorem runR_sound {C : Ctx} (hm : C.P.follows .mixedOrders = true) (hN : NamesOK C) (hYs : YSound C) {Ms : List Nat} {n : Nat} {g : FuncId} {args : List AVal} {r : AVal} (h : runR (cb C) Ms n g args r = true) : CallS C g args [] r [] := by
  unfold runR at h
  split at h
  · rename_i r0 st ns hc
    split at h
    · rename_i r' hp
      rw [← eqV_eq _ _ h]
      have hcs : CorS .e 0 ([] : List Blk) := ⟨rfl, fun b => by simp only [rdS, Tr.get_e]; rw [Bool.eq_false_iff.2 (show Nat.blt b 0 ≠ true by simp)]; rfl⟩
      obtain ⟨hc1, hc2⟩ := evP_sound hm hN Ms (tab := []) (fun t ht => by cases ht) n C.Y noneY hYs noneY_ok
      obtain ⟨sto', h1, h2, _⟩ := callE_sound hm hN hYs hc1 hc2 (fun t ht => by cases ht) _ _ _ _ _ _ _ [] hcs hc
      rw [h2.rd] at hp
      exact call_given h1 hp
    · cases h
  · cases h
end Go.Proofs.YtaajfbcopafkaaaGreatDoor.Ai
