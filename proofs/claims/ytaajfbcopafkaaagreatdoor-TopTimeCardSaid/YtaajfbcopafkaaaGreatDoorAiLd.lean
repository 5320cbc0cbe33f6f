/- Lending, giving up, calling. Operations and code: an abstract run is a run of the model. What an operation reads: with more of the store in sight it does the same. Regions whose order is open. Code and calls: what runs over abstract values runs in the model. Own work of this seat. -/
import Derived.Test.YtaajfbcopafkaaaGreatDoorAiLy
import Derived.Scope
import Derived.Maps.RangeRun
import Derived.OrdersIn
import Derived.RangeFuncLeaves
import Derived.RangeFuncRecord
namespace Go.Proofs.YtaajfbcopafkaaaGreatDoor.Ai
open Go
set_option linter.unusedVariables false
set_option linter.unusedSimpArgs false

section
variable {z0 : Z} {dz : List Deferred} {ro : Option Nat}
variable {C : Ctx} {E : Env} {sto : List Blk} {w w' : World}

/-- The world has grown; more may be read. -/
theorem rel_ok (hr : Rel C E sto w) (ok' : Nat → Prop) (hos : w'.os = w.os) (htape : w'.tape = w.tape) (hout : w'.output = w.output) (hs : w.heap.size ≤ w'.heap.size) (hold : ∀ k, k < w.heap.size → w'.heap[k]? = w.heap[k]?)
    (h1 : ∀ k, E.ok k → ok' k) (h2 : ∀ k, ok' k → E.ok k ∨ w.heap.size ≤ k) (h3 : ∀ k, ok' k → k < w'.heap.size) : Rel C { E with ok := ok' } sto w' ∧ Step E sto w { E with ok := ok' } sto w' := by
  have hst : Step E sto w { E with ok := ok' } sto w' :=
    ⟨hos, htape, hout, hs, h1, fun k hk => (h2 k hk).imp id .inl, fun k hk _ => hold k hk, fun _ h => h, fun _ h => .inl ⟨h, rfl⟩, fun _ _ h => ⟨h, rfl⟩,
      fun _ m _ h => .inr ⟨m, h, Nat.le_refl _, rfl, fun _ => ⟨rfl, rfl, rfl⟩⟩⟩
  refine ⟨⟨hr.n, hr.al, hr.cur, h3, hr.inj, fun b B hB => ?_, fun g => glob_step hr hst g⟩, hst⟩
  have hv : ∀ {x : AVal} {v : Value}, V w E x v → V w' { E with ok := ok' } x v := fun h => h.step hr hst
  have hp : ∀ {x : AVal} {v : Value}, PV w E.ok x v → PV w' ok' x v := fun h => h.mono h1 (Step.okHeap hr hst)
  have hn : ∀ k, k < w.heap.size → ¬ E.ok k → ¬ ok' k := fun k hk h h' => (h2 k h').elim h (fun h => by omega)
  cases hr.blk b B hB with
  | cells t cs vals h1 h2 h3 h4 =>
    have hlt := (Array.getElem?_eq_some_iff.1 h1).1
    exact .cells t cs vals ((hold _ hlt).trans h1) (hn _ hlt h2) h3 (fun i x v hx hv' => hv (h4 i x v hx hv'))
  | buf t sz rows cap vals h1 h2 h3 hh h4 h5 h6 h7 h8 h9 h10 h11 =>
    have hlt := (Array.getElem?_eq_some_iff.1 h1).1
    exact .buf t sz rows cap vals ((hold _ hlt).trans h1) (hn _ hlt h2) h3 hh h4 h5 h6 h7 h8 h9 h10 (fun i r j x hi hj => let ⟨v, hv1, hv2⟩ := h11 i r j x hi hj; ⟨v, hv1, hp hv2⟩)
  | iter s pos sb hsb h1 h2 =>
    have hlt := (Array.getElem?_eq_some_iff.1 h1).1
    exact .iter s pos sb hsb ((hold _ hlt).trans h1) (hn _ hlt h2)
  | arr t sz rows vals h1 h2 h3 h4 h5 h6 h8 h9 h11 =>
    have hlt := (Array.getElem?_eq_some_iff.1 h1).1
    exact .arr t sz rows vals ((hold _ hlt).trans h1) (hn _ hlt h2) h3 h4 h5 h6 h8 h9 (fun i r j x hi hj => let ⟨v, hv1, hv2, hv3⟩ := h11 i r j x hi hj; ⟨v, hv1, hv2, hv hv3⟩)
  | map es ents clock h1 h2 h3 h4 =>
    have hlt := (Array.getElem?_eq_some_iff.1 h1).1
    exact .map es ents clock ((hold _ hlt).trans h1) (hn _ hlt h2) h3 (fun i p ent hx hv' => ⟨hv (h4 i p ent hx hv').1, hv (h4 i p ent hx hv').2.1, (h4 i p ent hx hv').2.2⟩)
  | miter mv mr s se l h0 h1 h2 =>
    have hlt := (Array.getElem?_eq_some_iff.1 h1).1
    exact .miter mv mr s se l (hv h0) ((hold _ hlt).trans h1) (hn _ hlt h2)
  | nbuf t sz h1 h2 => exact .nbuf t sz h1 h2
  | gone => exact .gone

theorem memless0_pv {ok ok' : Nat → Prop} {x : AVal} {v : Value} (hm : memless0 x = true) (h : PV w ok x v) : PV w' ok' x v := by
  cases h with
  | int k n => exact .int k n
  | bool b => exact .bool b
  | str s l h => exact .str s l h
  | nilptr => exact .nilptr
  | nilfunc => exact .nilfunc
  | nilif => exact .nilif
  | nilmap => exact .nilmap
  | undef => exact .undef
  | _ => simp [memless0] at hm

theorem memless1_pv {ok ok' : Nat → Prop} {x : AVal} {v : Value} (hm : memless1 x = true) (h : PV w ok x v) : PV w' ok' x v := by
  cases x with
  | agg cs =>
    cases h with
    | agg _ vs h1 h2 =>
      simp only [memless1, List.all_eq_true] at hm
      exact .agg _ _ h1 (fun i x v hx hv => memless0_pv (hm x (List.mem_of_getElem? hx)) (h2 i x v hx hv))
  | _ => exact memless0_pv hm h

theorem memless_pv {ok ok' : Nat → Prop} {x : AVal} {v : Value} (hm : memless x = true) (h : PV w ok x v) : PV w' ok' x v := by
  cases x with
  | tup cs =>
    cases h with
    | tup _ vs h1 h2 =>
      simp only [memless, List.all_eq_true] at hm
      exact .tup _ _ h1 (fun i x v hx hv => memless1_pv (hm x (List.mem_of_getElem? hx)) (h2 i x v hx hv))
  | _ => exact memless1_pv hm h

theorem view_norefL {xs : List AVal} {f : AVal → AVal} (h : norefL (xs.map f) = true) : ∀ x, x ∈ xs → noref (f x) = true := fun x hx => norefL_mem h (f x) (List.mem_map_of_mem hx)

theorem mem_flatten_map {xs : List AVal} {f : AVal → List Nat} {x : AVal} (hx : x ∈ xs) {b : Nat} (hb : b ∈ f x) : b ∈ (xs.map f).flatten := List.mem_flatten.2 ⟨f x, List.mem_map_of_mem hx, hb⟩

/-- What is looked at with the store given up. -/
theorem view_sound (hr : Rel C E sto w) (bs : List Nat) : ∀ (d : Nat) (x : AVal) (v : Value), V w E x v → (∀ b, b ∈ refsOf sto d x → b ∈ bs) → noref (view sto d x) = true → PV w (E.give sto bs).ok (view sto d x) v := by
  intro d
  induction d with
  | zero => intro x v _ _ hn; simp [view, noref] at hn
  | succ d ih =>
    intro x v hv hb hn
    have pure : ∀ {x : AVal}, PV w E.ok x v → PV w (E.give sto bs).ok x v := fun h => h.mono (fun _ h => .inl h) (fun _ _ => rfl)
    have lst : ∀ (xs : List AVal) (vs : Array Value), VL w E xs vs → (∀ b, b ∈ (xs.map (refsOf sto d)).flatten → b ∈ bs) → norefL (xs.map (view sto d)) = true →
        vs.size = (xs.map (view sto d)).length ∧ ∀ (i : Nat) x v, (xs.map (view sto d))[i]? = some x → vs[i]? = some v → PV w (E.give sto bs).ok x v := by
      intro xs vs hvl hb hn
      refine ⟨by rw [List.length_map]; exact hvl.1, fun i x v hx hv => ?_⟩
      rw [List.getElem?_map] at hx
      cases hxi : xs[i]? with
      | none => rw [hxi] at hx; cases hx
      | some y =>
        rw [hxi] at hx; cases hx
        have hy := List.mem_of_getElem? hxi
        exact ih y v (hvl.2 i y v hxi hv) (fun b hb' => hb b (mem_flatten_map hy hb')) (view_norefL hn y hy)
    cases x with
    | bsl b n =>
      obtain ⟨hal, hle, hval⟩ := hv.bsl_inv
      have hbm : b ∈ bs := hb b (by simp [refsOf])
      simp only [view] at hn ⊢
      split at hn
      · rename_i t0 sz rows cap hbb
        split at hn
        · rename_i hlen
          have hval := hval (by rw [hr.cur, curOf_curB hbb]; simp [curB, hlen])
          subst hval
          simp only [hlen, if_true]
          have hlive : live sto b := live_iff.2 ⟨_, hbb, rfl⟩
          rw [← hlen]
          cases hr.blk b _ hbb with
          | buf _ _ _ _ vals hg hn' hE hh hs hl hm hcap h0 hsz hcell hvv =>
            rw [hh]
            refine .slc sz rows cap _ (E.cap b) (fun i j => vals.getD (i * sz + j) undef) hsz hcell hl (fun k hk => hcap k hk) (fun h => by cases h) hm (fun i r j x hi hj => ?_) (fun i r j x hi hj => ?_)
            · obtain ⟨v, hv1, hv2⟩ := hvv i r j x hi hj
              refine ⟨_, rfl, .inr ⟨b, hbm, hlive, rfl⟩, ?_⟩
              rw [addr_plain]
              simp only [World.cell?, hg, Option.isSome_none, Bool.false_eq_true, if_false]
              simp [hv1]
            · obtain ⟨v, hv1, hv2⟩ := hvv i r j x hi hj
              have : vals.getD (i * sz + j) undef = v := by simp [hv1]
              rw [this]
              exact hv2.mono (fun _ h => .inl h) (fun _ _ => rfl)
        · simp [noref] at hn
      · rename_i t0 sz hbb
        split at hn
        · rename_i hlen
          have hval := hval (by rw [hr.cur, curOf_curB hbb]; simp [curB, hlen])
          subst hval
          simp only [hlen, if_true]
          cases hr.blk b _ hbb with
          | nbuf _ _ hc _ => rw [hc]; exact nil_pv
        · simp [noref] at hn
      · simp [noref] at hn
    | ptr b off =>
      obtain ⟨rfl, hal, hcur⟩ := hv.ptr_inv
      have hbm : b ∈ bs := hb b (by simp [refsOf])
      simp only [view] at hn ⊢
      split at hn
      · rename_i t0 cs hbb
        split at hn
        · rename_i hall
          rw [if_pos hall]
          have hlive : live sto b := live_iff.2 ⟨_, hbb, rfl⟩
          cases hr.blk b _ hbb with
          | cells _ _ vals hg hn' hs hvv =>
            have hin : ∀ (j : Nat) x, ((cs.map (view sto d)).drop off)[j]? = some x → ∃ y v, cs[off + j]? = some y ∧ vals[off + j]? = some v ∧ x = view sto d y ∧ PV w (E.give sto bs).ok x v := by
              intro j x hj
              rw [List.getElem?_drop, List.getElem?_map] at hj
              cases hy : cs[off + j]? with
              | none => rw [hy] at hj; cases hj
              | some y =>
                rw [hy] at hj; cases hj
                have hlt : off + j < vals.size := by rw [hs]; exact (List.getElem?_eq_some_iff.1 hy).1
                have hym := List.mem_of_getElem? hy
                refine ⟨y, vals[off + j], rfl, Array.getElem?_eq_getElem hlt, rfl, ?_⟩
                refine ih y _ (hvv _ y _ hy (Array.getElem?_eq_getElem hlt)) (fun b' hb' => hb b' ?_) ?_
                · simp only [refsOf, hbb, List.mem_cons]
                  exact .inr (mem_flatten_map hym hb')
                · have := List.all_eq_true.1 hall (view sto d y) (List.mem_map_of_mem hym)
                  simp only [Bool.and_eq_true] at this
                  exact this.2
            refine .rptr _ _ (fun j => vals.getD (off + j) undef) (.inr ⟨b, hbm, hlive, rfl⟩) (fun x hx => ?_) (fun j x hj => ?_) (fun j x hj => ?_)
            · have := List.all_eq_true.1 hall x (List.mem_of_mem_drop hx)
              simp only [Bool.and_eq_true] at this
              exact this.1
            · obtain ⟨y, v, _, hv2, _, _⟩ := hin j x hj
              rw [addr_plain]
              simp only [World.cell?, hg, Option.isSome_none, Bool.false_eq_true, if_false]
              simp [hv2]
            · obtain ⟨y, v, _, hv2, _, hpv⟩ := hin j x hj
              have : vals.getD (off + j) undef = v := by simp [hv2]
              rw [this]; exact hpv
        · simp [noref] at hn
      · simp [noref] at hn
    | eptr b n i j => simp [view, noref] at hn
    | sub b n l k c => simp [view, noref] at hn
    | csl b n l k c => simp [view, noref] at hn
    | mapr b => simp [view, noref] at hn
    | agg cs =>
      obtain ⟨vs, rfl, hvl⟩ := hv.agg_inv
      simp only [view, noref] at hn ⊢
      obtain ⟨h1, h2⟩ := lst cs vs hvl (fun b hb' => hb b (by simpa [refsOf] using hb')) hn
      exact .agg _ _ h1 h2
    | tup cs =>
      obtain ⟨vs, rfl, hvl⟩ := hv.tup_inv
      simp only [view, noref] at hn ⊢
      obtain ⟨h1, h2⟩ := lst cs vs hvl (fun b hb' => hb b (by simpa [refsOf] using hb')) hn
      exact .tup _ _ h1 h2
    | func f first caps =>
      obtain ⟨fs, cs, rfl, h1, h2⟩ := hv.func_inv
      simp only [view, noref, Bool.and_eq_true] at hn ⊢
      obtain ⟨h3, h4⟩ := lst first fs h1 (fun b hb' => hb b (by simp only [refsOf, List.mem_append]; exact .inl hb')) hn.1
      obtain ⟨h5, h6⟩ := lst caps cs h2 (fun b hb' => hb b (by simp only [refsOf, List.mem_append]; exact .inr hb')) hn.2
      exact .func _ _ _ _ _ h3 h5 h4 h6
    | iface t y =>
      simp only [view, noref] at hn ⊢
      cases hv with
      | pure h => cases h with | iface _ _ u h => exact .iface _ _ _ (ih y u (.pure h) (fun b hb' => hb b (by simpa [refsOf] using hb')) hn)
      | iface _ _ u h => exact .iface _ _ _ (ih y u h (fun b hb' => hb b (by simpa [refsOf] using hb')) hn)
    | dead => simp [view, noref] at hn
    | yld => simp [view, noref] at hn
    | _ => exact pure (hv.pv rfl)

/-- What a call of a function comes to. -/
def Invokes (P : Program) (g : FuncId) (args : Array Value) (w : World) (R : Value → World → Prop) : Prop :=
  match (callFunc g args).run P w with
  | .ok (.enter f as) w' => Calls P f as w' fun e w'' => ∃ v, e = .returned v ∧ R v w''
  | .ok (.value v) w' => R v w'
  | _ => False

/-- New blocks stand behind the old ones. -/
def Nw (E E' : Env) (L : Nat) : Prop := ∀ b, E'.al b → E.al b ∨ L ≤ b
theorem Nw.refl {L : Nat} : Nw E E L := fun _ h => .inl h
theorem Nw.trans {E1 E2 : Env} {L M : Nat} (h : Nw E E1 L) (k : Nw E1 E2 M) (hl : L ≤ M) : Nw E E2 L := fun b hb => by
  rcases k b hb with h1 | h1
  · exact h b h1
  · exact .inr (Nat.le_trans hl h1)

theorem wrs_ge : ∀ (ws : List (Nat × Blk)) (sto : List Blk), sto.length ≤ (wrs sto ws).length := by
  intro ws
  induction ws with
  | nil => intro sto; exact Nat.le_refl _
  | cons p ws ih =>
    intro sto
    refine Nat.le_trans ?_ (ih (wr1 sto p.1 p.2))
    unfold wr1; split <;> simp

def Sound (C : Ctx) (CF : CallRel) : Prop :=
  ∀ (f : FuncId) (args : List AVal) (sto : List Blk) (r : AVal) (sto' : List Blk), CF f args sto r sto' → ∀ (E : Env) (w : World) (vs : Array Value), Rel C E sto w → VL w E args vs →
    Invokes C.P f vs w fun v w' => ∃ E', Rel C E' sto' w' ∧ V w' E' r v ∧ Step E sto w E' sto' w' ∧ Nw E E' sto.length ∧ sto.length ≤ sto'.length

theorem Invokes.mono {P : Program} {g : FuncId} {args : Array Value} {w : World} {R R' : Value → World → Prop} (h : Invokes P g args w R) (hr : ∀ v w', R v w' → R' v w') : Invokes P g args w R' := by
  unfold Invokes at *
  split
  · rename_i f as w' he
    rw [he] at h
    exact Calls.mono h fun e w'' ⟨v, h1, h2⟩ => ⟨v, h1, hr v w'' h2⟩
  · rename_i v w' he
    rw [he] at h
    exact hr v w' h
  · rename_i h1 h2
    split at h
    · rename_i f as w' he; exact (h1 _ _ _ he).elim
    · rename_i v w' he; exact (h2 _ _ he).elim
    · exact h

/-- An environment that knows of no block. -/
def Env.bare (ok : Nat → Prop) : Env := { ok := ok, al := fun _ => False, cur := fun _ => none, ι := fun _ => 0, cap := fun _ => 0, sz := fun _ => 0, hd := fun _ => none }

theorem rel_bare (hr : Rel C E sto w) : Rel C (Env.bare E.ok) [] w :=
  ⟨fun _ h => h.elim, fun b h => by (simp [live] at h), fun b => by simp [Env.bare, curOf], hr.okb, fun b _ h => by (simp [live] at h), fun b B h => by simp at h, hr.glob⟩

/-- A call of what leads to nothing in the caller's store. -/
theorem call_pure {CF : CallRel} (hCF : Sound C CF) (hr : Rel C E sto w) {g : FuncId} {args : List AVal} {vs : Array Value} (hvl : VL w E args vs) {r : AVal} {args' : List AVal} (hno : norefL (args.map (view sto 4)) = true) (hle : PLeL (args.map (view sto 4)) args') (h : CF g args' [] r []) (hrn : noref r = true) :
    Invokes C.P g vs w fun v w' => ∃ E', Rel C E' (if memless r = true then sto else gones sto ((args.map (refsOf sto 4)).flatten)) w' ∧ V w' E' r v ∧
      Step E sto w E' (if memless r = true then sto else gones sto ((args.map (refsOf sto 4)).flatten)) w' ∧ (∀ b, E'.al b → E.al b) := by
  have hgive := rel_give hr ((args.map (refsOf sto 4)).flatten)
  have hvl' : VL w (Env.bare (E.give sto ((args.map (refsOf sto 4)).flatten)).ok) args' vs := by
    have hlen : args'.length = args.length := by rw [← hle.1, List.length_map]
    refine ⟨by rw [hlen]; exact hvl.1, fun i x v hx hv => ?_⟩
    cases hxi : args[i]? with
    | none =>
      have h1 := (List.getElem?_eq_some_iff.1 hx).1
      have h2 := List.getElem?_eq_none_iff.1 hxi
      omega
    | some y =>
      have hy := List.mem_of_getElem? hxi
      refine .pure (hle.2 i _ x (by rw [List.getElem?_map, hxi]; rfl) hx _ _ _ ?_)
      exact (view_sound hr _ 4 y v (hvl.2 i y v hxi hv) (fun b hb => mem_flatten_map hy hb) (view_norefL hno y hy))
  refine (hCF g _ [] r [] h _ w vs (rel_bare hgive.1) hvl').mono fun v w' ⟨E', h1, h2, h3, _⟩ => ?_
  have hpv := h2.pv hrn
  have hold : ∀ k, k < w.heap.size → w'.heap[k]? = w.heap[k]? := fun k hk => h3.heap k hk (fun b hb => by (simp [live] at hb))
  by_cases hm : memless r = true
  · rw [if_pos hm]
    obtain ⟨h4, h5⟩ := rel_ok hr E.ok h3.os h3.tape h3.output h3.size hold (fun _ h => h) (fun _ h => .inl h) (fun k hk => Nat.lt_of_lt_of_le (hr.okb k hk) h3.size)
    exact ⟨_, h4, .pure (memless_pv hm hpv), h5, fun _ h => h⟩
  · rw [if_neg hm]
    obtain ⟨h4, h5⟩ := rel_ok hgive.1 E'.ok h3.os h3.tape h3.output h3.size hold h3.ok (fun k hk => by
      rcases h3.okNew k hk with h | h | ⟨b, hb, _⟩
      · exact .inl h
      · exact .inr h
      · simp [live] at hb) h1.okb
    exact ⟨_, h4, .pure hpv, hgive.2.trans h5, fun _ h => h⟩

/-- A call that the caller's store is given to in part, or wholly. -/
theorem call_sound {CF : CallRel} (hCF : Sound C CF) (hr : Rel C E sto w) {g : FuncId} {args : List AVal} {vs : Array Value} (hvl : VL w E args vs) {r : AVal} {sto' : List Blk} (h : CallStep CF sto g args r sto') :
    Invokes C.P g vs w fun v w' => ∃ E', Rel C E' sto' w' ∧ V w' E' r v ∧ Step E sto w E' sto' w' ∧ Nw E E' sto.length ∧ sto.length ≤ sto'.length := by
  cases h with
  | full h => exact hCF g args sto r sto' h E w vs hr hvl
  | pure xs args' hargs hno hle h hrn =>
    subst hargs
    exact (call_pure hCF hr hvl hno hle h hrn).mono fun v w' ⟨E', h1, h2, h3, h4⟩ => ⟨E', h1, h2, h3, fun b hb => .inl (h4 b hb), by split <;> simp [gones_length]⟩

/-! A call that a part of the store is lent to. -/
theorem maskFrom_get (rd : List Nat) : ∀ (sto : List Blk) (k b : Nat), (maskFrom rd k sto)[b]? = (sto[b]?).map fun B => if rd.contains (k + b) = true then B else Blk.gone := by
  intro sto
  induction sto with
  | nil => intro k b; rfl
  | cons B bs ih =>
    intro k b
    cases b with
    | zero => simp [maskFrom]
    | succ b => simp only [maskFrom, List.getElem?_cons_succ]; rw [ih]; simp only [Nat.add_assoc, Nat.add_comm 1 b]

theorem mask_get (rd : List Nat) (sto : List Blk) (b : Nat) : (mask sto rd)[b]? = (sto[b]?).map fun B => if rd.contains b = true then B else Blk.gone := by
  unfold mask; rw [maskFrom_get]; simp only [Nat.zero_add]

theorem mask_length (rd : List Nat) (sto : List Blk) : (mask sto rd).length = sto.length := by
  have : ∀ (sto : List Blk) k, (maskFrom rd k sto).length = sto.length := by
    intro sto; induction sto with
    | nil => intro k; rfl
    | cons B bs ih => intro k; simp [maskFrom, ih]
  exact this sto 0

theorem mergeFrom_get (rd : List Nat) : ∀ (as bs : List Blk) (k b : Nat), as.length ≤ bs.length → (mergeFrom rd k as bs)[b]? = if b < as.length then (if rd.contains (k + b) = true then bs[b]? else as[b]?) else bs[b]? := by
  intro as
  induction as with
  | nil => intro bs k b _; simp [mergeFrom]
  | cons A as ih =>
    intro bs k b hl
    cases bs with
    | nil => simp at hl
    | cons B bs =>
      cases b with
      | zero => simp [mergeFrom]; split <;> rfl
      | succ b =>
        simp only [mergeFrom, List.getElem?_cons_succ, List.length_cons]
        rw [ih bs (k + 1) b (by simpa using hl)]
        simp only [Nat.add_assoc, Nat.add_comm 1 b, Nat.add_lt_add_iff_right]

theorem merge_get {sto sto1 : List Blk} {rd : List Nat} (hl : sto.length ≤ sto1.length) (b : Nat) : (merge sto rd sto1)[b]? = if b < sto.length ∧ rd.contains b = false then sto[b]? else sto1[b]? := by
  unfold merge
  rw [mergeFrom_get rd sto sto1 0 b hl, Nat.zero_add]
  by_cases h1 : b < sto.length
  · by_cases h2 : rd.contains b = true
    · rw [if_pos h1, if_pos h2, if_neg (fun h => by rw [h2] at h; exact absurd h.2 (by simp))]
    · rw [if_pos h1, if_neg h2, if_pos ⟨h1, by simpa using h2⟩]
  · rw [if_neg h1, if_neg (fun h => h1 h.1)]

theorem merge_length {sto sto1 : List Blk} {rd : List Nat} (hl : sto.length ≤ sto1.length) : (merge sto rd sto1).length = sto1.length := by
  have : ∀ (as bs : List Blk) k, as.length ≤ bs.length → (mergeFrom rd k as bs).length = bs.length := by
    intro as; induction as with
    | nil => intro bs k _; simp [mergeFrom]
    | cons A as ih =>
      intro bs k hl
      cases bs with
      | nil => simp at hl
      | cons B bs => simp [mergeFrom, ih bs (k + 1) (by simpa using hl)]
  exact this sto sto1 0 hl

theorem insAll_get {L : Nat} {rd : List Nat} : ∀ {sto : List Blk} {k : Nat}, insAll L rd k sto = true → ∀ (b : Nat) B, sto[b]? = some B → (L ≤ k + b ∨ rd.contains (k + b) = true) → inB L rd B = true := by
  intro sto
  induction sto with
  | nil => intro k _ b B hb; cases hb
  | cons A as ih =>
    intro k h b B hb hin
    simp only [insAll, Bool.and_eq_true, Bool.or_eq_true, Bool.not_eq_true', Bool.or_eq_false_iff] at h
    cases b with
    | zero =>
      simp at hb; subst hb
      rcases h.1 with h1 | h1
      · exfalso
        rcases hin with h2 | h2
        · have := Nat.ble_eq_true_of_le h2; rw [Nat.add_zero] at this; rw [this] at h1; simp at h1
        · rw [Nat.add_zero] at h2; rw [h2] at h1; simp at h1
      · exact h1
    | succ b =>
      simp at hb
      exact ih h.2 b B hb (by rw [Nat.add_assoc, Nat.add_comm 1 b]; exact hin)

theorem inRL_mem {L : Nat} {rd : List Nat} {xs : List AVal} (h : inRL L rd xs = true) : ∀ x, x ∈ xs → inR L rd x = true := by
  induction xs with
  | nil => intro x hx; cases hx
  | cons y ys ih =>
    simp only [inRL, Bool.and_eq_true] at h
    intro x hx
    rcases List.mem_cons.1 hx with rfl | hx
    · exact h.1
    · exact ih h.2 x hx

/-- Part of the store is hidden. -/
theorem V.hide {E1 : Env} {x : AVal} {v : Value} (hok : E1.ok = E.ok) (hal : E1.al = E.al) (hcur : ∀ b, E1.cur b = none ∨ E1.cur b = E.cur b) (hι : E1.ι = E.ι) (hcap : E1.cap = E.cap) (hsz : E1.sz = E.sz) (hhd : E1.hd = E.hd)
    (h : V w E x v) : V w E1 x v := by
  have none_of : ∀ b, E.cur b = none → E1.cur b = none := fun b hb => by
    rcases hcur b with h | h
    · exact h
    · rw [h]; exact hb
  have some_of : ∀ b m, E1.cur b = some m → E.cur b = some m := fun b m hm => by
    rcases hcur b with h | h
    · rw [h] at hm; cases hm
    · rw [← h]; exact hm
  induction h with
  | pure h => exact .pure (by rw [hok]; exact h)
  | ptr b off hb hc => rw [← hι]; exact .ptr b off (by rw [hal]; exact hb) (none_of b hc)
  | eptr b n i j v hb hle hv => exact .eptr b n i j v (by rw [hal]; exact hb) (fun m hm => hle m (some_of b m hm)) (fun hm => by rw [hι, hsz]; exact hv (some_of b n hm))
  | bsl b n v hb hle hv => exact .bsl b n v (by rw [hal]; exact hb) (fun m hm => hle m (some_of b m hm)) (fun hm => by rw [hhd, hcap]; exact hv (some_of b n hm))
  | sub b n lo len cp v hb hle hv => exact .sub b n lo len cp v (by rw [hal]; exact hb) (fun m hm => hle m (some_of b m hm)) (fun hm => by rw [hι, hsz, hcap]; exact hv (some_of b n hm))
  | csl b off sz len cp v hb hc hv hl => exact .csl b off sz len cp v (by rw [hal]; exact hb) (none_of b hc) (by rw [hι]; exact hv) hl
  | mapr b hb hc => rw [← hι]; exact .mapr b (by rw [hal]; exact hb) (none_of b hc)
  | yld ps assign body tmps l D fn tv hg hd h1 h2 ih => exact .yld ps assign body tmps l D fn tv hg hd h1 ih
  | agg xs vs h1 h2 ih => exact .agg xs vs h1 ih
  | tup xs vs h1 h2 ih => exact .tup xs vs h1 ih
  | func f first caps fs cs h1 h2 h3 h4 ih3 ih4 => exact .func f first caps fs cs h1 h2 ih3 ih4
  | iface t x v h ih => exact .iface t x v ih
  | dead v => exact .dead v

/-- What leads to blocks alone of which the two environments say the same. -/
theorem V.carry {E1 E2 : Env} {L : Nat} {rd : List Nat} {x : AVal} {v : Value} (hok : E2.ok = E1.ok)
    (hsame : ∀ b, (L ≤ b ∨ rd.contains b = true) → E2.al b = E1.al b ∧ E2.cur b = E1.cur b ∧ E2.ι b = E1.ι b ∧ E2.cap b = E1.cap b ∧ E2.sz b = E1.sz b ∧ E2.hd b = E1.hd b)
    (hx : inR L rd x = true) (h : V w E1 x v) : V w E2 x v := by
  have key : ∀ b, (Nat.ble L b || rd.contains b) = true → (L ≤ b ∨ rd.contains b = true) := fun b hb => by
    rcases Bool.or_eq_true_iff.1 hb with h | h
    · exact .inl (Nat.le_of_ble_eq_true h)
    · exact .inr h
  induction h with
  | pure h => exact .pure (by rw [hok]; exact h)
  | ptr b off hb hc =>
    obtain ⟨h1, h2, h3, h4, h5, h6⟩ := hsame b (key b (by simpa only [inR] using hx))
    rw [← h3]; exact .ptr b off (by rw [h1]; exact hb) (by rw [h2]; exact hc)
  | eptr b n i j v hb hle hv =>
    obtain ⟨h1, h2, h3, h4, h5, h6⟩ := hsame b (key b (by simpa only [inR] using hx))
    exact .eptr b n i j v (by rw [h1]; exact hb) (fun m hm => hle m (by rw [← h2]; exact hm)) (fun hm => by rw [h3, h5]; exact hv (by rw [← h2]; exact hm))
  | bsl b n v hb hle hv =>
    obtain ⟨h1, h2, h3, h4, h5, h6⟩ := hsame b (key b (by simpa only [inR] using hx))
    exact .bsl b n v (by rw [h1]; exact hb) (fun m hm => hle m (by rw [← h2]; exact hm)) (fun hm => by rw [h4, h6]; exact hv (by rw [← h2]; exact hm))
  | sub b n lo len cp v hb hle hv =>
    obtain ⟨h1, h2, h3, h4, h5, h6⟩ := hsame b (key b (by simpa only [inR] using hx))
    exact .sub b n lo len cp v (by rw [h1]; exact hb) (fun m hm => hle m (by rw [← h2]; exact hm)) (fun hm => by rw [h3, h4, h5]; exact hv (by rw [← h2]; exact hm))
  | csl b off sz len cp v hb hc hv hl =>
    obtain ⟨h1, h2, h3, h4, h5, h6⟩ := hsame b (key b (by simpa only [inR] using hx))
    exact .csl b off sz len cp v (by rw [h1]; exact hb) (by rw [h2]; exact hc) (by rw [h3]; exact hv) hl
  | mapr b hb hc =>
    obtain ⟨h1, h2, h3, h4, h5, h6⟩ := hsame b (key b (by simpa only [inR] using hx))
    rw [← h3]; exact .mapr b (by rw [h1]; exact hb) (by rw [h2]; exact hc)
  | yld ps assign body tmps l D fn tv hg hd h1 h2 ih => exact .yld ps assign body tmps l D fn tv hg hd h1 (fun i x v hx' hv => ih i x v hx' hv (inRL_mem (by simpa [inR] using hx) x (List.mem_of_getElem? hx')))
  | agg xs vs h1 h2 ih => exact .agg xs vs h1 (fun i x v hx' hv => ih i x v hx' hv (inRL_mem (by simpa [inR] using hx) x (List.mem_of_getElem? hx')))
  | tup xs vs h1 h2 ih => exact .tup xs vs h1 (fun i x v hx' hv => ih i x v hx' hv (inRL_mem (by simpa [inR] using hx) x (List.mem_of_getElem? hx')))
  | func f first caps fs cs h1 h2 h3 h4 ih3 ih4 =>
    simp only [inR, Bool.and_eq_true] at hx
    exact .func f first caps fs cs h1 h2 (fun i x v hx' hv => ih3 i x v hx' hv (inRL_mem hx.1 x (List.mem_of_getElem? hx'))) (fun i x v hx' hv => ih4 i x v hx' hv (inRL_mem hx.2 x (List.mem_of_getElem? hx')))
  | iface t x v h ih => exact .iface t x v (ih (by simpa [inR] using hx))
  | dead v => exact .dead v

open Classical in
/-- The environment behind a call that a part of the store was lent to. -/
noncomputable def Env.join (E E1 : Env) (L : Nat) (rd : List Nat) : Env :=
  let out := fun b => b < L ∧ rd.contains b = false
  { ok := E1.ok, al := fun b => if out b then E.al b else E1.al b, cur := fun b => if out b then E.cur b else E1.cur b, ι := fun b => if out b then E.ι b else E1.ι b, cap := fun b => if out b then E.cap b else E1.cap b, sz := fun b => if out b then E.sz b else E1.sz b, hd := fun b => if out b then E.hd b else E1.hd b }

theorem call_lent {CF : CallRel} (hCF : Sound C CF) (hr : Rel C E sto w) {g : FuncId} {args : List AVal} {vs : Array Value} (hvl : VL w E args vs) {rd : List Nat} {r : AVal} {sto1 : List Blk}
    (h : CF g args (mask sto rd) r sto1) (hlen : sto.length ≤ sto1.length) (hlv : ∀ b, rd.contains b = true → live sto b) (hrr : inR sto.length rd r = true) (hins : insAll sto.length rd 0 sto1 = true) :
    Invokes C.P g vs w fun v w' => ∃ E', Rel C E' (merge sto rd sto1) w' ∧ V w' E' r v ∧ Step E sto w E' (merge sto rd sto1) w' ∧ (∀ b, E'.al b → E.al b ∨ sto.length ≤ b) := by
  let Em : Env := { E with cur := fun b => curOf (mask sto rd) b }
  have hcurm : ∀ b, Em.cur b = none ∨ Em.cur b = E.cur b := fun b => by
    show curOf (mask sto rd) b = none ∨ curOf (mask sto rd) b = E.cur b
    rw [hr.cur]
    unfold curOf
    rw [mask_get]
    cases hb : sto[b]? with
    | none => left; rfl
    | some B =>
      by_cases hc : rd.contains b = true
      · right; simp only [Option.map_some, hc, if_true]
      · left; simp only [Option.map_some, hc]; rfl
  have hVm : ∀ {x : AVal} {v : Value}, V w E x v → V w Em x v := fun h => V.hide (E := E) (E1 := Em) rfl rfl hcurm rfl rfl rfl rfl h
  have hlivem : ∀ {b}, live (mask sto rd) b → live sto b ∧ rd.contains b = true := fun {b} hb => by
    obtain ⟨B, hB, hd⟩ := live_iff.1 hb
    rw [mask_get] at hB
    cases hs : sto[b]? with
    | none => rw [hs] at hB; cases hB
    | some B' =>
      rw [hs] at hB
      by_cases hc : rd.contains b = true
      · simp only [Option.map_some, hc, if_true, Option.some.injEq] at hB
        subst hB
        exact ⟨live_iff.2 ⟨_, hs, hd⟩, hc⟩
      · simp only [Option.map_some, hc] at hB
        cases hB; cases hd
  have hrm : Rel C Em (mask sto rd) w := by
    refine ⟨fun b hb => by rw [mask_length]; exact hr.n b hb, fun b hb => hr.al b (hlivem hb).1, fun b => rfl, hr.okb, fun b b' hb hb' he => hr.inj b b' (hlivem hb).1 (hlivem hb').1 he, fun b B hB => ?_, hr.glob⟩
    rw [mask_get] at hB
    cases hs : sto[b]? with
    | none => rw [hs] at hB; cases hB
    | some B' =>
      rw [hs] at hB
      by_cases hc : rd.contains b = true
      · simp only [Option.map_some, hc, if_true, Option.some.injEq] at hB
        subst hB
        cases hr.blk b _ hs with
        | cells t cs vals h1 h2 h3 h4 => exact .cells t cs vals h1 h2 h3 (fun i x v hx hv' => hVm (h4 i x v hx hv'))
        | buf t sz rows cap vals h1 h2 h3 hh h4 h5 h6 h7 h8 h9 h10 h11 => exact .buf t sz rows cap vals h1 h2 h3 hh h4 h5 h6 h7 h8 h9 h10 h11
        | iter s pos sb hsb h1 h2 => exact .iter s pos sb hsb h1 h2
        | arr t sz rows vals h1 h2 h3 h4 h5 h6 h8 h9 h11 =>
          exact .arr t sz rows vals h1 h2 h3 h4 h5 h6 h8 h9 (fun i r j x hi hj => let ⟨v, hv1, hv2, hv3⟩ := h11 i r j x hi hj; ⟨v, hv1, hv2, hVm hv3⟩)
        | map es ents clock h1 h2 h3 h4 => exact .map es ents clock h1 h2 h3 (fun i p ent hx hv' => ⟨hVm (h4 i p ent hx hv').1, hVm (h4 i p ent hx hv').2.1, (h4 i p ent hx hv').2.2⟩)
        | miter mv mr s se l h0 h1 h2 => exact .miter mv mr s se l (hVm h0) h1 h2
        | nbuf t sz h1 h2 => exact .nbuf t sz h1 h2
        | gone => exact .gone
      · simp only [Option.map_some, hc] at hB
        cases hB; exact .gone
  refine (hCF g args (mask sto rd) r sto1 h Em w vs hrm ⟨hvl.1, fun i x v hx hv => hVm (hvl.2 i x v hx hv)⟩).mono fun v w' ⟨E1, h1, h2, h3, _⟩ => ?_
  have hout : ∀ b, (b < sto.length ∧ rd.contains b = false) → (E.join E1 sto.length rd).al b = E.al b ∧ (E.join E1 sto.length rd).cur b = E.cur b ∧ (E.join E1 sto.length rd).ι b = E.ι b ∧ (E.join E1 sto.length rd).cap b = E.cap b ∧ (E.join E1 sto.length rd).sz b = E.sz b ∧ (E.join E1 sto.length rd).hd b = E.hd b :=
    fun b hb => by simp only [Env.join, if_pos hb, and_self]
  have hinn : ∀ b, ¬ (b < sto.length ∧ rd.contains b = false) → (E.join E1 sto.length rd).al b = E1.al b ∧ (E.join E1 sto.length rd).cur b = E1.cur b ∧ (E.join E1 sto.length rd).ι b = E1.ι b ∧ (E.join E1 sto.length rd).cap b = E1.cap b ∧ (E.join E1 sto.length rd).sz b = E1.sz b ∧ (E.join E1 sto.length rd).hd b = E1.hd b :=
    fun b hb => by simp only [Env.join, if_neg hb, and_self]
  have hsame : ∀ b, (sto.length ≤ b ∨ rd.contains b = true) → ¬ (b < sto.length ∧ rd.contains b = false) := fun b hb hn => by
    rcases hb with h | h
    · omega
    · rw [h] at hn; exact absurd hn.2 (by simp)
  have hmg := merge_get (rd := rd) hlen
  have hlive : ∀ b, live (merge sto rd sto1) b → (b < sto.length ∧ rd.contains b = false ∧ live sto b) ∨ (¬ (b < sto.length ∧ rd.contains b = false) ∧ live sto1 b) := fun b hb => by
    obtain ⟨B, hB, hd⟩ := live_iff.1 hb
    rw [hmg] at hB
    by_cases ho : b < sto.length ∧ rd.contains b = false
    · rw [if_pos ho] at hB; exact .inl ⟨ho.1, ho.2, live_iff.2 ⟨B, hB, hd⟩⟩
    · rw [if_neg ho] at hB; exact .inr ⟨ho, live_iff.2 ⟨B, hB, hd⟩⟩
  have hcurE : ∀ b, b < sto.length → rd.contains b = true → Em.cur b = E.cur b := fun b hb hc => by
    show curOf (mask sto rd) b = E.cur b
    rw [hr.cur]
    unfold curOf
    rw [mask_get, List.getElem?_eq_getElem hb]
    simp only [Option.map_some, hc, if_true]
  have hst : Step E sto w (E.join E1 sto.length rd) (merge sto rd sto1) w' := by
    refine ⟨h3.os, h3.tape, h3.output, h3.size, h3.ok, fun k hk => ?_, fun k hk hn => h3.heap k hk (fun b hb => hn b (hlivem hb).1), fun b hb => ?_, fun b hb => ?_, fun b hb hc => ?_, fun b m hb hc => ?_⟩
    · rcases h3.okNew k hk with h | h | ⟨b, hb, he⟩
      · exact .inl h
      · exact .inr (.inl h)
      · exact .inr (.inr ⟨b, (hlivem hb).1, he⟩)
    · by_cases ho : b < sto.length ∧ rd.contains b = false
      · rw [(hout b ho).1]; exact hb
      · rw [(hinn b ho).1]; exact h3.al b hb
    · rcases hlive b hb with ⟨ho1, ho2, hl⟩ | ⟨ho, hl⟩
      · exact .inl ⟨hl, (hout b ⟨ho1, ho2⟩).2.2.1⟩
      · rw [(hinn b ho).2.2.1]
        rcases h3.own b hl with ⟨h4, h5⟩ | h4
        · exact .inl ⟨(hlivem h4).1, h5⟩
        · exact .inr h4
    · by_cases ho : b < sto.length ∧ rd.contains b = false
      · rw [(hout b ho).2.1, (hout b ho).2.2.1]; exact ⟨hc, rfl⟩
      · rw [(hinn b ho).2.1, (hinn b ho).2.2.1]
        have hbl := hr.n b hb
        have hcc : rd.contains b = true := by
          cases hq : rd.contains b with
          | true => rfl
          | false => exact (ho ⟨hbl, hq⟩).elim
        exact h3.keep b hb (by rw [hcurE b hbl hcc]; exact hc)
    · by_cases ho : b < sto.length ∧ rd.contains b = false
      · obtain ⟨_, g2, g3, g4, g5, g6⟩ := hout b ho
        exact .inr ⟨m, by rw [g2]; exact hc, Nat.le_refl _, g5, fun _ => ⟨g3, g4, g6⟩⟩
      · obtain ⟨_, g2, g3, g4, g5, g6⟩ := hinn b ho
        rw [g2, g3, g4, g5, g6]
        have hbl := hr.n b hb
        have hcc : rd.contains b = true := by
          cases hq : rd.contains b with
          | true => rfl
          | false => exact (ho ⟨hbl, hq⟩).elim
        exact h3.kbuf b m hb (by rw [hcurE b hbl hcc]; exact hc)
  have hcarry : ∀ {x : AVal} {v : Value}, inR sto.length rd x = true → V w' E1 x v → V w' (E.join E1 sto.length rd) x v := fun hx hv => V.carry (E1 := E1) (E2 := E.join E1 sto.length rd) rfl (fun b hb => hinn b (hsame b hb)) hx hv
  refine ⟨E.join E1 sto.length rd, ⟨fun b hb => ?_, fun b hb => ?_, fun b => ?_, h1.okb, fun b b' hb hb' he => ?_, fun b B hB => ?_, fun g => glob_step hr hst g⟩, hcarry hrr h2, hst, fun b hb => ?_⟩
  · rw [merge_length hlen]
    by_cases ho : b < sto.length ∧ rd.contains b = false
    · omega
    · rw [(hinn b ho).1] at hb; exact h1.n b hb
  · rcases hlive b hb with ⟨ho1, ho2, hl⟩ | ⟨ho, hl⟩
    · rw [(hout b ⟨ho1, ho2⟩).1]; exact hr.al b hl
    · rw [(hinn b ho).1]; exact h1.al b hl
  · unfold curOf
    rw [hmg]
    by_cases ho : b < sto.length ∧ rd.contains b = false
    · rw [if_pos ho, (hout b ho).2.1, hr.cur]; rfl
    · rw [if_neg ho, (hinn b ho).2.1, h1.cur]; rfl
  · have mixed : ∀ b b', b < sto.length → rd.contains b = false → live sto b → ¬ (b' < sto.length ∧ rd.contains b' = false) → live sto1 b' → E.ι b = E1.ι b' → False := by
      intro b b' hb1 hb2 hl ho' hl' he
      rcases h3.own b' hl' with ⟨h4, h5⟩ | h4
      · have h6 := hlivem h4
        have : b = b' := hr.inj b b' hl h6.1 (by rw [he, h5])
        subst this
        rw [h6.2] at hb2; cases hb2
      · have := (hr.liveBlk hl).2
        omega
    rcases hlive b hb with ⟨ho1, ho2, hl⟩ | ⟨ho, hl⟩ <;> rcases hlive b' hb' with ⟨ho1', ho2', hl'⟩ | ⟨ho', hl'⟩
    · rw [(hout b ⟨ho1, ho2⟩).2.2.1, (hout b' ⟨ho1', ho2'⟩).2.2.1] at he; exact hr.inj b b' hl hl' he
    · rw [(hout b ⟨ho1, ho2⟩).2.2.1, (hinn b' ho').2.2.1] at he; exact (mixed b b' ho1 ho2 hl ho' hl' he).elim
    · rw [(hinn b ho).2.2.1, (hout b' ⟨ho1', ho2'⟩).2.2.1] at he; exact (mixed b' b ho1' ho2' hl' ho hl he.symm).elim
    · rw [(hinn b ho).2.2.1, (hinn b' ho').2.2.1] at he; exact h1.inj b b' hl hl' he
  · rw [hmg] at hB
    by_cases ho : b < sto.length ∧ rd.contains b = false
    · rw [if_pos ho] at hB
      obtain ⟨_, g2, g3, g4, g5, g6⟩ := hout b ho
      by_cases hg : dull B = true
      · cases hr.blk b B hB with
        | nbuf t sz k1 k2 => exact .nbuf t sz (by rw [g4]; exact k1) (by rw [g5]; exact k2)
        | gone => exact .gone
        | _ => cases hg
      · have hl : live sto b := live_iff.2 ⟨B, hB, by simpa using hg⟩
        have hb2 := hr.liveBlk hl
        have hheap : w'.heap[E.ι b]? = w.heap[E.ι b]? := h3.heap _ hb2.2 (fun b' hb' he => by
          have h6 := hlivem hb'
          have : b' = b := hr.inj b' b h6.1 hl he
          subst this
          rw [h6.2] at ho; exact absurd ho.2 (by simp))
        have hnok : ¬ E1.ok (E.ι b) := fun hk => by
          rcases h3.okNew _ hk with h | h | ⟨b', hb', he⟩
          · exact hb2.1 h
          · omega
          · have h6 := hlivem hb'
            have : b' = b := hr.inj b' b h6.1 hl he
            subst this
            rw [h6.2] at ho; exact absurd ho.2 (by simp)
        have hvv : ∀ {x : AVal} {v : Value}, V w E x v → V w' (E.join E1 sto.length rd) x v := fun h => h.step hr hst
        have hpv : ∀ {x : AVal} {v : Value}, PV w E.ok x v → PV w' E1.ok x v := fun h => h.mono h3.ok (fun k hk => Step.okHeap hr hst k hk)
        cases hr.blk b B hB with
        | cells t cs vals k1 k2 k3 k4 => exact .cells t cs vals (by rw [g3, hheap]; exact k1) (by rw [g3]; exact hnok) k3 (fun i x v hx hv' => hvv (k4 i x v hx hv'))
        | buf t sz rows cap vals k1 k2 k3 hh k4 k5 k6 k7 k8 k9 k10 k11 =>
          exact .buf t sz rows cap vals (by rw [g3, hheap]; exact k1) (by rw [g3]; exact hnok) (by rw [g5]; exact k3) (by rw [g6, g3]; exact hh) (by rw [g4]; exact k4) (by rw [g4]; exact k5) (by rw [g4]; exact k6) (by rw [g4]; exact k7) k8 k9 k10 (fun i r j x hi hj => let ⟨v, hv1, hv2⟩ := k11 i r j x hi hj; ⟨v, hv1, hpv hv2⟩)
        | iter s pos sb hsb k1 k2 => exact .iter s pos sb hsb (by rw [g3, hheap]; exact k1) (by rw [g3]; exact hnok)
        | arr t sz rows vals k1 k2 k3 k4 k5 k6 k8 k9 k11 =>
          exact .arr t sz rows vals (by rw [g3, hheap]; exact k1) (by rw [g3]; exact hnok) (by rw [g5]; exact k3) (by rw [g4]; exact k4) (by rw [g4]; exact k5) (by rw [g4]; exact k6) k8 k9 (fun i r j x hi hj => let ⟨v, hv1, hv2, hv3⟩ := k11 i r j x hi hj; ⟨v, hv1, hv2, hvv hv3⟩)
        | map es ents clock k1 k2 k3 k4 => exact .map es ents clock (by rw [g3, hheap]; exact k1) (by rw [g3]; exact hnok) k3 (fun i p ent hx hv' => ⟨hvv (k4 i p ent hx hv').1, hvv (k4 i p ent hx hv').2.1, (k4 i p ent hx hv').2.2⟩)
        | miter mv mr s se l k0 k1 k2 => exact .miter mv mr s se l (hvv k0) (by rw [g3, hheap]; exact k1) (by rw [g3]; exact hnok)
        | nbuf t sz k1 k2 => exact .nbuf t sz (by rw [g4]; exact k1) (by rw [g5]; exact k2)
        | gone => exact .gone
    · rw [if_neg ho] at hB
      obtain ⟨_, g2, g3, g4, g5, g6⟩ := hinn b ho
      have hin : inB sto.length rd B = true := insAll_get hins b B hB (by
        rw [Nat.zero_add]
        by_cases hlt : b < sto.length
        · right
          cases hq : rd.contains b with
          | true => rfl
          | false => exact (ho ⟨hlt, hq⟩).elim
        · left; omega)
      cases h1.blk b B hB with
      | cells t cs vals k1 k2 k3 k4 => exact .cells t cs vals (by rw [g3]; exact k1) (by rw [g3]; exact k2) k3 (fun i x v hx hv' => hcarry (inRL_mem (by simpa [inB] using hin) x (List.mem_of_getElem? hx)) (k4 i x v hx hv'))
      | buf t sz rows cap vals k1 k2 k3 hh k4 k5 k6 k7 k8 k9 k10 k11 =>
        exact .buf t sz rows cap vals (by rw [g3]; exact k1) (by rw [g3]; exact k2) (by rw [g5]; exact k3) (by rw [g6, g3]; exact hh) (by rw [g4]; exact k4) (by rw [g4]; exact k5) (by rw [g4]; exact k6) (by rw [g4]; exact k7) k8 k9 k10 k11
      | iter s pos sb hsb k1 k2 => exact .iter s pos sb hsb (by rw [g3]; exact k1) (by rw [g3]; exact k2)
      | arr t sz rows vals k1 k2 k3 k4 k5 k6 k8 k9 k11 =>
        exact .arr t sz rows vals (by rw [g3]; exact k1) (by rw [g3]; exact k2) (by rw [g5]; exact k3) (by rw [g4]; exact k4) (by rw [g4]; exact k5) (by rw [g4]; exact k6) k8 k9 (fun i r j x hi hj => let ⟨v, hv1, hv2, hv3⟩ := k11 i r j x hi hj
          ⟨v, hv1, hv2, hcarry (inRL_mem (List.all_eq_true.1 (show rows.all (inRL sto.length rd) = true from hin) r (List.mem_of_getElem? hi)) x (List.mem_of_getElem? hj)) hv3⟩)
      | map es ents clock k1 k2 k3 k4 =>
        exact .map es ents clock (by rw [g3]; exact k1) (by rw [g3]; exact k2) k3 (fun i p ent hx hv' => by
          have := List.all_eq_true.1 (show es.all (fun p => inR sto.length rd p.1 && inR sto.length rd p.2.1) = true from hin) p (List.mem_of_getElem? hx)
          simp only [Bool.and_eq_true] at this
          exact ⟨hcarry this.1 (k4 i p ent hx hv').1, hcarry this.2 (k4 i p ent hx hv').2.1, (k4 i p ent hx hv').2.2⟩)
      | miter mv mr s se l k0 k1 k2 => exact .miter mv mr s se l (hcarry (by simpa [inB] using hin) k0) (by rw [g3]; exact k1) (by rw [g3]; exact k2)
      | nbuf t sz k1 k2 => exact .nbuf t sz (by rw [g4]; exact k1) (by rw [g5]; exact k2)
      | gone => exact .gone
  · by_cases ho : b < sto.length ∧ rd.contains b = false
    · rw [(hout b ho).1] at hb; exact .inl hb
    · by_cases hlt : b < sto.length
      · left
        refine hr.al b (hlv b ?_)
        cases hq : rd.contains b with
        | true => rfl
        | false => exact (ho ⟨hlt, hq⟩).elim
      · exact .inr (by omega)

end
end Go.Proofs.YtaajfbcopafkaaaGreatDoor.Ai

namespace Go.Proofs.YtaajfbcopafkaaaGreatDoor.Ai
open Go
set_option linter.unusedVariables false
set_option linter.unusedSimpArgs false

section
variable {z0 : Z} {dz : List Deferred} {ro : Option Nat}
variable {C : Ctx} {E : Env} {s s1 : St} {a : Act} {w : World}

theorem eval_sound (h : RelSt z0 dz C E s a w) (x : Operand) : V w E (s.eval C x) (a.eval x) := by
  cases x with
  | tmp t =>
    simp only [St.eval, Act.eval]
    by_cases ht : t < s.tmps.length
    · have h1 : s.tmps[t]? = some s.tmps[t] := List.getElem?_eq_getElem ht
      have h2 : a.tmps[t]? = some (a.tmps[t]'(by rw [h.size]; exact ht)) := Array.getElem?_eq_getElem _
      have := h.tmps t _ _ h1 h2
      rw [List.getD_eq_getElem?_getD, h1]
      have e : a.tmps.getD t undef = a.tmps[t]'(by rw [h.size]; exact ht) := by simp [Array.getD, h.size, ht]
      rw [e]; exact this
    · have h1 : s.tmps[t]? = none := List.getElem?_eq_none (Nat.le_of_not_lt ht)
      rw [List.getD_eq_getElem?_getD, h1]
      exact .dead _
  | const v => exact V.of_val v
  | global g =>
    simp only [St.eval, Act.eval]
    rcases (h.rel.glob g).1 with h1 | h1
    · rw [h1]; exact .dead _
    · exact .pure h1
  | func f => exact .pure (.func f [] [] #[] #[] rfl rfl (by simp) (by simp))

theorem put_rel {E' : Env} {sto' : List Blk} {w' : World} {dst : Option Tmp} {v : AVal} {u : Value} (h : RelSt z0 dz C E s a w) (hst : Step E s.sto w E' sto' w') (hr : Rel C E' sto' w') (hv : V w' E' v u) :
    RelSt z0 dz C E' ⟨put s.tmps dst v, sto'⟩ (a.put dst u) w' := by
  cases dst with
  | none => exact ⟨hr, h.size, fun i x v hx hv => (h.tmps i x v hx hv).step h.rel hst, Marks.step' h.defers h.rel hst⟩
  | some d =>
    refine ⟨hr, by simp [put, Act.put, h.size], fun i x v' hx hv' => ?_, Marks.step' h.defers h.rel hst⟩
    simp only [put] at hx
    simp only [Act.put] at hv'
    rw [List.getElem?_set] at hx
    by_cases e : d = i
    · subst e
      rw [if_pos rfl] at hx
      split at hx
      · rename_i hlt
        cases hx
        rw [Array.getElem?_setIfInBounds, if_pos rfl, if_pos (by rw [h.size]; exact hlt)] at hv'
        cases hv'; exact hv
      · cases hx
    · rw [if_neg e] at hx
      rw [Array.getElem?_setIfInBounds_ne e] at hv'
      exact (h.tmps i x v' hx hv').step h.rel hst

theorem VL.append {xs ys : List AVal} {us vs : Array Value} (h1 : VL w E xs us) (h2 : VL w E ys vs) : VL w E (xs ++ ys) (us ++ vs) := by
  refine ⟨by simp [h1.1, h2.1], fun i x v hx hv => ?_⟩
  rw [List.getElem?_append] at hx
  rw [Array.getElem?_append] at hv
  by_cases h : i < xs.length
  · rw [if_pos h] at hx
    rw [if_pos (by rw [h1.1]; exact h)] at hv
    exact h1.2 i x v hx hv
  · rw [if_neg h] at hx
    rw [if_neg (by rw [h1.1]; exact h), h1.1] at hv
    exact h2.2 _ x v hx hv

theorem guard_run {ops : Array Oper} {o : Oper} (h : RelSt z0 dz C E s a w) : (guardOf ops s.tmps o = .run → Region.wanted o (yielded ops a.tmps) = true) ∧ (guardOf ops s.tmps o = .skip → Region.wanted o (yielded ops a.tmps) = false) := by
  unfold guardOf Region.wanted
  cases hg : o.guard with
  | none => simp
  | some p =>
    obtain ⟨j, want⟩ := p
    simp only
    cases hd : (ops[j]?).bind (·.dst) with
    | none => simp
    | some d =>
      simp only
      have key : ∀ x, s.tmps.getD d .dead = x → x ≠ .dead → ∃ v, a.tmps[d]? = some v ∧ V w E x v := by
        intro x hx hne
        rw [List.getD_eq_getElem?_getD] at hx
        cases h1 : s.tmps[d]? with
        | none => rw [h1] at hx; exact (hne hx.symm).elim
        | some y =>
          rw [h1] at hx
          have hlt := (List.getElem?_eq_some_iff.1 h1).1
          have h2 : a.tmps[d]? = some (a.tmps[d]'(by rw [h.size]; exact hlt)) := Array.getElem?_eq_getElem _
          have := h.tmps d _ _ h1 h2
          simp only [Option.getD_some] at hx
          rw [hx] at this
          exact ⟨_, h2, this⟩
      split
      · rename_i b hb
        obtain ⟨v, h1, h2⟩ := key _ hb (by simp)
        rw [h2.bool_inv] at h1
        have hy : yielded ops a.tmps j = some b := by simp [yielded, hd, h1]
        rw [hy]
        split
        · rename_i e; subst e; simp
        · rename_i e; simp [e]
      · rename_i hb
        obtain ⟨v, h1, h2⟩ := key _ hb (by simp)
        rw [h2.undef_inv] at h1
        have hy : yielded ops a.tmps j = none := by simp [yielded, hd, h1, undef]
        rw [hy]; simp
      · simp

/-- Frames of functions, or of the rounds of one loop over a function. -/
abbrev FR (ro : Option Nat) : Fence := { Fence.wide with round := ro }
theorem callsR {ro : Option Nat} {n : Nat} {P : Program} {f : FuncId} {args : Array Value} {w : World} {R : Ending → World → Prop} (h : Calls P f args w R) : CallsIn (FR ro) n P f args w R := callsIn_wide.2 h
theorem callsR_iff {ro : Option Nat} {n : Nat} {P : Program} {f : FuncId} {args : Array Value} {w : World} {R : Ending → World → Prop} (h : CallsIn (FR ro) n P f args w R) : Calls P f args w R := callsIn_wide.1 h
/-- What is asked of the calls of a loop's yield: each is a round that returns. -/
def YSound (C : Ctx) : Prop :=
  ∀ (y : AVal) (args : List AVal) (sto : List Blk) (r : AVal) (sto' : List Blk), C.Y y args sto r sto' → ∀ (ro : Option Nat) (E : Env) (w : World) (v : Value) (vs : Array Value), Rel C E sto w → V w E y v → VL w E args vs →
    ∃ (l : Nat) (fn : FuncId) (tv : Array Value) (assign body : Code), v = .func (.yield l) #[] #[] ∧ (Instr.yield l vs).run C.P w = .ok (.round l fn tv assign body) w ∧
      RoundIn (FR ro) 0 C.P l fn tv assign body w fun e w' => ∃ u, e = .returned u ∧ ∃ E', Rel C E' sto' w' ∧ V w' E' r u ∧ Step E sto w E' sto' w' ∧ Nw E E' sto.length ∧ sto.length ≤ sto'.length
/-- What one operation comes to, in the model. -/
def opBody (ro : Option Nat) (P : Program) (ops : Array Oper) (Q : Exit → Act → World → Prop) (o : Oper) (K : Act → World → Prop) (a : Act) (w : World) : Prop :=
  if Region.wanted o (yielded ops a.tmps) then o.wpIn (FR ro) 0 P a w K Q else (∀ f, o.about P w a.eval = some f → (FR ro).fn f) ∧ K (a.put o.dst undef) w
theorem opBody_run {ro : Option Nat} {P : Program} {ops : Array Oper} {Q : Exit → Act → World → Prop} {o : Oper} {K : Act → World → Prop} {a : Act} {w : World} (hw : Region.wanted o (yielded ops a.tmps) = true) (hd : ∀ c, o.op ≠ .defer c)
    (h : o.uponIn (FR ro) 0 P a K Q ((execOp a.eval o).run P w)) : opBody ro P ops Q o K a w := by
  unfold opBody
  rw [if_pos hw]
  exact ⟨fun _ _ => trivial, by rw [Oper.semAt_eq _ _ _ hd]; exact h⟩

theorem den_step {own : Bool} {id : Nat} {ops : Array Oper} {o : Oper} {v : AVal} {ws : List (Nat × Blk)} {Q : Exit → Act → World → Prop} {K : Act → World → Prop} (h : RelSt z0 dz C E s a w) (hid : ¬ E.al id) (hid2 : id ≤ s.sto.length)
    (hg : guardOf ops s.tmps o = .run) (hd : den C (s.eval C) s.sto id own o.op = some (v, ws))
    (hK : ∀ E' a' w', Step E s.sto w E' (wrs s.sto ws) w' → RelSt z0 dz C E' ⟨put s.tmps o.dst v, wrs s.sto ws⟩ a' w' → (∀ b, E'.al b → E.al b ∨ b = id) → K a' w') : opBody ro C.P ops Q o K a w := by
  refine opBody_run ((guard_run h).1 hg) (fun c hc => by rw [hc] at hd; cases hd) ?_
  obtain ⟨nx, u, w', E', h1, h2, h3, h4, h5, h6⟩ := den_sound h.rel hid hid2 (eval_sound h) (fun _ => rfl) hd
  rw [h1]
  cases nx <;> simp only [opRes] at h2 <;> first
    | (cases h2; exact hK E' _ w' h4 (put_rel h h4 h3 h5) h6)
    | cases h2

theorem ext_step {id : Nat} {ops : Array Oper} {o : Oper} {v : AVal} {ws : List (Nat × Blk)} {Q : Exit → Act → World → Prop} {K : Act → World → Prop} (h : RelSt z0 dz C E s a w) (hid : ¬ E.al id) (hid2 : id ≤ s.sto.length)
    (hg : guardOf ops s.tmps o = .run) (hd : denx C (s.eval C) s.sto id o.op = some (v, ws))
    (hK : ∀ E' a' w', Step E s.sto w E' (wrs s.sto ws) w' → RelSt z0 dz C E' ⟨put s.tmps o.dst v, wrs s.sto ws⟩ a' w' → (∀ b, E'.al b → E.al b ∨ b = id) → K a' w') : opBody ro C.P ops Q o K a w := by
  refine opBody_run ((guard_run h).1 hg) (fun c hc => by rw [hc] at hd; cases hd) ?_
  obtain ⟨nx, u, w', E', h1, h2, h3, h4, h5, h6⟩ := denx_sound h.rel hid hid2 (eval_sound h) hd
  rw [h1]
  cases nx <;> simp only [opRes] at h2 <;> first
    | (cases h2; exact hK E' _ w' h4 (put_rel h h4 h3 h5) h6)
    | cases h2

theorem call_run {o : Oper} {c : Call} {f : Operand} {g : FuncId} {fs cs : Array Value} (ho : o.op = .call c) (hc : c.callee = .value f) (hf : a.eval f = .func (.func g) fs cs) :
    (execOp a.eval o).run C.P w = (callFunc g (fs ++ c.args.map a.eval ++ cs)).run C.P w := by
  simp only [execOp, ho, resolve, hc, hf, Deferred.ofValue, Sem.run_bind, Sem.run_pure, Result.andThen_ok, invoke]

theorem call_step {ops : Array Oper} {o : Oper} {c : Call} {f : Operand} {g : FuncId} {first caps : List AVal} {Q : Exit → Act → World → Prop} {K : Act → World → Prop} {R : Value → World → Prop} (h : RelSt z0 dz C E s a w)
    (hg : guardOf ops s.tmps o = .run) (ho : o.op = .call c) (hc : c.callee = .value f) (hf : s.eval C f = .func g first caps)
    (hR : ∀ vs, VL w E (first ++ c.args.toList.map (s.eval C) ++ caps) vs → Invokes C.P g vs w R) (hK : ∀ u w', R u w' → K (a.put o.dst u) w') : opBody ro C.P ops Q o K a w := by
  refine opBody_run ((guard_run h).1 hg) (fun c hc => by rw [hc] at ho; cases ho) ?_
  have hfv := eval_sound h f
  rw [hf] at hfv
  obtain ⟨fs, cs, hfe, hfs, hcs⟩ := hfv.func_inv
  have hinv := hR _ ((hfs.append (list_vl (eval_sound h) c.args)).append hcs)
  rw [call_run (C := C) ho hc hfe]
  unfold Invokes at hinv
  split at hinv
  · rename_i f' as w' he
    rw [he]
    simp only [Oper.uponIn]
    exact ⟨fun hx => by simp [Fence.wide] at hx, callsR (Calls.mono hinv fun e w'' ⟨v, h1, h2⟩ => by subst h1; exact hK v w'' h2)⟩
  · rename_i v w' he
    rw [he]
    simp only [Oper.uponIn]
    exact hK v w' hinv
  · exact hinv.elim

theorem op_sound {CF : CallRel} (hCF : Sound C CF) {own : Tmp → Bool} {ops : Array Oper} {o : Oper} {Q : Exit → Act → World → Prop} {K : Act → World → Prop} (h : RelSt z0 dz C E s a w) (hS : OpStep C CF own ops s.sto.length o s s1)
    (hK : ∀ E' a' w', Step E s.sto w E' s1.sto w' → RelSt z0 dz C E' s1 a' w' → Nw E E' s.sto.length → s.sto.length ≤ s1.sto.length → K a' w') : opBody ro C.P ops Q o K a w := by
  have hnw : ∀ {E' : Env}, (∀ b, E'.al b → E.al b ∨ b = s.sto.length) → Nw E E' s.sto.length := fun h b hb => by
    rcases h b hb with h | h
    · exact .inl h
    · exact .inr (by omega)
  cases hS with
  | skip hg =>
    unfold opBody
    rw [if_neg (by rw [(guard_run h).2 hg]; simp)]
    refine ⟨fun _ _ => trivial, ?_⟩
    exact hK E _ w (Step.refl _ _ _) (put_rel h (Step.refl _ _ _) h.rel (.pure .undef)) Nw.refl (Nat.le_refl _)
  | den hg hd => exact den_step h (fun hal => Nat.lt_irrefl _ (h.rel.n _ hal)) (Nat.le_refl _) hg hd (fun E' a' w' h1 h2 h3 => hK E' a' w' h1 h2 (hnw h3) (wrs_ge _ _))
  | ext hg hd => exact ext_step h (fun hal => Nat.lt_irrefl _ (h.rel.n _ hal)) (Nat.le_refl _) hg hd (fun E' a' w' h1 h2 h3 => hK E' a' w' h1 h2 (hnw h3) (wrs_ge _ _))
  | call hg ho hc hf hcall =>
    exact call_step h hg ho hc hf (fun vs hvl => call_sound hCF h.rel hvl hcall) (fun u w' ⟨E', h1, h2, h3, h4, h5⟩ => hK E' _ w' h3 (put_rel h h3 h1 h2) h4 h5)

theorem runU_sound {CF : CallRel} (hCF : Sound C CF) {own : Tmp → Bool} {ops : Array Oper} {Q : Exit → Act → World → Prop} : ∀ (l : List Oper) (k : Nat) (s s1 : St) (E : Env) (a : Act) (w : World), ops.toList.drop k = l → RunU C CF own ops l s s1 → RelSt z0 dz C E s a w →
    (∀ E' a' w', Step E s.sto w E' s1.sto w' → RelSt z0 dz C E' s1 a' w' → Nw E E' s.sto.length → s.sto.length ≤ s1.sto.length → Q .normal a' w') → wpOpsIn (FR ro) 0 C.P ops Q (List.range' k l.length) a w := by
  intro l
  induction l with
  | nil =>
    intro k s s1 E a w hl hR h hQ
    cases hR
    exact hQ E a w (Step.refl _ _ _) h Nw.refl (Nat.le_refl _)
  | cons o l ih =>
    intro k s s1 E a w hl hR h hQ
    cases hR with
    | cons hS hT =>
      have hk : ops[k]? = some o := by
        have : (ops.toList.drop k)[0]? = some o := by rw [hl]; rfl
        rw [List.getElem?_drop, Nat.add_zero, Array.getElem?_toList] at this
        exact this
      simp only [List.length_cons, List.range'_succ]
      rw [wpOpsIn_cons]
      simp only [wpOpIn, hk]
      refine op_sound (Q := Q) hCF h hS (fun E' a' w' h1 h2 n1 l1 => ih (k + 1) _ _ E' a' w' ?_ hT h2 (fun E'' a'' w'' h3 h4 n2 l2 => hQ E'' a'' w'' (h1.trans h3) h4 (n1.trans n2 l1) (Nat.le_trans l1 l2)))
      have : (ops.toList.drop k).drop 1 = l := by rw [hl]; rfl
      rwa [List.drop_drop] at this

/-! Weaker states. -/
theorem WS.get {L : Nat} {xs ys : List Blk} (h : WS L xs ys) : ∀ (b : Nat) B, ys[b]? = some B → ∃ A, xs[b]? = some A ∧ WB L A B := by
  induction h with
  | nil rest => intro b B hb; cases hb
  | cons h t ih =>
    intro b B hb
    cases b with
    | zero => simp at hb; subst hb; exact ⟨_, rfl, h⟩
    | succ b => simp at hb ⊢; exact ih b B hb

theorem WL.get {L : Nat} {xs ys : List AVal} (h : WL L xs ys) : xs.length = ys.length ∧ ∀ (i : Nat) y, ys[i]? = some y → ∃ x, xs[i]? = some x ∧ WV L x y := by
  induction h with
  | nil => exact ⟨rfl, fun i y h => by cases h⟩
  | cons h t ih =>
    refine ⟨by simp [ih.1], fun i y hy => ?_⟩
    cases i with
    | zero => simp at hy; subst hy; exact ⟨_, rfl, h⟩
    | succ i => simp at hy ⊢; exact ih.2 i y hy

theorem lowRL_mem {L : Nat} {xs : List AVal} (h : lowRL L xs = true) : ∀ x, x ∈ xs → lowR L x = true := by
  induction xs with
  | nil => intro x hx; cases hx
  | cons y ys ih =>
    simp only [lowRL, Bool.and_eq_true] at h
    intro x hx
    rcases List.mem_cons.1 hx with rfl | hx
    · exact h.1
    · exact ih h.2 x hx

def Env.cutTo (E : Env) (sto1 : List Blk) : Env := { E with al := fun b => E.al b ∧ b < sto1.length, cur := fun b => curOf sto1 b }

theorem WS.cur {L : Nat} {sto sto1 : List Blk} (h : WS L sto sto1) (b : Nat) : curOf sto1 b = none ∨ curOf sto1 b = curOf sto b := by
  cases hb : sto1[b]? with
  | none => left; simp [curOf, hb]
  | some B =>
    obtain ⟨A, hA, hw⟩ := h.get b B hb
    rw [curOf_curB hb, curOf_curB hA]
    cases hw <;> first | (left; rfl) | (right; rfl)

theorem V.cut {sto1 : List Blk} {L : Nat} (hr : Rel C E s.sto w) (hw : WS L s.sto sto1) (hL : L = sto1.length) {x : AVal} {v : Value} (hb : lowR L x = true) (h : V w E x v) : V w (E.cutTo sto1) x v := by
  induction h with
  | pure h => exact .pure h
  | ptr b off hal hc =>
    simp only [lowR, decide_eq_true_eq] at hb
    refine .ptr (E := E.cutTo sto1) b off ⟨hal, by omega⟩ ?_
    show curOf sto1 b = none
    rcases hw.cur b with h | h
    · exact h
    · rw [h, ← hr.cur]; exact hc
  | eptr b n i j v hal hle hv =>
    simp only [lowR, decide_eq_true_eq] at hb
    have hcur : ∀ m, (E.cutTo sto1).cur b = some m → E.cur b = some m := fun m hm => by
      have hm' : curOf sto1 b = some m := hm
      rcases hw.cur b with h | h
      · rw [h] at hm'; cases hm'
      · rw [hr.cur, ← h]; exact hm'
    exact .eptr b n i j v ⟨hal, by omega⟩ (fun m hm => hle m (hcur m hm)) (fun hm => hv (hcur n hm))
  | bsl b n v hal hle hv =>
    simp only [lowR, decide_eq_true_eq] at hb
    have hcur : ∀ m, (E.cutTo sto1).cur b = some m → E.cur b = some m := fun m hm => by
      have hm' : curOf sto1 b = some m := hm
      rcases hw.cur b with h | h
      · rw [h] at hm'; cases hm'
      · rw [hr.cur, ← h]; exact hm'
    exact .bsl b n v ⟨hal, by omega⟩ (fun m hm => hle m (hcur m hm)) (fun hm => hv (hcur n hm))
  | sub b n lo len cp v hal hle hv =>
    simp only [lowR, decide_eq_true_eq] at hb
    have hcur : ∀ m, (E.cutTo sto1).cur b = some m → E.cur b = some m := fun m hm => by
      have hm' : curOf sto1 b = some m := hm
      rcases hw.cur b with h | h
      · rw [h] at hm'; cases hm'
      · rw [hr.cur, ← h]; exact hm'
    exact .sub b n lo len cp v ⟨hal, by omega⟩ (fun m hm => hle m (hcur m hm)) (fun hm => hv (hcur n hm))
  | csl b off sz len cp v hal hc hv hl =>
    simp only [lowR, decide_eq_true_eq] at hb
    refine .csl (E := E.cutTo sto1) b off sz len cp v ⟨hal, by omega⟩ ?_ hv hl
    show curOf sto1 b = none
    rcases hw.cur b with h | h
    · exact h
    · rw [h, ← hr.cur]; exact hc
  | mapr b hal hc =>
    simp only [lowR, decide_eq_true_eq] at hb
    refine .mapr (E := E.cutTo sto1) b ⟨hal, by omega⟩ ?_
    show curOf sto1 b = none
    rcases hw.cur b with h | h
    · exact h
    · rw [h, ← hr.cur]; exact hc
  | yld ps assign body tmps l D fn tv hg hd h1 h2 ih => exact .yld ps assign body tmps l D fn tv hg hd h1 (fun i x v hx hv => ih i x v hx hv (lowRL_mem (by simpa [lowR] using hb) x (List.mem_of_getElem? hx)))
  | agg xs vs h1 h2 ih => exact .agg xs vs h1 (fun i x v hx hv => ih i x v hx hv (lowRL_mem (by simpa [lowR] using hb) x (List.mem_of_getElem? hx)))
  | tup xs vs h1 h2 ih => exact .tup xs vs h1 (fun i x v hx hv => ih i x v hx hv (lowRL_mem (by simpa [lowR] using hb) x (List.mem_of_getElem? hx)))
  | func f first caps fs cs h1 h2 h3 h4 ih3 ih4 =>
    simp only [lowR, Bool.and_eq_true] at hb
    exact .func f first caps fs cs h1 h2 (fun i x v hx hv => ih3 i x v hx hv (lowRL_mem hb.1 x (List.mem_of_getElem? hx))) (fun i x v hx hv => ih4 i x v hx hv (lowRL_mem hb.2 x (List.mem_of_getElem? hx)))
  | iface t x v h ih => exact .iface t x v (ih (by simpa [lowR] using hb))
  | dead v => exact .dead v

theorem V.weak {sto1 : List Blk} {L : Nat} (hr : Rel C E s.sto w) (hw : WS L s.sto sto1) (hL : L = sto1.length) {x y : AVal} {v : Value} (hxy : WV L x y) (h : V w E x v) : V w (E.cutTo sto1) y v := by
  cases hxy with
  | dead => exact .dead _
  | refl hb => exact h.cut hr hw hL hb
  | pw hx hle =>
    have hp := h.pv hx
    exact .pure (hle w E.ok v hp)
  | cap =>
    have hp := h.slc_inv
    cases hp with
    | slc _ _ _ A c val h1 h2 h3 h4 h5 h6 h7 h8 => exact .pure (.slc _ _ none A c val h1 h2 h3 (fun k hk => by cases hk) h5 h6 h7 h8)
  | nil =>
    have hp := h.slc_inv
    cases hp with
    | slc _ _ _ A c val h1 h2 h3 h4 h5 h6 h7 h8 =>
      exact .pure (.slc _ [] _ A c val (fun r hr => by cases hr) (fun r hr => by cases hr) h3 h4 h5 h6 (fun i r j x hi => by cases hi) (fun i r j x hi => by cases hi))

theorem WS.live {L : Nat} {sto sto1 : List Blk} (h : WS L sto sto1) {b : Nat} (hb : live sto1 b) : live sto b := by
  obtain ⟨B, hB, hd⟩ := live_iff.1 hb
  obtain ⟨A, hA, hw⟩ := h.get b B hB
  refine live_iff.2 ⟨A, hA, ?_⟩
  cases hw <;> first | rfl | (cases hd; done)

theorem weak_sound {m0 : Nat} {E0 : Env} {sto0 : List Blk} {w0 : World} (hm0 : ∀ b, E0.al b → b < m0) (hst : Step E0 sto0 w0 E s.sto w) (h : RelSt z0 dz C E s a w) (hw : Weak m0 s s1) : Step E0 sto0 w0 (E.cutTo s1.sto) s1.sto w ∧ RelSt z0 dz C (E.cutTo s1.sto) s1 a w := by
  have hws := hw.sto
  refine ⟨?_, ⟨⟨fun b hb => hb.2, fun b hb => ⟨h.rel.al b (hws.live hb), live_lt hb⟩, fun b => rfl, h.rel.okb, fun b b' hb hb' he => h.rel.inj b b' (hws.live hb) (hws.live hb') he, fun b B hB => ?_, h.rel.glob⟩, ?_, fun i y v hy hv => ?_, h.defers⟩⟩
  · refine ⟨hst.os, hst.tape, hst.output, hst.size, hst.ok, hst.okNew, hst.heap, fun b hb => ⟨hst.al b hb, Nat.lt_of_lt_of_le (hm0 b hb) hw.low⟩, fun b hb => hst.own b (hws.live hb), fun b hb hc => ?_, fun b m hb hc => ?_⟩
    · obtain ⟨h1, h2⟩ := hst.keep b hb hc
      refine ⟨?_, h2⟩
      rcases hws.cur b with h3 | h3
      · exact h3
      · show curOf s1.sto b = none
        rw [h3, ← h.rel.cur]; exact h1
    · rcases hst.kbuf b m hb hc with h1 | ⟨m', h1, h2, h3, h4⟩
      · left
        rcases hws.cur b with h5 | h5
        · exact h5
        · show curOf s1.sto b = none
          rw [h5, ← h.rel.cur]; exact h1
      · rcases hws.cur b with h5 | h5
        · exact .inl h5
        · exact .inr ⟨m', by show curOf s1.sto b = some m'; rw [h5, ← h.rel.cur]; exact h1, h2, h3, h4⟩
  · obtain ⟨A, hA, hwb⟩ := hws.get b B hB
    have hblk := h.rel.blk b A hA
    cases hwb with
    | gone => exact .gone
    | cells hwl =>
      cases hblk with
      | cells _ _ vals hg hn hs hv =>
        obtain ⟨hl, hget⟩ := hwl.get
        refine .cells _ _ vals hg hn (by rw [hs, hl]) (fun i y v hy hv' => ?_)
        obtain ⟨x, hx, hxy⟩ := hget i y hy
        exact (hv i x v hx hv').weak h.rel hws rfl hxy
    | buf =>
      cases hblk with
      | buf _ _ _ _ vals hg hn hE hh hs hl hm hcap h0 hsz hcell hv => exact .buf _ _ _ _ vals hg hn hE hh hs hl hm hcap h0 hsz hcell hv
    | bufc =>
      cases hblk with
      | buf _ _ _ _ vals hg hn hE hh hs hl hm hcap h0 hsz hcell hv => exact .buf _ _ _ _ vals hg hn hE hh hs hl hm (fun k hk => by cases hk) h0 hsz hcell hv
    | nbuf => cases hblk with | nbuf _ _ h1 h2 => exact .nbuf _ _ h1 h2
    | arr hlow =>
      cases hblk with
      | arr _ _ _ vals hg hn hE hs hl hm h0 hsz hv =>
        exact .arr _ _ _ vals hg hn hE hs hl hm h0 hsz (fun i r j x hi hj => let ⟨v, h1, h2, h3⟩ := hv i r j x hi hj
          ⟨v, h1, h2, h3.cut h.rel hws rfl (lowRL_mem (hlow r (List.mem_of_getElem? hi)) x (List.mem_of_getElem? hj))⟩)
    | map hlow =>
      cases hblk with
      | map _ ents clock hg hn hs hv =>
        exact .map _ ents _ hg hn hs (fun i p ent hp he => ⟨(hv i p ent hp he).1.cut h.rel hws rfl (hlow p (List.mem_of_getElem? hp)).1, (hv i p ent hp he).2.1.cut h.rel hws rfl (hlow p (List.mem_of_getElem? hp)).2, (hv i p ent hp he).2.2⟩)
    | iter => cases hblk with | iter _ _ sb hsb hg hn => exact .iter _ _ sb hsb hg hn
    | miter hlow => cases hblk with | miter _ mr _ _ _ h0 hg hn => exact .miter _ mr _ _ _ (h0.cut h.rel hws rfl hlow) hg hn
  · obtain ⟨hl, _⟩ := hw.tmps.get
    rw [h.size, hl]
  · obtain ⟨x, hx, hxy⟩ := hw.tmps.get.2 i y hy
    exact (h.tmps i x v hx hv).weak h.rel hws rfl hxy

/-- A nil slice, as an empty buffer. -/
theorem nil_grow {z : Nat} {v : Value} (hr : Rel C E s.sto w) (hv : V w E (.slc z [] (some 0)) v) (t sz : Nat) : ∃ E1, Rel C E1 (s.sto ++ [.nbuf t sz]) w ∧ Step E s.sto w E1 (s.sto ++ [.nbuf t sz]) w ∧ V w E1 (.bsl s.sto.length 0) v ∧ Nw E E1 s.sto.length := by
  have hp := hv.slc_inv
  cases hp with
  | slc _ _ _ A c val h1 h2 h3 h4 h5 h6 h7 h8 =>
    have hc := h4 0 rfl
    subst hc
    have hw1 : wr1 s.sto s.sto.length (.nbuf t sz) = s.sto ++ [.nbuf t sz] := by simp [wr1]
    have hnal : ¬ E.al s.sto.length := fun h => Nat.lt_irrefl _ (hr.n _ h)
    have := rel_upd hr s.sto.length (.nbuf t sz) 0 0 sz A (Nat.le_refl _) (w' := w) rfl rfl rfl (Nat.le_refl _) (fun _ _ _ => rfl) (fun h => by cases h) (.inr ⟨hnal, Nat.le_refl _⟩)
      (.nbuf t sz (by rw [env_set_new.2.1]) (by rw [env_set_new.2.2.1]))
    rw [hw1] at this
    refine ⟨_, this.1, this.2, .bsl _ _ _ (.inl rfl) (fun m hm => ?_) (fun _ => ?_), fun b hb => ?_⟩
    · rw [env_set_new.2.2.2.2.1] at hm; cases hm; exact Nat.le_refl _
    · rw [env_set_new.2.2.2.1, env_set_new.2.1]; rfl
    · rcases hb with rfl | hb
      · exact .inr (Nat.le_refl _)
      · exact .inl hb

theorem grow_sound (h : RelSt z0 dz C E s a w) (hg : Grow s s1) : ∃ E1, Step E s.sto w E1 s1.sto w ∧ RelSt z0 dz C E1 s1 a w ∧ Nw E E1 s.sto.length ∧ s.sto.length ≤ s1.sto.length := by
  cases hg with
  | @tmp i z t sz hi =>
    have hlt := (List.getElem?_eq_some_iff.1 hi).1
    have h2 : a.tmps[i]? = some (a.tmps[i]'(by rw [h.size]; exact hlt)) := Array.getElem?_eq_getElem _
    obtain ⟨E1, h3, h4, h5, hnw⟩ := nil_grow h.rel (h.tmps i _ _ hi h2) t sz
    refine ⟨E1, h4, ⟨h3, by simp [h.size], fun j x v hx hv => ?_, h.defers⟩, hnw, by simp⟩
    rw [List.getElem?_set] at hx
    by_cases e : i = j
    · subst e
      rw [if_pos rfl, if_pos hlt] at hx
      cases hx
      rw [h2] at hv; cases hv
      exact h5
    · rw [if_neg e] at hx
      exact (h.tmps j x v hx hv).step h.rel h4
  | @cell b i z t sz ct cs hb hi =>
    have hlt := (List.getElem?_eq_some_iff.1 hi).1
    have hblt := (List.getElem?_eq_some_iff.1 hb).1
    cases h.rel.blk b _ hb with
    | cells _ _ vals hgv hn hs hv =>
      have h2 : vals[i]? = some (vals[i]'(by rw [hs]; exact hlt)) := Array.getElem?_eq_getElem _
      obtain ⟨E1, h3, h4, h5, hnw⟩ := nil_grow h.rel (hv i _ _ hi h2) t sz
      have hb1 : (s.sto ++ [Blk.nbuf t sz])[b]? = some (.cells ct cs) := by rw [List.getElem?_append, if_pos hblt]; exact hb
      have hlive : live (s.sto ++ [Blk.nbuf t sz]) b := live_iff.2 ⟨_, hb1, rfl⟩
      have hal1 := h3.al b hlive
      have hcur1 : E1.cur b = none := by rw [h3.cur, curOf_curB hb1]; rfl
      cases h3.blk b _ hb1 with
      | cells _ _ vals1 hg1 hn1 hs1 hv1 =>
        have heq : vals1 = vals := by
          obtain ⟨hk1, hk2⟩ := h4.keep b (h.rel.al b (live_iff.2 ⟨_, hb, rfl⟩)) (by rw [h.rel.cur, curOf_curB hb]; rfl)
          rw [hk2, hgv] at hg1; cases hg1; rfl
        subst heq
        have hal' : (E1.al b ∧ (E1.cur b = none → curB (.cells ct (cs.set i (.bsl s.sto.length 0))) = none ∧ E1.ι b = E1.ι b) ∧ (∀ m, E1.cur b = some m → ∃ m', curB (.cells ct (cs.set i (.bsl s.sto.length 0))) = some m' ∧ m ≤ m' ∧ E1.sz b = E1.sz b ∧ (m' = m → E1.ι b = E1.ι b ∧ E1.cap b = E1.cap b ∧ E1.hd b = E1.hd b))) ∨ (¬ E1.al b ∧ b ≤ (s.sto ++ [Blk.nbuf t sz]).length) :=
          .inl ⟨hal1, fun _ => ⟨rfl, rfl⟩, fun m hm => by (rw [hcur1] at hm; cases hm)⟩
        have hble : b ≤ (s.sto ++ [Blk.nbuf t sz]).length := by simp; omega
        have hst := step_upd h3 b (.cells ct (cs.set i (.bsl s.sto.length 0))) (E1.ι b) (E1.cap b) (E1.sz b) (E1.hd b) hble (w' := w) rfl rfl rfl (Nat.le_refl _) (fun _ _ _ => rfl) (fun _ => .inl ⟨hlive, rfl⟩) hal'
        have hrel := rel_upd h3 b (.cells ct (cs.set i (.bsl s.sto.length 0))) (E1.ι b) (E1.cap b) (E1.sz b) (E1.hd b) hble (w' := w) rfl rfl rfl (Nat.le_refl _) (fun _ _ _ => rfl) (fun _ => .inl ⟨hlive, rfl⟩) hal'
          (.cells ct _ vals1 (by rw [env_set_new.1]; exact hg1) (by rw [env_set_new.1]; exact hn1) (by rw [List.length_set]; exact hs1) (fun j x v hx hv' => by
            rw [List.getElem?_set] at hx
            by_cases e : i = j
            · subst e
              rw [if_pos rfl, if_pos hlt] at hx
              cases hx
              rw [h2] at hv'; cases hv'
              exact h5.step h3 hst
            · rw [if_neg e] at hx
              exact (hv1 j x v hx hv').step h3 hst))
        have hset : wr1 (s.sto ++ [Blk.nbuf t sz]) b (.cells ct (cs.set i (.bsl s.sto.length 0))) = s.sto.set b (.cells ct (cs.set i (.bsl s.sto.length 0))) ++ [.nbuf t sz] := by
          simp only [wr1, List.length_append, List.length_singleton]
          rw [if_pos (by omega), List.set_append, if_pos hblt]
        rw [hset] at hrel
        refine ⟨_, h4.trans hrel.2, ⟨hrel.1, h.size, fun j x v hx hv' => ((h.tmps j x v hx hv').step h.rel h4).step h3 (hset ▸ hst), h.defers⟩, fun y hy => ?_, by simp⟩
        rcases hy with rfl | hy
        · exact hnw _ hal1
        · exact hnw y hy

end
end Go.Proofs.YtaajfbcopafkaaaGreatDoor.Ai

namespace Go.Proofs.YtaajfbcopafkaaaGreatDoor.Ai
open Go
set_option linter.unusedVariables false
set_option linter.unusedSimpArgs false

/-- All that is not hidden in the one store stands in the other. -/
def LeS (m sto : List Blk) : Prop := ∀ b : Nat, (m[b]? = none ∨ m[b]? = some Blk.gone) ∨ m[b]? = sto[b]?

section
variable {z0 : Z} {dz : List Deferred} {ro : Option Nat}
variable {P : Program} {m sto : List Blk}

theorem curOf_mono (h : LeS m sto) {b n : Nat} (hc : curOf m b = some n) : curOf sto b = some n := by
  rcases h b with (e | e) | e
  · simp [curOf, e] at hc
  · simp [curOf, e] at hc
  · simpa [curOf, e] using hc

theorem solid_mono (h : LeS m sto) {x : AVal} (hs : solid m x = true) : solid sto x = true := by
  cases x <;> simp only [solid] at hs ⊢ <;> first
    | exact hs
    | (rw [beq_iff_eq] at hs ⊢; exact curOf_mono h hs)

theorem solidAll_mono (h : LeS m sto) {xs : List AVal} (hs : xs.all (solid m) = true) : xs.all (solid sto) = true := by
  rw [List.all_eq_true] at hs ⊢
  exact fun x hx => solid_mono h (hs x hx)

theorem cellsOK_mono (h : LeS m sto) {x : AVal} (hs : cellsOK m x = true) : cellsOK sto x = true := by
  cases x <;> simp only [cellsOK] at hs ⊢ <;> first
    | exact hs
    | (rw [beq_iff_eq] at hs ⊢; exact curOf_mono h hs)

theorem rdCells_mono (h : LeS m sto) {p : AVal} {n : Nat} {cs : List AVal} (hr : rdCells m p n = some cs) : rdCells sto p n = some cs := by
  cases p <;> simp only [rdCells] at hr ⊢ <;> first
    | exact hr
    | (rename_i b _; rcases h b with (e | e) | e <;> first | (simp only [e] at hr; done) | (rw [← e]; exact hr) | (rw [e] at hr; cases hr))
    | (rename_i b _ _ _; rcases h b with (e | e) | e <;> first | (simp only [e] at hr; done) | (rw [← e]; exact hr) | (rw [e] at hr; cases hr))

theorem wrCells_mono (h : LeS m sto) {p : AVal} {vs : List AVal} {w : Nat × Blk} (hr : wrCells m p vs = some w) : wrCells sto p vs = some w := by
  cases p <;> simp only [wrCells] at hr ⊢ <;> first
    | exact hr
    | (rename_i b _; rcases h b with (e | e) | e <;> first | (simp only [e] at hr; done) | (rw [← e]; exact hr) | (rw [e] at hr; cases hr))
    | (rename_i b _ _ _; rcases h b with (e | e) | e <;> first | (simp only [e] at hr; done) | (rw [← e]; exact hr) | (rw [e] at hr; cases hr))

theorem ptrAdd_mono (h : LeS m sto) {p : AVal} {n : Nat} {q : AVal} (hr : ptrAdd m p n = some q) : ptrAdd sto p n = some q := by
  cases p <;> simp only [ptrAdd] at hr ⊢ <;> first
    | exact hr
    | (split at hr
       · rename_i e; rw [if_pos (curOf_mono h e)]; exact hr
       · cases hr)

theorem rowsOf_mono (h : LeS m sto) {x : AVal} {r : Nat × List (List AVal)} (hr : rowsOf m x = some r) : rowsOf sto x = some r := by
  cases x <;> simp only [rowsOf] at hr ⊢ <;> first
    | exact hr
    | (rename_i b _; rcases h b with (e | e) | e <;> first | (simp only [e] at hr; done) | (rw [← e]; exact hr) | (rw [e] at hr; cases hr))

theorem newRows_mono (h : LeS m sto) {t : TypeId} {x : AVal} {r : Nat × List (List AVal)} (hr : newRows P m t x = some r) : newRows P sto t x = some r := by
  cases x <;> simp only [newRows] at hr ⊢ <;> first
    | exact hr
    | (split at hr
       · rename_i e; rw [if_pos e]; exact rowsOf_mono h hr
       · cases hr)

theorem lenS_mono (h : LeS m sto) {t : TypeId} {x y : AVal} (hr : lenS P m t x = some y) : lenS P sto t x = some y := by
  cases x <;> simp only [lenS] at hr ⊢ <;> first
    | exact hr
    | (split at hr
       · rename_i e1
         split at hr
         · rename_i e2; rw [if_pos e1, if_pos (curOf_mono h e2)]; exact hr
         · cases hr
       · cases hr)

theorem capA_mono (h : LeS m sto) {t : TypeId} {x y : AVal} (hr : capA P m t x = some y) : capA P sto t x = some y := by
  cases x with
  | bsl b n =>
    simp only [capA] at hr ⊢
    rcases h b with (e | e) | e
    · simp [e] at hr
    · simp [e] at hr
    · rw [← e]; exact hr
  | slc sz rows c => cases c <;> exact hr
  | _ => exact hr

theorem convA_mono (h : LeS m sto) {own : Bool} {src dst : TypeId} {x y : AVal} (hr : convA P m own src dst x = some y) : convA P sto own src dst x = some y := by
  unfold convA at hr ⊢
  split at hr
  · rename_i h0
    rw [if_pos h0]
    cases x <;> first
      | exact hr
      | (simp only at hr ⊢
         split at hr
         · rename_i h1
           rw [if_pos h1]
           split at hr
           · rename_i e sz rows h2 h3
             rw [h2, rowsOf_mono h h3]
             exact hr
           · cases hr
         · cases hr)
  · cases hr

theorem markA_mono (h : LeS m sto) {src dst : TypeId} {x : AVal} {y : AVal × List (Nat × Blk)} (hr : markA P m src dst x = some y) : markA P sto src dst x = some y := by
  cases x with
  | bsl b n =>
    simp only [markA] at hr ⊢
    rcases h b with (e | e) | e
    · simp [e] at hr
    · simp [e] at hr
    · rw [← e]; exact hr
  | _ => exact hr
theorem markA_conv {own : Bool} {src dst : TypeId} {x y : AVal} (h : convA P sto own src dst x = some y) : markA P sto src dst x = none := by
  cases x with
  | bsl b n =>
    unfold convA at h
    split at h
    · simp only at h
      split at h
      · rename_i hs
        unfold markA
        simp only
        split
        · rw [if_neg]
          rintro ⟨e, h2, _⟩
          subst e
          obtain ⟨e, he, _⟩ := Option.bind_eq_some_iff.1 h2
          have h1 := strT_true hs
          have h2 := elemT_some he
          rw [h1] at h2; cases h2
        · rfl
      · cases h
    · cases h
  | _ => rfl
theorem sliceA_mono (h : LeS m sto) {t : TypeId} {x : AVal} {lo hi mx : Option AVal} {y : AVal × List (Nat × Blk)} (hr : sliceA P m t x lo hi mx = some y) : sliceA P sto t x lo hi mx = some y := by
  cases x with
  | bsl b n =>
    simp only [sliceA] at hr ⊢
    rcases h b with (e | e) | e
    · simp [e] at hr
    · simp [e] at hr
    · rw [← e]; exact hr
  | ptr b off =>
    simp only [sliceA] at hr ⊢
    rcases h b with (e | e) | e
    · simp [e] at hr
    · simp [e] at hr
    · rw [← e]; exact hr
  | _ => exact hr

theorem appendA_mono (h : LeS m sto) {id : Nat} {t tx : TypeId} {s x : AVal} {y : AVal × List (Nat × Blk)} (hr : appendA P m id t tx s x = some y) : appendA P sto id t tx s x = some y := by
  unfold appendA at hr ⊢
  split at hr
  · rename_i e sx new h1 h2
    simp only [h1, newRows_mono h h2]
    cases s with
    | bsl b n =>
      simp only at hr ⊢
      rcases h b with (e | e) | e
      · simp [e] at hr
      · simp [e] at hr
      · rw [← e]; exact hr
    | slc sz rows c => cases c <;> exact hr
    | _ => exact hr
  · cases hr

theorem goB_mono (h : LeS m sto) {t : TypeId} : ∀ (parts : List (Nat × AVal)) (cs r : List AVal), goB P m t cs parts = some r → goB P sto t cs parts = some r := by
  intro parts
  induction parts with
  | nil => intro cs r hr; exact hr
  | cons p rest ih =>
    intro cs r hr
    obtain ⟨f, v⟩ := p
    simp only [goB] at hr ⊢
    split at hr
    · rename_i off n h1
      split at hr
      · rename_i h2
        rw [if_pos (cellsOK_mono h h2)]
        split at hr
        · rename_i h3
          rw [if_pos h3]
          split at hr
          · rename_i h4; rw [if_pos h4]; exact ih _ _ hr
          · cases hr
        · cases hr
      · cases hr
    · cases hr

theorem goR_mono (h : LeS m sto) {e : TypeId} : ∀ (parts : List (Nat × AVal)) (rows r : List (List AVal)), goR P m e rows parts = some r → goR P sto e rows parts = some r := by
  intro parts
  induction parts with
  | nil => intro rows r hr; exact hr
  | cons p rest ih =>
    intro rows r hr
    obtain ⟨i, v⟩ := p
    simp only [goR] at hr ⊢
    split at hr
    · rename_i h2
      rw [if_pos (cellsOK_mono h h2)]
      split at hr
      · rename_i h3
        rw [if_pos h3]
        split at hr
        · rename_i h4; rw [if_pos h4]; exact ih _ _ hr
        · cases hr
      · cases hr
    · cases hr

theorem buildA_mono (h : LeS m sto) {t : TypeId} {parts : List (Nat × AVal)} {r : List AVal} (hr : buildA P m t parts = some r) : buildA P sto t parts = some r := by
  unfold buildA at hr ⊢
  split at hr
  · rename_i h1
    rw [if_pos h1]
    obtain ⟨z, hz, hr⟩ := Option.bind_eq_some_iff.1 hr
    rw [hz]; exact goB_mono h _ _ _ hr
  · cases hr

theorem rowsA_mono (h : LeS m sto) {e : TypeId} {len : Nat} {parts : List (Nat × AVal)} {r : List (List AVal)} (hr : rowsA P m e len parts = some r) : rowsA P sto e len parts = some r := by
  unfold rowsA at hr ⊢
  obtain ⟨z, hz, hr⟩ := Option.bind_eq_some_iff.1 hr
  rw [hz]
  simp only [Option.bind_some]
  split at hr
  · rename_i h1; rw [if_pos h1]; exact goR_mono h _ _ _ hr
  · cases hr

theorem idxA_mono (h : LeS m sto) {t : TypeId} {x y : AVal} {i : Int} (hr : idxA P m t x i = some y) : idxA P sto t x i = some y := by
  unfold idxA at hr ⊢
  split at hr
  · rename_i h0
    rw [if_pos h0]
    have arr : ∀ {r : Option (Nat × TypeId)}, (match r with | some (n, e) => if i.toNat < n then (lay P e).bind fun q => ptrAdd m x (i.toNat * q.2) else none | none => none) = some y →
        (match r with | some (n, e) => if i.toNat < n then (lay P e).bind fun q => ptrAdd sto x (i.toNat * q.2) else none | none => none) = some y := by
      intro r hr
      split at hr
      · split at hr
        · rename_i h1
          obtain ⟨q, hq, hr⟩ := Option.bind_eq_some_iff.1 hr
          simp only [h1, if_true, hq, Option.bind_some]
          exact ptrAdd_mono h hr
        · cases hr
      · cases hr
    cases x with
    | slc sz rows c => exact hr
    | bsl b n =>
      simp only at hr ⊢
      rcases h b with (e | e) | e
      · simp [e] at hr
      · simp [e] at hr
      · rw [← e]; exact hr
    | _ => exact arr hr
  · cases hr

theorem builtinA_mono (h : LeS m sto) {id : Nat} {b : Builtin} {ts : List TypeId} {args : List AVal} {y : AVal × List (Nat × Blk)} (hr : builtinA P m id b ts args = some y) : builtinA P sto id b ts args = some y := by
  unfold builtinA at hr ⊢
  split at hr
  · obtain ⟨z, hz, hr⟩ := Option.map_eq_some_iff.1 hr
    simp only [lenS_mono h hz, Option.map_some, hr]
  · obtain ⟨z, hz, hr⟩ := Option.map_eq_some_iff.1 hr
    simp only [capA_mono h hz, Option.map_some, hr]
  · exact appendA_mono h hr
  · exact hr
  · exact hr
  · cases hr

theorem slcX_mono (h : LeS m sto) {x : AVal} (hx : slcX m x = true) : slcX sto x = true := by
  cases x with
  | sub b n lo len cap => exact solid_mono h (x := .sub b n lo len cap) hx
  | csl => rfl
  | slc sz rows cap => cases rows with
    | nil => simp [slcX] at hx
    | cons => rfl
  | _ => simp [slcX] at hx
theorem nilA_mono (h : LeS m sto) {op : BinOp} {t : TypeId} {y : Operand} {a b r : AVal} (hr : nilA P m op t y a b = some r) : nilA P sto op t y a b = some r := by
  cases a <;> cases b <;> simp only [nilA] at hr ⊢ <;> first
    | exact hr
    | (split at hr
       · rename_i hc
         simp only [Bool.and_eq_true] at hc
         rw [if_pos (by simp only [Bool.and_eq_true]; exact ⟨hc.1, slcX_mono h hc.2.1, hc.2.2⟩)]
         exact hr
       · cases hr)
theorem den_mono {C : Ctx} {ρ : Operand → AVal} (h : LeS m sto) {id : Nat} {own : Bool} {op : Op} {y : AVal × List (Nat × Blk)} (hr : den C ρ m id own op = some y) : den C ρ sto id own op = some y := by
  cases op <;> simp only [den] at hr ⊢ <;> try exact hr
  case box t x =>
    split at hr
    · rename_i h1; rw [if_pos (solidAll_mono h h1)]; exact hr
    · cases hr
  case binOp op t x y u =>
    obtain ⟨z, hz, hr⟩ := Option.map_eq_some_iff.1 hr
    cases hn : nilA C.P m op t y (ρ x) (ρ y) with
    | some r => rw [hn] at hz; rw [nilA_mono h hn, hz, Option.map_some, hr]
    | none => rw [hn, Option.none_or] at hz; rw [nil_of_bin hz, Option.none_or, hz, Option.map_some, hr]
  case build t ps =>
    obtain ⟨z, hz, hr⟩ := Option.map_eq_some_iff.1 hr
    rw [buildA_mono h hz, Option.map_some, hr]
  case buildSlice t len ps =>
    split at hr
    · obtain ⟨z, hz, hr⟩ := Option.bind_eq_some_iff.1 hr
      rename_i h1
      simp only [rowsA_mono h hz, Option.bind_some]
      exact hr
    · cases hr
  case load t x =>
    obtain ⟨q, hq, hr⟩ := Option.bind_eq_some_iff.1 hr
    obtain ⟨cs, hcs, hr⟩ := Option.bind_eq_some_iff.1 hr
    rw [hq, Option.bind_some, rdCells_mono h hcs, Option.bind_some]; exact hr
  case store t p x =>
    obtain ⟨q, hq, hr⟩ := Option.bind_eq_some_iff.1 hr
    rw [hq, Option.bind_some]
    split at hr
    · rename_i h1
      rw [if_pos h1]
      split at hr
      · rename_i h2
        rw [if_pos (solidAll_mono h h2)]
        obtain ⟨z, hz, hr⟩ := Option.map_eq_some_iff.1 hr
        rw [wrCells_mono h hz, Option.map_some, hr]
      · cases hr
    · cases hr
  case convert s d x =>
    cases hmk : markA C.P m s d (ρ x) with
    | some r' =>
      rw [hmk] at hr
      rw [markA_mono h hmk]; exact hr
    | none =>
      rw [hmk] at hr
      obtain ⟨z, hz, hr⟩ := Option.map_eq_some_iff.1 hr
      have hz' := convA_mono h hz
      rw [markA_conv hz', hz', Option.map_some, hr]
  case slice t x lo hi mx => exact sliceA_mono h hr
  case fieldAddr t x f =>
    split at hr
    · split at hr
      · cases hr
      · rename_i h1
        rw [if_neg h1]
        obtain ⟨z, hz, hr⟩ := Option.map_eq_some_iff.1 hr
        rw [ptrAdd_mono h hz, Option.map_some, hr]
    · cases hr
  case indexAddr t x i =>
    split at hr
    · obtain ⟨z, hz, hr⟩ := Option.map_eq_some_iff.1 hr
      rw [idxA_mono h hz, Option.map_some, hr]
    · cases hr
  case next it s =>
    cases s
    · cases hr
    · simp only at hr ⊢
      split at hr
      · rename_i b hb
        rcases h b with (e | e) | e
        · simp [e] at hr
        · simp [e] at hr
        · rw [← e]; exact hr
      · cases hr
  case call c =>
    split at hr
    · exact builtinA_mono h hr
    · cases hr

theorem newRowsX_mono (h : LeS m sto) {t : TypeId} {x : AVal} {r : Nat × List (List AVal)} (hr : newRowsX P m t x = some r) : newRowsX P sto t x = some r := by
  cases x <;> simp only [newRowsX] at hr ⊢ <;> first
    | exact newRows_mono h hr
    | (rename_i b n lo len cp
       split at hr
       · rename_i h1
         rw [if_pos h1]
         rcases h b with (e | e) | e
         · simp [e] at hr
         · simp [e] at hr
         · rw [← e]; exact hr
       · cases hr)
    | (rename_i b off sz len cp
       split at hr
       · rename_i h1
         rw [if_pos h1]
         split at hr
         · rename_i h2
           rw [if_pos h2]
           split at hr
           · rename_i t0 cs hb
             have hb' : sto[b]? = some (.cells t0 cs) := by
               rcases h b with (e | e) | e
               · rw [e] at hb; cases hb
               · rw [e] at hb; cases hb
               · rw [← e]; exact hb
             rw [hb']
             split at hr
             · rename_i h3
               split at hr
               · rename_i h4
                 simp only [if_pos h3, if_pos (solidAll_mono h h4)]
                 exact hr
               · cases hr
             · cases hr
           · cases hr
         · cases hr
       · cases hr)
theorem convX_mono (h : LeS m sto) {src dst : TypeId} {x y : AVal} (hr : convX P m src dst x = some y) : convX P sto src dst x = some y := by
  unfold convX at hr ⊢
  split at hr
  · rename_i h1
    rw [if_pos h1]
    split at hr
    · rename_i h2
      rw [if_pos h2]
      split at hr
      · split at hr
        · cases hn : newRowsX P m src x with
          | none => rw [hn] at hr; cases hr
          | some p => rw [hn] at hr; rw [newRowsX_mono h hn]; exact hr
        · cases hr
      · cases hr
    · cases hr
  · cases hr

theorem appendB_mono (h : LeS m sto) {id : Nat} {e : TypeId} {new : List (List AVal)} {s : AVal} {y : AVal × List (Nat × Blk)} (hr : appendB P m id e new s = some y) : appendB P sto id e new s = some y := by
  unfold appendB at hr ⊢
  split at hr
  · exact hr
  · rename_i b n lo len cp
    rcases h b with (e' | e') | e'
    · simp [e'] at hr
    · simp [e'] at hr
    · rw [e'] at hr; exact hr
  · cases hr

theorem appendX_mono (h : LeS m sto) {id : Nat} {t tx : TypeId} {s x : AVal} {y : AVal × List (Nat × Blk)} (hr : appendX P m id t tx s x = some y) : appendX P sto id t tx s x = some y := by
  unfold appendX at hr ⊢
  split at hr
  · rename_i e sx new he hn
    rw [he, newRowsX_mono h hn]
    simp only at hr ⊢
    split at hr
    · rename_i h1
      rw [if_pos h1]
      split at hr
      · rename_i h2
        rw [if_pos h2]
        split at hr
        · rename_i h3
          rw [if_pos h3]
          exact appendB_mono h hr
        · cases hr
      · cases hr
    · cases hr
  · cases hr

theorem sliceX_mono (h : LeS m sto) {t : TypeId} {x : AVal} {lo hi mx : Option AVal} {y : AVal × List (Nat × Blk)} (hr : sliceX P m t x lo hi mx = some y) : sliceX P sto t x lo hi mx = some y := by
  cases x <;> simp only [sliceX] at hr ⊢ <;> first
    | exact hr
    | cases hr
    | (rename_i b n l0 len cp
       obtain ⟨e, he, hr⟩ := Option.bind_eq_some_iff.1 hr
       rw [he, Option.bind_some]
       rcases h b with (e' | e') | e'
       · simp [e'] at hr
       · simp [e'] at hr
       · rw [← e']; exact hr)

theorem idxX_mono (h : LeS m sto) {t : TypeId} {x y : AVal} {i : Int} (hr : idxX P m t x i = some y) : idxX P sto t x i = some y := by
  unfold idxX at hr ⊢
  split at hr
  · rename_i h0
    rw [if_pos h0]
    cases x <;> simp only at hr ⊢ <;> first
      | exact hr
      | cases hr
      | (rename_i b n l0 len cp
         obtain ⟨e, he, hr⟩ := Option.bind_eq_some_iff.1 hr
         rw [he, Option.bind_some]
         rcases h b with (e' | e') | e'
         · simp [e'] at hr
         · simp [e'] at hr
         · rw [← e']; exact hr)
  · cases hr

theorem lenX_mono (h : LeS m sto) {t : TypeId} {x y : AVal} (hr : lenX P m t x = some y) : lenX P sto t x = some y := by
  cases x <;> simp only [lenX] at hr ⊢ <;> first
    | exact hr
    | cases hr
    | (split at hr
       · rename_i h1
         rw [if_pos h1]
         split at hr
         · rename_i h2
           rw [if_pos (curOf_mono h h2)]; exact hr
         · cases hr
       · cases hr)
    | (rename_i b
       split at hr
       · rename_i h1
         rw [if_pos h1]
         rcases h b with (e' | e') | e'
         · simp [e'] at hr
         · simp [e'] at hr
         · rw [← e']; exact hr
       · cases hr)

theorem capX_mono (h : LeS m sto) {t : TypeId} {x y : AVal} (hr : capX P m t x = some y) : capX P sto t x = some y := by
  unfold capX at hr ⊢
  split at hr
  · split at hr
    · rename_i h1
      rw [if_pos h1]
      split at hr
      · rename_i h2
        rw [if_pos (curOf_mono h h2)]; exact hr
      · cases hr
    · cases hr
  · exact hr
  · cases hr

theorem copyX_mono (h : LeS m sto) {t tx : TypeId} {d x : AVal} {y : AVal × List (Nat × Blk)} (hr : copyX P m t tx d x = some y) : copyX P sto t tx d x = some y := by
  unfold copyX at hr ⊢
  split at hr
  · rename_i e sx new he hn
    rw [he, newRowsX_mono h hn]
    simp only at hr ⊢
    split at hr
    · rename_i b n lo len cp
      rcases h b with (e' | e') | e'
      · simp [e'] at hr
      · simp [e'] at hr
      · rw [← e']; exact hr
    · rename_i b off sz len cp
      rcases h b with (e' | e') | e'
      · simp [e'] at hr
      · simp [e'] at hr
      · rw [← e']; exact hr
    · cases hr
  · cases hr

theorem lookM_mono (h : LeS m sto) {kt : TypeId} {k p : AVal} {q : Option (Nat × AVal × Nat)} (hr : lookM P m kt k p = some q) : lookM P sto kt k p = some q := by
  cases p <;> simp only [lookM] at hr ⊢ <;> first
    | exact hr
    | cases hr
    | (rename_i b
       rcases h b with (e' | e') | e'
       · simp [e'] at hr
       · simp [e'] at hr
       · rw [← e']; exact hr)

theorem lookX_mono (h : LeS m sto) {t : TypeId} {p k y : AVal} {ok : Bool} (hr : lookX P m t p k ok = some y) : lookX P sto t p k ok = some y := by
  unfold lookX at hr
  split at hr
  · rename_i kt e hmt
    split at hr
    · rename_i hk
      obtain ⟨q, hq, hr⟩ := Option.bind_eq_some_iff.1 hr
      unfold lookX
      rw [hmt]
      simp only [hk, if_true]
      rw [lookM_mono h hq, Option.bind_some]; exact hr
    · cases hr
  · cases hr

theorem updX_mono (h : LeS m sto) {t : TypeId} {p k v : AVal} {y : List (Nat × Blk)} (hr : updX P m t p k v = some y) : updX P sto t p k v = some y := by
  unfold updX at hr
  split at hr
  · rename_i kt e b hmt
    rcases h b with (e' | e') | e'
    · simp [e'] at hr
    · simp [e'] at hr
    · rw [e'] at hr; unfold updX; rw [hmt]; exact hr
  · cases hr

theorem delX_mono (h : LeS m sto) {t : TypeId} {p k : AVal} {y : List (Nat × Blk)} (hr : delX P m t p k = some y) : delX P sto t p k = some y := by
  unfold delX at hr
  split at hr
  · rename_i kt e b hmt
    rcases h b with (e' | e') | e'
    · simp [e'] at hr
    · simp [e'] at hr
    · rw [e'] at hr; unfold delX; rw [hmt]; exact hr
  · cases hr

theorem entX_mono (h : LeS m sto) {t : TypeId} {p k : AVal} {y : AVal × List (Nat × Blk)} (hr : entX P m t p k = some y) : entX P sto t p k = some y := by
  unfold entX at hr
  split at hr
  · rename_i kt e b hmt
    rcases h b with (e' | e') | e'
    · simp [e'] at hr
    · simp [e'] at hr
    · rw [e'] at hr; unfold entX; rw [hmt]; exact hr
  · cases hr

theorem storeX_mono (h : LeS m sto) {p s v : AVal} {y : List (Nat × Blk)} (hr : storeX m p s v = some y) : storeX sto p s v = some y := by
  unfold storeX at hr ⊢
  split at hr
  · rename_i b k n
    rcases h b with (e' | e') | e'
    · simp [e'] at hr
    · simp [e'] at hr
    · rw [e'] at hr; exact hr
  · cases hr

theorem clearX_mono (h : LeS m sto) {t : TypeId} {d : AVal} {y : List (Nat × Blk)} (hr : clearX P m t d = some y) : clearX P sto t d = some y := by
  cases d <;> simp only [clearX] at hr ⊢ <;> first
    | cases hr
    | (rename_i b n lo len cp
       rcases h b with (e' | e') | e'
       · simp [e'] at hr
       · simp [e'] at hr
       · rw [← e']; exact hr)

theorem builtinX_mono (h : LeS m sto) {id : Nat} {b : Builtin} {ts : List TypeId} {args : List AVal} {y : AVal × List (Nat × Blk)} (hr : builtinX P m id b ts args = some y) : builtinX P sto id b ts args = some y := by
  unfold builtinX at hr ⊢
  split at hr
  · obtain ⟨z, hz, hr⟩ := Option.map_eq_some_iff.1 hr
    simp only [lenX_mono h hz, Option.map_some]; exact congrArg some hr
  · obtain ⟨z, hz, hr⟩ := Option.map_eq_some_iff.1 hr
    simp only [capX_mono h hz, Option.map_some]; exact congrArg some hr
  · exact appendX_mono h hr
  · exact copyX_mono h hr
  · obtain ⟨z, hz, hr⟩ := Option.map_eq_some_iff.1 hr
    simp only [delX_mono h hz, Option.map_some]; exact congrArg some hr
  · obtain ⟨z, hz, hr⟩ := Option.map_eq_some_iff.1 hr
    simp only [clearX_mono h hz, Option.map_some]; exact congrArg some hr
  · cases hr

theorem denx_mono {C : Ctx} {ρ : Operand → AVal} (h : LeS m sto) {id : Nat} {op : Op} {y : AVal × List (Nat × Blk)} (hr : denx C ρ m id op = some y) : denx C ρ sto id op = some y := by
  cases op <;> simp only [denx] at hr ⊢ <;> try exact hr
  case buildSlice t len ps =>
    split at hr
    · obtain ⟨z, hz, hr⟩ := Option.bind_eq_some_iff.1 hr
      simp only [rowsA_mono h hz, Option.bind_some]
      split at hr
      · rename_i h1
        rw [if_pos h1]
        split at hr
        · rename_i h2
          rw [if_pos h2]
          split at hr
          · rename_i h3
            rw [if_pos]
            · exact hr
            · rw [List.all_eq_true] at h3 ⊢
              exact fun r hr' => solidAll_mono h (h3 r hr')
          · cases hr
        · cases hr
      · cases hr
    · cases hr
  case convert src dst x =>
    obtain ⟨z, hz, hr⟩ := Option.map_eq_some_iff.1 hr
    rw [convX_mono h hz, Option.map_some, hr]
  case slice t x lo hi mx => exact sliceX_mono h hr
  case indexAddr t x i =>
    split at hr
    · obtain ⟨z, hz, hr⟩ := Option.map_eq_some_iff.1 hr
      rw [idxX_mono h hz, Option.map_some, hr]
    · cases hr
  case lookup t p k ok =>
    obtain ⟨z, hz, hr⟩ := Option.map_eq_some_iff.1 hr
    rw [lookX_mono h hz, Option.map_some, hr]
  case mapUpdate t p k v =>
    obtain ⟨z, hz, hr⟩ := Option.map_eq_some_iff.1 hr
    rw [updX_mono h hz, Option.map_some, hr]
  case insert t p k v =>
    obtain ⟨z, hz, hr⟩ := Option.map_eq_some_iff.1 hr
    rw [updX_mono h hz, Option.map_some, hr]
  case mapEntry t p k => exact entX_mono h hr
  case entryStore t p s v =>
    obtain ⟨z, hz, hr⟩ := Option.map_eq_some_iff.1 hr
    rw [storeX_mono h hz, Option.map_some, hr]
  case call c =>
    split at hr
    · exact builtinX_mono h hr
    · cases hr

theorem denx_congr {C : Ctx} {ρ ρ' : Operand → AVal} {id : Nat} {op : Op} (h : ∀ x ∈ op.operands, ρ x = ρ' x) : denx C ρ m id op = denx C ρ' m id op := by
  have pairs : ∀ ps : Array (Nat × Operand), (∀ x ∈ ps.map (·.2), ρ x = ρ' x) →
      (ps.toList.map fun p => (p.1, ρ p.2)) = (ps.toList.map fun p => (p.1, ρ' p.2)) := fun ps hp =>
    List.map_congr_left fun p hm => by
      rw [hp p.2 (Array.mem_map.2 ⟨p, Array.mem_toList_iff.1 hm, rfl⟩)]
  cases op <;> simp only [Op.operands] at h <;> simp only [denx]
  case buildSlice t n ps => rw [pairs ps fun x hx => h x (by simpa using hx)]
  case call c =>
    cases hc : c.callee <;> simp only
    rw [List.map_congr_left (l := c.args.toList) fun x hx => h x (by simp at hx; simp [Call.operands, hc, hx])]
  case slice t x lo hi mx => cases lo <;> cases hi <;> cases mx <;> simp_all
  case makeMap t r => cases r <;> simp_all
  all_goals (first | rfl | (simp_all; done))

theorem den_congr {C : Ctx} {ρ ρ' : Operand → AVal} {id : Nat} {own : Bool} {op : Op} (h : ∀ x ∈ op.operands, ρ x = ρ' x) : den C ρ m id own op = den C ρ' m id own op := by
  have pairs : ∀ ps : Array (Nat × Operand), (∀ x ∈ ps.map (·.2), ρ x = ρ' x) →
      (ps.toList.map fun p => (p.1, ρ p.2)) = (ps.toList.map fun p => (p.1, ρ' p.2)) := fun ps hp =>
    List.map_congr_left fun p hm => by
      rw [hp p.2 (Array.mem_map.2 ⟨p, Array.mem_toList_iff.1 hm, rfl⟩)]
  cases op <;> simp only [Op.operands] at h <;> simp only [den]
  case build t ps => rw [pairs ps fun x hx => h x (by simpa using hx)]
  case buildSlice t n ps => rw [pairs ps fun x hx => h x (by simpa using hx)]
  case makeFunc fn first captured =>
    rw [List.map_congr_left (l := first.toList) fun x hx => h x (by simp at hx; simp [hx]), List.map_congr_left (l := captured.toList) fun x hx => h x (by simp at hx; simp [hx])]
  case call c =>
    cases hc : c.callee <;> simp only
    rw [List.map_congr_left (l := c.args.toList) fun x hx => h x (by simp at hx; simp [Call.operands, hc, hx])]
  case slice t x lo hi mx => cases lo <;> cases hi <;> cases mx <;> simp_all
  case next it s => cases s <;> simp_all
  all_goals (first | rfl | (simp_all; done))

end
end Go.Proofs.YtaajfbcopafkaaaGreatDoor.Ai

namespace Go.Proofs.YtaajfbcopafkaaaGreatDoor.Ai
open Go
set_option linter.unusedVariables false
set_option linter.unusedSimpArgs false

section
variable {z0 : Z} {dz : List Deferred} {ro : Option Nat}
variable {C : Ctx} {CF : CallRel} {own : Tmp → Bool} {ops : Array Oper}

theorem mask_le (sto : List Blk) (rd : List Nat) : LeS (mask sto rd) sto := by
  intro b
  rw [mask_get]
  cases sto[b]? with
  | none => exact .inl (.inl rfl)
  | some B =>
    by_cases h : rd.contains b = true
    · right; simp only [Option.map_some, h, if_true]
    · left; right; simp only [Option.map_some, h]; rfl

theorem mask_congr {sto sto' : List Blk} {rd : List Nat} (hl : sto.length = sto'.length) (h : ∀ b, b ∈ rd → sto[b]? = sto'[b]?) : mask sto rd = mask sto' rd := by
  apply List.ext_getElem?
  intro b
  rw [mask_get, mask_get]
  by_cases hb : rd.contains b = true
  · rw [h b (by simpa using hb)]
  · cases h1 : sto[b]? with
    | none =>
      have : sto'[b]? = none := List.getElem?_eq_none (by rw [← hl]; exact List.getElem?_eq_none_iff.1 h1)
      rw [this]
    | some B =>
      have hlt : b < sto'.length := by rw [← hl]; exact (List.getElem?_eq_some_iff.1 h1).1
      rw [List.getElem?_eq_getElem hlt]
      simp only [Option.map_some, if_neg hb]

theorem view_mono {m sto : List Blk} (h : LeS m sto) : ∀ (d : Nat) (x : AVal), noref (view m d x) = true → view sto d x = view m d x ∧ refsOf sto d x = refsOf m d x := by
  intro d
  induction d with
  | zero => intro x hn; simp [view, noref] at hn
  | succ d ih =>
    have lst : ∀ (xs : List AVal), (∀ x, x ∈ xs → noref (view m d x) = true) → xs.map (view sto d) = xs.map (view m d) ∧ xs.map (refsOf sto d) = xs.map (refsOf m d) := fun xs hx =>
      ⟨List.map_congr_left fun x hm => (ih x (hx x hm)).1, List.map_congr_left fun x hm => (ih x (hx x hm)).2⟩
    intro x hn
    cases x with
    | bsl b n =>
      simp only [view, refsOf] at hn ⊢
      rcases h b with (e | e) | e
      · simp [e, noref] at hn
      · simp [e, noref] at hn
      · rw [e]; refine ⟨?_, ?_⟩ <;> first | rfl | trivial
    | ptr b off =>
      simp only [view, refsOf] at hn ⊢
      rcases h b with (e | e) | e
      · simp [e, noref] at hn
      · simp [e, noref] at hn
      · rw [e] at hn ⊢
        split at hn
        · rename_i t cs hb
          split at hn
          · rename_i hall
            have := lst cs fun x hx => by
              have := List.all_eq_true.1 hall (view m d x) (List.mem_map_of_mem hx)
              simp only [Bool.and_eq_true] at this
              exact this.2
            simp only [this.1, this.2, and_self]
          · simp [noref] at hn
        · simp [noref] at hn
    | eptr b n i j => simp [view, noref] at hn
    | sub b n l k c => simp [view, noref] at hn
    | csl b n l k c => simp [view, noref] at hn
    | mapr b => simp [view, noref] at hn
    | agg cs =>
      simp only [view, refsOf, noref] at hn ⊢
      have := lst cs (view_norefL hn)
      rw [this.1, this.2]; exact ⟨rfl, rfl⟩
    | tup cs =>
      simp only [view, refsOf, noref] at hn ⊢
      have := lst cs (view_norefL hn)
      rw [this.1, this.2]; exact ⟨rfl, rfl⟩
    | func f a b =>
      simp only [view, refsOf, noref, Bool.and_eq_true] at hn ⊢
      have h1 := lst a (view_norefL hn.1)
      have h2 := lst b (view_norefL hn.2)
      rw [h1.1, h1.2, h2.1, h2.2]; exact ⟨rfl, rfl⟩
    | iface t y =>
      simp only [view, refsOf, noref] at hn ⊢
      have := ih y hn
      rw [this.1, this.2]; exact ⟨rfl, rfl⟩
    | _ => exact ⟨rfl, rfl⟩

theorem OpDo.mono {id : Nat} {o : Oper} {tmps : List AVal} {m sto : List Blk} {v : AVal} {ws : List (Nat × Blk)} (hm : LeS m sto) (h : OpDo C CF own ops id o tmps m v ws) : OpDo C CF own ops id o tmps sto v ws := by
  cases h with
  | skip hg => exact .skip hg
  | den hg h => exact .den hg (den_mono hm h)
  | ext hg h => exact .ext hg (denx_mono hm h)
  | @call c f g first caps r hg ho hc hf xs args' hargs hno hle h hr =>
    have hx : ∀ x, x ∈ first ++ c.args.toList.map (tmpEval C tmps) ++ caps → noref (view m 4 x) = true := view_norefL (by rw [hargs]; exact hno)
    have e1 : (first ++ c.args.toList.map (tmpEval C tmps) ++ caps).map (view sto 4) = xs := by
      rw [← hargs]; exact List.map_congr_left fun x hm' => (view_mono hm 4 x (hx x hm')).1
    have e2 : (first ++ c.args.toList.map (tmpEval C tmps) ++ caps).map (refsOf sto 4) = (first ++ c.args.toList.map (tmpEval C tmps) ++ caps).map (refsOf m 4) :=
      List.map_congr_left fun x hm' => (view_mono hm 4 x (hx x hm')).2
    rw [← e2]
    exact .call hg ho hc hf xs args' e1 hno hle h hr

theorem OpDo.congr {id : Nat} {o : Oper} {tmps tmps' : List AVal} {sto : List Blk} {v : AVal} {ws : List (Nat × Blk)} (ht : ∀ t, t ∈ o.looksAt ops → tmps.getD t .dead = tmps'.getD t .dead)
    (h : OpDo C CF own ops id o tmps sto v ws) : OpDo C CF own ops id o tmps' sto v ws := by
  have hev : ∀ x, x ∈ o.op.operands → tmpEval C tmps x = tmpEval C tmps' x := by
    intro x hx
    cases x with
    | tmp t => exact ht t (List.mem_append_left _ (List.mem_filterMap.2 ⟨.tmp t, by simpa using hx, rfl⟩))
    | _ => rfl
  have hgd : guardOf ops tmps o = guardOf ops tmps' o := by
    unfold guardOf
    cases hg : o.guard with
    | none => rfl
    | some p =>
      obtain ⟨j, want⟩ := p
      simp only
      cases hd : (ops[j]?).bind (·.dst) with
      | none => rfl
      | some d => simp only; rw [ht d (by simp [Oper.looksAt, hg, hd])]
  cases h with
  | skip hg => exact .skip (hgd ▸ hg)
  | den hg h => exact .den (hgd ▸ hg) (by rw [← den_congr hev]; exact h)
  | ext hg h => exact .ext (hgd ▸ hg) (by rw [← denx_congr hev]; exact h)
  | @call c f g first caps r hg ho hc hf xs args' hargs hno hle h hr =>
    have hf' : tmpEval C tmps' f = .func g first caps := by rw [← hev f (by simp [ho, Op.operands, Call.operands, hc])]; exact hf
    have ha : c.args.toList.map (tmpEval C tmps) = c.args.toList.map (tmpEval C tmps') := List.map_congr_left fun x hx => hev x (by simp at hx; simp [ho, Op.operands, Call.operands, hc, hx])
    rw [ha] at hargs ⊢
    exact .call (hgd ▸ hg) ho hc hf' xs args' hargs hno hle h hr

theorem put_looks {tmps : List AVal} {dst : Option Tmp} {v : AVal} {l : List Tmp} (h : ∀ d, dst = some d → d ∉ l) : ∀ t, t ∈ l → tmps.getD t .dead = (put tmps dst v).getD t .dead := by
  intro t ht
  cases dst with
  | none => rfl
  | some d =>
    have hne : d ≠ t := fun e => h d rfl (e ▸ ht)
    simp only [put, List.getD_eq_getElem?_getD]
    rw [List.getElem?_set_ne hne]

theorem put_comm {tmps : List AVal} {x y : Option Tmp} {v u : AVal} (h : ∀ d, x = some d → y ≠ some d) : put (put tmps x v) y u = put (put tmps y u) x v := by
  cases x with
  | none => rfl
  | some d =>
    cases y with
    | none => rfl
    | some e =>
      have hne : d ≠ e := fun he => h d rfl (he ▸ rfl)
      simp only [put]
      exact List.set_comm _ _ hne

theorem wr1_in {sto : List Blk} {b : Nat} {B : Blk} (h : b < sto.length) : wr1 sto b B = sto.set b B := by simp [wr1, h]

theorem wrs_length {ws : List (Nat × Blk)} : ∀ {sto : List Blk}, (∀ p, p ∈ ws → p.1 < sto.length) → (wrs sto ws).length = sto.length := by
  induction ws with
  | nil => intro sto _; rfl
  | cons p ws ih =>
    intro sto h
    obtain ⟨b, B⟩ := p
    simp only [wrs]
    rw [wr1_in (h (b, B) List.mem_cons_self), ih (fun p hp => by rw [List.length_set]; exact h p (List.mem_cons_of_mem _ hp)), List.length_set]

theorem wrs_get {ws : List (Nat × Blk)} : ∀ {sto : List Blk}, (∀ p, p ∈ ws → p.1 < sto.length) → ∀ b, b ∉ ws.map (·.1) → (wrs sto ws)[b]? = sto[b]? := by
  induction ws with
  | nil => intro sto _ b _; rfl
  | cons p ws ih =>
    intro sto h b hb
    obtain ⟨c, B⟩ := p
    simp only [List.map_cons, List.mem_cons, not_or] at hb
    simp only [wrs]
    rw [wr1_in (h (c, B) List.mem_cons_self), ih (fun p hp => by rw [List.length_set]; exact h p (List.mem_cons_of_mem _ hp)) b hb.2, List.getElem?_set_ne (Ne.symm hb.1)]

theorem wrs_set {ws : List (Nat × Blk)} : ∀ {sto : List Blk} {b : Nat} {B : Blk}, (∀ p, p ∈ ws → p.1 < sto.length) → b ∉ ws.map (·.1) → wrs (sto.set b B) ws = (wrs sto ws).set b B := by
  induction ws with
  | nil => intro sto b B _ _; rfl
  | cons p ws ih =>
    intro sto b B h hb
    obtain ⟨c, D⟩ := p
    simp only [List.map_cons, List.mem_cons, not_or] at hb
    have hc := h (c, D) List.mem_cons_self
    simp only [wrs]
    rw [wr1_in hc, wr1_in (by rw [List.length_set]; exact hc), List.set_comm _ _ hb.1]
    exact ih (fun p hp => by rw [List.length_set]; exact h p (List.mem_cons_of_mem _ hp)) hb.2

theorem wrs_comm {ws : List (Nat × Blk)} : ∀ {us : List (Nat × Blk)} {sto : List Blk}, (∀ p, p ∈ ws → p.1 < sto.length) → (∀ p, p ∈ us → p.1 < sto.length) → (∀ b, b ∈ ws.map (·.1) → b ∉ us.map (·.1)) → wrs (wrs sto ws) us = wrs (wrs sto us) ws := by
  induction ws with
  | nil => intro us sto _ _ _; rfl
  | cons p ws ih =>
    intro us sto h1 h2 h3
    obtain ⟨b, B⟩ := p
    have hb := h1 (b, B) List.mem_cons_self
    simp only [wrs]
    rw [wr1_in hb, wr1_in (by rw [wrs_length h2]; exact hb)]
    rw [ih (fun p hp => by rw [List.length_set]; exact h1 p (List.mem_cons_of_mem _ hp)) (fun p hp => by rw [List.length_set]; exact h2 p hp) (fun c hc => h3 c (by simp at hc ⊢; exact .inr hc))]
    rw [wrs_set h2 (h3 b (by simp))]

theorem gones_wrs : ∀ (bs : List Nat) (sto : List Blk), (∀ b, b ∈ bs → b < sto.length) → gones sto bs = wrs sto (bs.map fun b => (b, Blk.gone)) := by
  intro bs
  induction bs with
  | nil => intro sto _; rfl
  | cons b bs ih =>
    intro sto h
    simp only [gones, List.map_cons, wrs]
    rw [wr1_in (h b List.mem_cons_self)]
    exact ih _ fun c hc => by rw [List.length_set]; exact h c (List.mem_cons_of_mem _ hc)

theorem disj_spec {a b : List Nat} (h : disj a b = true) : ∀ x, x ∈ a → x ∉ b := by
  intro x hx hb
  have := List.all_eq_true.1 h x hx
  simp [hb] at this

theorem liveB_iff {sto : List Blk} {b : Nat} (h : liveB sto b = true) : live sto b := by
  unfold liveB at h
  cases hb : sto[b]? with
  | none => rw [hb] at h; cases h
  | some B => rw [hb] at h; exact live_iff.2 ⟨B, hb, by cases B <;> first | rfl | cases h⟩

theorem merge_wrs {sto sto1 : List Blk} {rd : List Nat} {ws : List (Nat × Blk)} (hl : sto.length ≤ sto1.length) (hin : ∀ p, p ∈ ws → p.1 < sto.length) (hd : ∀ p, p ∈ ws → rd.contains p.1 = false) :
    merge (wrs sto ws) rd sto1 = wrs (merge sto rd sto1) ws := by
  induction ws generalizing sto with
  | nil => rfl
  | cons p ws ih =>
    obtain ⟨b, B⟩ := p
    have hb := hin (b, B) List.mem_cons_self
    have hc := hd (b, B) List.mem_cons_self
    simp only [wrs]
    have h1 : wr1 sto b B = sto.set b B := wr1_in hb
    have h2 : wr1 (merge sto rd sto1) b B = (merge sto rd sto1).set b B := wr1_in (by rw [merge_length hl]; exact Nat.lt_of_lt_of_le hb hl)
    have h3 : merge (sto.set b B) rd sto1 = (merge sto rd sto1).set b B := by
      refine List.ext_getElem? fun k => ?_
      rw [merge_get (by rw [List.length_set]; exact hl), List.getElem?_set, List.getElem?_set, merge_get hl, List.length_set, merge_length hl]
      by_cases e : b = k
      · subst e
        rw [if_pos ⟨hb, hc⟩, if_pos rfl, if_pos rfl, if_pos hb, if_pos (Nat.lt_of_lt_of_le hb hl)]
      · rw [if_neg e, if_neg e]
    rw [h1, h2, ih (by rw [List.length_set]; exact hl) (fun p hp => by rw [List.length_set]; exact hin p (List.mem_cons_of_mem _ hp)) (fun p hp => hd p (List.mem_cons_of_mem _ hp)), h3]

theorem OpLab.intro {id : Nat} {o : Oper} {l : Lab} {s : St} {v : AVal} {ws : List (Nat × Blk)} (h : OpDo C CF own ops id o s.tmps (mask s.sto l.rd) v ws) (hw : ws.map (·.1) = l.wr) (hin : ∀ p, p ∈ ws → p.1 < s.sto.length) (hf : l.full = none ∧ l.whole = false) :
    OpLab C CF own ops id o l s ⟨put s.tmps o.dst v, wrs s.sto ws⟩ := by
  refine .mk h hw (List.all_eq_true.2 fun b hb => ?_) hf
  rw [← hw] at hb
  obtain ⟨p, hp, rfl⟩ := List.mem_map.1 hb
  simpa using hin p hp

theorem args_apart {tmps tmps' : List AVal} {o : Oper} {c : Call} {f : Operand} (ho : o.op = .call c) (hc : c.callee = .value f) (ht : ∀ t, t ∈ o.looksAt ops → tmps.getD t .dead = tmps'.getD t .dead) :
    guardOf ops tmps o = guardOf ops tmps' o ∧ tmpEval C tmps f = tmpEval C tmps' f ∧ c.args.toList.map (tmpEval C tmps) = c.args.toList.map (tmpEval C tmps') := by
  have hev : ∀ x, x ∈ o.op.operands → tmpEval C tmps x = tmpEval C tmps' x := by
    intro x hx
    cases x with
    | tmp t => exact ht t (List.mem_append_left _ (List.mem_filterMap.2 ⟨.tmp t, by simpa using hx, rfl⟩))
    | _ => rfl
  refine ⟨?_, hev f (by simp [ho, Op.operands, Call.operands, hc]), List.map_congr_left fun x hx => hev x (by simp at hx; simp [ho, Op.operands, Call.operands, hc, hx])⟩
  unfold guardOf
  cases hg : o.guard with
  | none => rfl
  | some p =>
    obtain ⟨j, want⟩ := p
    simp only
    cases hd : (ops[j]?).bind (·.dst) with
    | none => rfl
    | some d => simp only; rw [ht d (by simp [Oper.looksAt, hg, hd])]

theorem opLab_swap {idi idj : Nat} {oi oj : Oper} {li lj : Lab} {s s1 s2 : St} (hap : oj.apart ops oi = true) (hin : indep lj li = true) (h1 : OpLab C CF own ops idj oj lj s s1) (h2 : OpLab C CF own ops idi oi li s1 s2) :
    ∃ s1', OpLab C CF own ops idi oi li s s1' ∧ OpLab C CF own ops idj oj lj s1' s2 := by
  obtain ⟨a1, a2, a3⟩ := Oper.apart_spec hap
  simp only [indep, Bool.and_eq_true] at hin
  obtain ⟨⟨⟨⟨⟨d1, d2⟩, d3⟩, d4⟩, d5⟩, d6, d7⟩ := hin
  have wh : ∀ {a b : Lab}, wholeOK a b = true → a.whole = true → b.rd = [] ∧ b.wr = [] ∧ b.full = none ∧ b.whole = false := fun {a b} h ha => by
    simp only [wholeOK, ha, Bool.not_true, Bool.false_or, Bool.and_eq_true, List.isEmpty_iff, Option.isNone_iff_eq_none, Bool.not_eq_true'] at h
    exact ⟨h.1.1.1, h.1.1.2, h.1.2, h.2⟩
  have lone : ∀ {a b : List Blk}, LeS (mask a []) (mask b []) := fun {a b} k => by
    left; rw [mask_get]
    cases a[k]? with
    | none => left; rfl
    | some B => right; rfl
  have nc : ∀ {a b : List Nat}, disj a b = true → ∀ x, x ∈ a → b.contains x = false := fun h x hx => by
    have := disj_spec h x hx
    simpa using this
  cases h1 with
  | @mk vj wj e1 e2 e3' e4 =>
    have e3 : ∀ p, p ∈ wj → p.1 < s.sto.length := fun p hp => by
      have := List.all_eq_true.1 e3' p.1 (e2 ▸ List.mem_map_of_mem hp)
      simpa using this
    cases h2 with
    | @mk vi wi f1 f2 f3' f4 =>
      have f3 : ∀ p, p ∈ wi → p.1 < s.sto.length := fun p hp => by
        have := List.all_eq_true.1 f3' p.1 (f2 ▸ List.mem_map_of_mem hp)
        simp only [decide_eq_true_eq] at this
        rwa [wrs_length e3] at this
      simp only at f1
      have m1 : mask (wrs s.sto wj) li.rd = mask s.sto li.rd := mask_congr (wrs_length e3) fun b hb => wrs_get e3 b (by rw [e2]; exact fun h => disj_spec d1 b h hb)
      have m2 : mask (wrs s.sto wi) lj.rd = mask s.sto lj.rd := mask_congr (wrs_length f3) fun b hb => wrs_get f3 b (by rw [f2]; exact fun h => disj_spec d3 b h hb)
      rw [m1] at f1
      have g1 : OpDo C CF own ops idi oi s.tmps (mask s.sto li.rd) vi wi := f1.congr fun t ht => (put_looks a1 t ht).symm
      have g2 : OpDo C CF own ops idj oj (put s.tmps oi.dst vi) (mask (wrs s.sto wi) lj.rd) vj wj := by
        rw [m2]; exact e1.congr (put_looks a3)
      refine ⟨_, .intro g1 f2 f3 f4, ?_⟩
      have := OpLab.intro (s := ⟨put s.tmps oi.dst vi, wrs s.sto wi⟩) g2 e2 (fun p hp => by rw [wrs_length f3]; exact e3 p hp) e4
      simp only at this ⊢
      rw [put_comm a2, wrs_comm e3 f3 (fun b hb => by rw [e2] at hb; rw [f2]; exact disj_spec d2 b hb)]
      exact this
    | @fcall c f g first caps r sto1 hg ho hc hf h hl hw hin hle hr hb =>
      simp only at hg hf h hl hin hle hr hb
      have hlen := wrs_length e3
      rw [hlen] at hl hle hr hb
      have m1 : mask (wrs s.sto wj) li.rd = mask s.sto li.rd := mask_congr hlen fun b hb => wrs_get e3 b (by rw [e2]; exact fun h => disj_spec d1 b h hb)
      rw [m1] at h
      obtain ⟨g1, g2, g3⟩ := args_apart (C := C) ho hc (fun t ht => put_looks a1 (v := vj) (tmps := s.tmps) t ht)
      have hdis : ∀ p, p ∈ wj → li.rd.contains p.1 = false := fun p hp => nc d1 p.1 (by rw [← e2]; exact List.mem_map_of_mem hp)
      have hw' : ∀ b, b ∈ li.rd → b ∈ li.wr ∨ sto1[b]? = s.sto[b]? := fun b hb => (hw b hb).imp id fun h9 => by
        rw [h9]; exact wrs_get e3 b (by rw [e2]; exact fun h => disj_spec d1 b h hb)
      have F := OpLab.fcall (C := C) (CF := CF) (own := own) (ops := ops) (id := idi) (o := oi) (l := li) (s := s) (c := c) (f := f) (g := g) (first := first) (caps := caps) (r := r) (sto1 := sto1) (by rw [g1]; exact hg) ho hc (by rw [g2]; exact hf) (by rw [g3]; exact h) hl hw'
        (List.all_eq_true.2 fun b hb' => by
          have := List.all_eq_true.1 hin b hb'
          have e : (wrs s.sto wj)[b]? = s.sto[b]? := wrs_get e3 b (by rw [e2]; exact fun h => disj_spec d1 b h hb')
          unfold liveB at this ⊢
          rw [e] at this; exact this) hle hr hb
      refine ⟨_, F, ?_⟩
      have hmm : LeS (mask s.sto lj.rd) (mask (merge s.sto li.rd sto1) lj.rd) := fun b => by
        rw [mask_get, mask_get, merge_get hle]
        by_cases hlt : b < s.sto.length
        · by_cases hbr : lj.rd.contains b = true
          · right
            cases hq : li.rd.contains b with
            | false => rw [if_pos ⟨hlt, rfl⟩]
            | true =>
              rcases hw' b (by simpa using hq) with h9 | h9
              · exact (disj_spec d3 b h9 (by simpa using hbr)).elim
              · rw [if_neg (by simp), h9]
          · left; right
            rw [List.getElem?_eq_getElem hlt, Option.map_some, if_neg hbr]
        · left; left
          rw [List.getElem?_eq_none (by omega)]; rfl
      have g4 : OpDo C CF own ops idj oj (put s.tmps oi.dst r) (mask (merge s.sto li.rd sto1) lj.rd) vj wj := (e1.congr (put_looks a3)).mono hmm
      have := OpLab.intro (s := ⟨put s.tmps oi.dst r, merge s.sto li.rd sto1⟩) g4 e2 (fun p hp => by show p.1 < (merge s.sto li.rd sto1).length; rw [merge_length hle]; exact Nat.lt_of_lt_of_le (e3 p hp) hle) e4
      simp only at this ⊢
      rw [put_comm a2, merge_wrs hle e3 hdis]
      exact this
    | @tcall c f g first caps r sto1 hg ho hc hf h hl hle =>
      obtain ⟨k1, k2, k3, k4⟩ := wh d7 hl
      have hw0 : wj = [] := by
        rw [k2] at e2; exact List.map_eq_nil_iff.1 e2
      subst hw0
      simp only [wrs] at hg hf h hle
      obtain ⟨g1, g2, g3⟩ := args_apart (C := C) ho hc (fun t ht => put_looks a1 (v := vj) (tmps := s.tmps) t ht)
      refine ⟨_, .tcall (by rw [g1]; exact hg) ho hc (by rw [g2]; exact hf) (by rw [g3]; exact h) hl hle, ?_⟩
      rw [k1] at e1
      have g4 : OpDo C CF own ops idj oj (put s.tmps oi.dst r) (mask sto1 lj.rd) vj [] := by
        rw [k1]; exact (e1.congr (put_looks a3)).mono lone
      have := OpLab.intro (s := ⟨put s.tmps oi.dst r, sto1⟩) g4 e2 (fun p hp => by cases hp) e4
      simp only [wrs] at this ⊢
      rw [put_comm a2]
      exact this
  | @fcall c f g first caps r sto1 hg ho hc hf h hl hw hin hle hr hb =>
    have dl : li.full = none ∧ (∀ b, b ∈ li.rd → b < s.sto.length) ∧ (∀ b, b ∈ li.wr → b < s.sto.length) := by
      simp only [lowOK, hl.1, Bool.and_eq_true, List.all_eq_true, Option.isNone_iff_eq_none] at d4
      exact ⟨d4.1.1, fun b hb => by simpa using d4.1.2 b hb, fun b hb => by simpa using d4.2 b hb⟩
    cases h2 with
    | @mk vi wi f1 f2 f3' f4 =>
      simp only at f1
      have f3 : ∀ p, p ∈ wi → p.1 < s.sto.length := fun p hp => dl.2.2 p.1 (by rw [← f2]; exact List.mem_map_of_mem hp)
      have hdis : ∀ p, p ∈ wi → lj.rd.contains p.1 = false := fun p hp => nc d3 p.1 (by rw [← f2]; exact List.mem_map_of_mem hp)
      have hmm : LeS (mask (merge s.sto lj.rd sto1) li.rd) (mask s.sto li.rd) := fun b => by
        rw [mask_get, mask_get, merge_get hle]
        by_cases hbr : li.rd.contains b = true
        · right
          have hbm : b ∈ li.rd := by simpa using hbr
          cases hq : lj.rd.contains b with
          | false => rw [if_pos ⟨dl.2.1 b hbm, rfl⟩]
          | true =>
            rcases hw b (by simpa using hq) with h9 | h9
            · exact (disj_spec d1 b h9 hbm).elim
            · rw [if_neg (by simp), h9]
        · left
          cases hb : (if b < s.sto.length ∧ lj.rd.contains b = false then s.sto[b]? else sto1[b]?) with
          | none => left; rfl
          | some B => right; rw [Option.map_some, if_neg hbr]
      have g1 : OpDo C CF own ops idi oi s.tmps (mask s.sto li.rd) vi wi := (f1.mono hmm).congr fun t ht => (put_looks a1 t ht).symm
      refine ⟨_, .intro g1 f2 f3 f4, ?_⟩
      have m2 : mask (wrs s.sto wi) lj.rd = mask s.sto lj.rd := mask_congr (wrs_length f3) fun b hb => wrs_get f3 b (by rw [f2]; exact fun h => disj_spec d3 b h hb)
      obtain ⟨k1, k2, k3⟩ := args_apart (C := C) ho hc (fun t ht => put_looks a3 (v := vi) (tmps := s.tmps) t ht)
      have F := OpLab.fcall (C := C) (CF := CF) (own := own) (ops := ops) (id := idj) (o := oj) (l := lj) (s := ⟨put s.tmps oi.dst vi, wrs s.sto wi⟩) (c := c) (f := f) (g := g) (first := first) (caps := caps) (r := r) (sto1 := sto1) (by rw [← k1]; exact hg) ho hc (by rw [← k2]; exact hf)
        (by rw [← k3]; show CF g _ (mask (wrs s.sto wi) lj.rd) r sto1; rw [m2]; exact h) ⟨by rw [hl.1]; exact congrArg some (wrs_length f3).symm, hl.2⟩ (fun b hb => (hw b hb).imp id fun h9 => by
          rw [h9]; exact (wrs_get f3 b (by rw [f2]; exact fun h => disj_spec d3 b h hb)).symm)
        (List.all_eq_true.2 fun b hb' => by
          have := List.all_eq_true.1 hin b hb'
          have e : (wrs s.sto wi)[b]? = s.sto[b]? := wrs_get f3 b (by rw [f2]; exact fun h => disj_spec d3 b h hb')
          unfold liveB at this ⊢
          rw [e]; exact this) (by rw [wrs_length f3]; exact hle) (by rw [wrs_length f3]; exact hr) (by rw [wrs_length f3]; exact hb)
      simp only at F ⊢
      rw [merge_wrs hle f3 hdis, ← put_comm a2] at F
      exact F
    | fcall _ _ _ _ _ hl2 => rw [dl.1] at hl2; exact absurd hl2.1 (by simp)
    | tcall _ _ _ _ _ hl2 => have := (wh d7 hl2).2.2.1; rw [hl.1] at this; cases this
  | @tcall c f g first caps r sto1 hg ho hc hf h hl hle =>
    obtain ⟨k1, k2, k3, k4⟩ := wh d6 hl
    cases h2 with
    | @mk vi wi f1 f2 f3' f4 =>
      have hw0 : wi = [] := by
        rw [k2] at f2; exact List.map_eq_nil_iff.1 f2
      subst hw0
      simp only at f1
      rw [k1] at f1
      have g1 : OpDo C CF own ops idi oi s.tmps (mask s.sto li.rd) vi [] := by
        rw [k1]; exact (f1.mono lone).congr fun t ht => (put_looks a1 t ht).symm
      have I := OpLab.intro (s := s) g1 f2 (fun p hp => by cases hp) f4
      refine ⟨_, I, ?_⟩
      obtain ⟨q1, q2, q3⟩ := args_apart (C := C) ho hc (fun t ht => put_looks a3 (v := vi) (tmps := s.tmps) t ht)
      have F := OpLab.tcall (C := C) (CF := CF) (own := own) (ops := ops) (id := idj) (o := oj) (l := lj) (s := ⟨put s.tmps oi.dst vi, s.sto⟩) (c := c) (f := f) (g := g) (first := first) (caps := caps) (r := r) (sto1 := sto1) (by rw [← q1]; exact hg) ho hc (by rw [← q2]; exact hf)
        (by rw [← q3]; exact h) hl hle
      simp only [wrs] at F ⊢
      rw [put_comm a2]
      exact F
    | fcall _ _ _ _ _ hl2 => rw [k3] at hl2; exact absurd hl2.1 (by simp)
    | tcall _ _ _ _ _ hl2 => rw [k4] at hl2; cases hl2

theorem runD_front {base i : Nat} {o : Oper} {l : Lab} {post : List (Nat × Lab)} (ho : ops[i]? = some o) : ∀ (pre : List (Nat × Lab)) (s s1 : St), RunD C CF own ops base (pre ++ (i, l) :: post) s s1 →
    (∀ q, q ∈ pre → ∀ oq, ops[q.1]? = some oq → oq.apart ops o = true ∧ indep q.2 l = true) → ∃ s', OpLab C CF own ops (idD ops base i o) o l s s' ∧ RunD C CF own ops base (pre ++ post) s' s1 := by
  intro pre
  induction pre with
  | nil =>
    intro s s1 h _
    cases h with
    | cons ho' h t => rw [ho] at ho'; cases ho'; exact ⟨_, h, t⟩
  | cons q pre ih =>
    intro s s1 h hq
    cases h with
    | @cons k ok lk _ _ sa _ hok h t =>
      obtain ⟨s', h1, h2⟩ := ih _ _ t fun q hq' => hq q (List.mem_cons_of_mem _ hq')
      obtain ⟨hap, hin⟩ := hq _ List.mem_cons_self ok hok
      obtain ⟨sb, h3, h4⟩ := opLab_swap hap hin h h1
      exact ⟨sb, h3, .cons hok h4 h2⟩

theorem tmpEval_eq (s : St) : tmpEval C s.tmps = s.eval C := by
  funext x
  cases x <;> rfl

theorem den_id {ρ : Operand → AVal} {id id' : Nat} {own : Bool} {op : Op} {m : List Blk} (h : makes op = false) : den C ρ m id own op = den C ρ m id' own op := by
  cases op <;> first
    | rfl
    | (simp [makes] at h; done)
    | skip
  case call c => unfold makes at h; cases hc : c.callee with
    | builtin b => simp [hc] at h
    | _ => simp [den, hc]
  case next it s => cases s <;> rfl

theorem denx_id {ρ : Operand → AVal} {id id' : Nat} {op : Op} {m : List Blk} (h : makes op = false) : denx C ρ m id op = denx C ρ m id' op := by
  cases op <;> first
    | rfl
    | (simp [makes] at h; done)
    | skip
  case call c => unfold makes at h; cases hc : c.callee with
    | builtin b => simp [hc] at h
    | _ => simp [denx, hc]

theorem OpLab.reid {id id' : Nat} {o : Oper} {l : Lab} {s s1 : St} (hm : makes o.op = false) (h : OpLab C CF own ops id o l s s1) : OpLab C CF own ops id' o l s s1 := by
  cases h with
  | mk h hw hin hf =>
    refine .mk ?_ hw hin hf
    cases h with
    | skip hg => exact .skip hg
    | den hg h => exact .den hg (by rw [den_id (id' := id) hm]; exact h)
    | ext hg h => exact .ext hg (by rw [denx_id (id' := id) hm]; exact h)
    | call hg ho hc hf xs args' h1 h2 h3 h4 h5 => exact .call hg ho hc hf xs args' h1 h2 h3 h4 h5
  | fcall hg ho hc hf h hl hw hin hle hr hb => exact .fcall hg ho hc hf h hl hw hin hle hr hb
  | tcall hg ho hc hf h hl hle => exact .tcall hg ho hc hf h hl hle

theorem OpLab.len {id : Nat} {o : Oper} {l : Lab} {s s1 : St} (h : OpLab C CF own ops id o l s s1) : s.sto.length ≤ s1.sto.length := by
  cases h with
  | @mk v ws h hw hin hf =>
    have hin' : ∀ p, p ∈ ws → p.1 < s.sto.length := fun p hp => by
      have := List.all_eq_true.1 hin p.1 (hw ▸ List.mem_map_of_mem hp)
      simpa using this
    simp only; rw [wrs_length hin']; exact Nat.le_refl _
  | fcall hg ho hc hf h hl hw hin hle hr hb => simp only; rw [merge_length hle]; exact hle
  | tcall hg ho hc hf h hl hle => exact hle

theorem opLab_sound {E : Env} {s s1 : St} {a : Act} {w : World} (hCF : Sound C CF) {id : Nat} {o : Oper} {l : Lab} {Q : Exit → Act → World → Prop} {K : Act → World → Prop} (h : RelSt z0 dz C E s a w) (hS : OpLab C CF own ops id o l s s1) (hid : ¬ E.al id) (hid2 : id ≤ s.sto.length)
    (hK : ∀ E' a' w', Step E s.sto w E' s1.sto w' → RelSt z0 dz C E' s1 a' w' → (∀ b, E'.al b → E.al b ∨ b = id ∨ s.sto.length ≤ b) → K a' w') : opBody ro C.P ops Q o K a w := by
  cases hS with
  | @mk v ws h1 h2 h3 hfull =>
    have h4 := h1.mono (mask_le _ _)
    have h3 : ∀ p, p ∈ ws → p.1 < s.sto.length := fun p hp => by
      have := List.all_eq_true.1 h3 p.1 (h2 ▸ List.mem_map_of_mem hp)
      simpa using this
    have hK : ∀ E' a' w', Step E s.sto w E' (wrs s.sto ws) w' → RelSt z0 dz C E' ⟨put s.tmps o.dst v, wrs s.sto ws⟩ a' w' → (∀ b, E'.al b → E.al b ∨ b = id) → K a' w' :=
      fun E' a' w' k1 k2 k3 => hK E' a' w' k1 k2 (fun b hb => (k3 b hb).imp (fun h => h) .inl)
    generalize hst : s.sto = sto at h4
    cases h4 with
    | skip hg =>
      subst hst
      unfold opBody
      rw [if_neg (by rw [(guard_run h).2 hg]; simp)]
      refine ⟨fun _ _ => trivial, ?_⟩
      exact hK E _ w (Step.refl _ _ _) (put_rel h (Step.refl _ _ _) h.rel (.pure .undef)) (fun _ h => .inl h)
    | den hg hd =>
      subst hst
      rw [tmpEval_eq] at hd
      exact den_step h hid hid2 hg hd hK
    | ext hg hd =>
      subst hst
      rw [tmpEval_eq] at hd
      exact ext_step h hid hid2 hg hd hK
    | @call c f g first caps _ hg ho hc hf xs args' hargs hno hle hcall hr =>
      subst hst
      rw [tmpEval_eq] at hf hargs
      have hb : ∀ sto' : List Blk, (if memless v = true then s.sto else gones s.sto ((first ++ c.args.toList.map (s.eval C) ++ caps).map (refsOf s.sto 4)).flatten) = sto' → sto' = wrs s.sto (if memless v = true then [] else ((first ++ c.args.toList.map (tmpEval C s.tmps) ++ caps).map (refsOf s.sto 4)).flatten.map fun b => (b, Blk.gone)) := by
        rintro _ rfl
        by_cases hm : memless v = true
        · simp only [hm, if_true]; rfl
        · rw [if_neg hm, if_neg hm]
          rw [if_neg hm] at h3
          rw [tmpEval_eq] at h3 ⊢
          exact gones_wrs _ _ fun b hb => h3 (b, Blk.gone) (List.mem_map.2 ⟨b, hb, rfl⟩)
      subst hargs
      refine call_step h hg ho hc hf (fun vs hvl => call_pure hCF h.rel hvl hno hle hcall hr) (fun u w' ⟨E', e1, e2, e3, e4⟩ => ?_)
      rw [hb _ rfl] at e1 e3
      exact hK E' _ w' e3 (put_rel h e3 e1 e2) (fun b hb' => .inl (e4 b hb'))
  | @tcall c f g first caps r sto1 hg ho hc hf hcall hl hle =>
    rw [tmpEval_eq] at hf hcall
    exact call_step h hg ho hc hf (fun vs hvl => hCF g _ s.sto r _ hcall E w vs h.rel hvl) (fun u w' ⟨E', e1, e2, e3, e4, _⟩ => hK E' _ w' e3 (put_rel h e3 e1 e2) (fun b hb' => (e4 b hb').imp (fun h => h) .inr))
  | @fcall c f g first caps r sto1 hg ho hc hf hcall hl hw hin hle hr hb =>
    rw [tmpEval_eq] at hf hcall
    refine call_step h hg ho hc hf (fun vs hvl => call_lent hCF h.rel hvl hcall hle (fun b hb' => liveB_iff (List.all_eq_true.1 hin b (by simpa using hb'))) hr hb) (fun u w' ⟨E', e1, e2, e3, e4⟩ => ?_)
    exact hK E' _ w' e3 (put_rel h e3 e1 e2) (fun b hb' => (e4 b hb').imp (fun h => h) .inr)

theorem sepAll_pairwise {pre : List (List Nat)} : ∀ {il : List (Nat × Lab)}, sepAll ops pre il = true → il.Pairwise fun p q => sepOK ops pre p q = true := by
  intro il
  induction il with
  | nil => intro _; exact .nil
  | cons p rest ih =>
    intro h
    simp only [sepAll, Bool.and_eq_true] at h
    exact .cons (fun q hq => List.all_eq_true.1 h.1 q hq) (ih h.2)

theorem getD_true_of_false {listed : Array Bool} {i : Nat} (h : listed.getD i false = true) : listed.getD i true = true := by
  rcases Nat.lt_or_ge i listed.size with h' | h'
  · simp only [Array.getD, h', dif_pos] at h ⊢; exact h
  · simp [Array.getD, Nat.not_lt.2 h']

theorem getD_false_of_true {listed : Array Bool} {i : Nat} (hi : i < listed.size) (h : listed.getD i true = true) : listed.getD i false = true := by
  simp only [Array.getD, hi, dif_pos] at h ⊢; exact h

theorem getD_set_keep {listed : Array Bool} {i j : Nat} (h : listed.getD i true = true) : (listed.setIfInBounds j true).getD i true = true := by
  by_cases e : j = i
  · subst e
    rcases Nat.lt_or_ge j listed.size with h' | h'
    · simp [Array.getD, h']
    · simp [Array.getD, Nat.not_lt.2 h']
  · rw [getD_set_ne true e]; exact h

theorem precOK_spec {pre : List (List Nat)} (h : precOK ops pre = true) {j : Nat} {o : Oper} (ho : ops[j]? = some o) :
    (∀ i, i ∈ pre.getD j [] → ∃ e, e ∈ o.after ∧ Region.binds .any e = true ∧ (e.on = i ∨ i ∈ pre.getD e.on [])) ∧ (∀ e, e ∈ o.after → Region.binds .any e = true → e.on < j) ∧
      (makes o.op = true → rank ops.toList j < rank ops.toList ops.size) := by
  have hlt := (Array.getElem?_eq_some_iff.1 ho).1
  have := List.all_eq_true.1 h j (List.mem_range.2 hlt)
  simp only [ho, Bool.and_eq_true] at this
  obtain ⟨⟨h1, h2⟩, h3⟩ := this
  refine ⟨fun i hi => ?_, fun e he hb => ?_, fun hm => ?_⟩
  · have := List.all_eq_true.1 h1 i hi
    obtain ⟨e, he, hb⟩ := Array.any_eq_true'.1 this
    simp only [Bool.and_eq_true, Bool.or_eq_true, beq_iff_eq] at hb
    exact ⟨e, he, hb.1, hb.2.imp id (fun h => by simpa using h)⟩
  · have := Array.all_eq_true_iff_forall_mem.1 h2 e he
    simpa [hb] using this
  · simpa [hm] using h3

theorem masksGo_eq {α : Type} {K : List Nat → α} : ∀ {l : List Oper} {acc : List Nat} {k : Nat}, ∃ ms, masksGo acc k l K = K ms
  | [], acc, _ => ⟨acc, rfl⟩
  | o :: rest, acc, k => by
    simp only [masksGo, forceN]
    split
    · exact masksGo_eq
    · exact masksGo_eq
theorem maskOf_spec {f : Nat → Nat} {i : Nat} : ∀ {es : List Edge}, (maskOf f es).testBit i = true → ∃ e, e ∈ es ∧ Region.binds .any e = true ∧ (e.on = i ∨ (f e.on).testBit i = true)
  | [], h => by simp [maskOf] at h
  | e :: es, h => by
    simp only [maskOf] at h
    cases hb : Region.binds .any e with
    | false =>
      rw [hb] at h
      obtain ⟨e', h1, h2⟩ := maskOf_spec (es := es) h
      exact ⟨e', List.mem_cons_of_mem _ h1, h2⟩
    | true =>
      rw [hb] at h
      simp only [cond_true, Nat.testBit_or, Bool.or_eq_true] at h
      rcases h with (h | h) | h
      · refine ⟨e, List.mem_cons_self, hb, .inl ?_⟩
        rw [Nat.one_shiftLeft, Nat.testBit_two_pow] at h
        simpa using h
      · exact ⟨e, List.mem_cons_self, hb, .inr h⟩
      · obtain ⟨e', h1, h2⟩ := maskOf_spec (es := es) h
        exact ⟨e', List.mem_cons_of_mem _ h1, h2⟩
theorem maskGood_spec {ms : List Nat} {n : Nat} : ∀ {l : List Oper} {j : Nat}, maskGood ops ms n j l = true → ∀ i o, l[i]? = some o →
    (ms.getD (n - 1 - (j + i)) 0 = maskOf (fun i => ms.getD (n - 1 - i) 0) o.after.toList) ∧ (o.after.toList.all fun e => !Region.binds .any e || Nat.blt e.on (j + i)) = true ∧ (!makes o.op || Nat.blt (rank ops.toList (j + i)) (rank ops.toList ops.size)) = true
  | [], _, _ => fun i o h => by simp at h
  | p :: rest, j, h => fun i o hi => by
    simp only [maskGood, Bool.and_eq_true] at h
    obtain ⟨⟨⟨h1, h2⟩, h3⟩, h4⟩ := h
    cases i with
    | zero =>
      simp only [List.getElem?_cons_zero, Option.some.injEq] at hi
      subst hi
      exact ⟨Nat.eq_of_beq_eq_true h1, h2, h3⟩
    | succ i =>
      have := maskGood_spec h4 i o (by simpa using hi)
      rwa [show j + 1 + i = j + (i + 1) by omega] at this
def preOf (ms : List Nat) (n : Nat) : List (List Nat) := (List.range n).map fun j => (List.range n).filter fun i => bitAt ms n j i
theorem preOf_getD {ms : List Nat} {n j i : Nat} : i ∈ (preOf ms n).getD j [] ↔ j < n ∧ i < n ∧ bitAt ms n j i = true := by
  unfold preOf
  rw [List.getD_eq_getElem?_getD, List.getElem?_map]
  by_cases h : j < n
  · rw [List.getElem?_range h]
    simp [h]
  · rw [List.getElem?_eq_none (by simpa using h)]
    simp [h]
theorem openOK_pre {il : List (Nat × Lab)} (h : openOK ops il = true) : ∃ pre, precOK ops pre = true ∧ sepAll ops pre il = true := by
  unfold openOK at h
  obtain ⟨ms, hms⟩ := masksGo_eq (l := ops.toList) (acc := []) (k := 0) (K := fun ms => maskGood ops ms ops.size 0 ops.toList && sepMs ops ms ops.size il)
  rw [hms] at h
  simp only [Bool.and_eq_true] at h
  obtain ⟨h1, h2⟩ := h
  have hg := maskGood_spec h1
  simp only [Nat.zero_add, Array.getElem?_toList] at hg
  refine ⟨preOf ms ops.size, ?_, ?_⟩
  · unfold precOK
    rw [List.all_eq_true]
    intro j hj
    rw [List.mem_range] at hj
    rw [Array.getElem?_eq_getElem hj]
    obtain ⟨g1, g2, g3⟩ := hg j _ (Array.getElem?_eq_getElem hj)
    simp only [Bool.and_eq_true]
    refine ⟨⟨?_, ?_⟩, ?_⟩
    · rw [List.all_eq_true]
      intro i hi
      obtain ⟨_, hi2, hi3⟩ := preOf_getD.1 hi
      unfold bitAt at hi3
      rw [g1] at hi3
      obtain ⟨e, e1, e2, e3⟩ := maskOf_spec hi3
      rw [Array.any_eq_true']
      refine ⟨e, by simpa using e1, ?_⟩
      rw [List.all_eq_true] at g2
      have hlt := g2 e e1
      rw [e2] at hlt
      have hlt : e.on < j := by simpa using hlt
      simp only [e2, Bool.true_and, Bool.or_eq_true, beq_iff_eq]
      rcases e3 with e3 | e3
      · exact .inl e3
      · exact .inr (by simpa using preOf_getD.2 ⟨by omega, hi2, e3⟩)
    · rw [Array.all_eq_true_iff_forall_mem]
      intro e he
      rw [List.all_eq_true] at g2
      have := g2 e (by simpa using he)
      simpa using this
    · simpa using g3
  · have key : ∀ {l : List (Nat × Lab)}, sepMs ops ms ops.size l = true → sepAll ops (preOf ms ops.size) l = true := by
      intro l
      induction l with
      | nil => intro _; rfl
      | cons p rest ih =>
        intro h
        simp only [sepMs, Bool.and_eq_true] at h
        simp only [sepAll, Bool.and_eq_true]
        refine ⟨?_, ih h.2⟩
        rw [List.all_eq_true] at h ⊢
        intro q hq
        have := h.1 q hq
        unfold sepM at this
        unfold sepOK
        split at this
        · rename_i x hx
          split at this
          · rename_i y hy
            simp only [hx, hy]
            simp only [Bool.and_eq_true, Bool.or_eq_true, Bool.not_eq_true'] at this ⊢
            refine ⟨?_, ?_⟩
            · rcases this.1 with hb | hb
              · have l1 := (Array.getElem?_eq_some_iff.1 hx).1
                have l2 := (Array.getElem?_eq_some_iff.1 hy).1
                exact .inl (by simpa using preOf_getD.2 ⟨l2, l1, hb⟩)
              · exact .inr hb
            · rcases this.2 with hb | hb
              · exact .inl hb
              · exact .inr (by simpa using Nat.ne_of_beq_eq_false hb)
          · cases this
        · cases this
    exact key h2
theorem drawn_sound (hCF : Sound C CF) {base : Nat} {pre : List (List Nat)} (hpre : precOK ops pre = true) {Q : Exit → Act → World → Prop} : ∀ (fuel : Nat) (il : List (Nat × Lab)) (listed : Array Bool) (s s1 : St) (E : Env) (a : Act) (w : World),
    il.length ≤ fuel → (il.Pairwise fun p q => sepOK ops pre p q = true) → (il.Pairwise fun p q => p.1 < q.1) → (∀ i, i ∈ il.map (·.1) ↔ i < ops.size ∧ listed.getD i true = false) →
    (∀ j, j < ops.size → listed.getD j true = true → ∀ i, i ∈ pre.getD j [] → listed.getD i true = true) → listed.size = ops.size → RunD C CF own ops base il s s1 → RelSt z0 dz C E s a w →
    base + rank ops.toList ops.size ≤ s.sto.length → (∀ q, q ∈ il → ∀ o, ops[q.1]? = some o → makes o.op = true → ¬ E.al (base + rank ops.toList q.1)) →
    (∀ E' a' w', Step E s.sto w E' s1.sto w' → RelSt z0 dz C E' s1 a' w' → Nw E E' base → s.sto.length ≤ s1.sto.length → Q .normal a' w') → wpAnyIn (FR ro) 0 C.P .any ops Q fuel listed a w := by
  intro fuel
  induction fuel with
  | zero =>
    intro il listed s s1 E a w hlen hsep hsort hmem hclosed hsize hR h hsto hal hQ
    have : il = [] := List.length_eq_zero_iff.1 (Nat.le_zero.1 hlen)
    subst this
    cases hR
    refine ⟨?_, hQ E a w (Step.refl _ _ _) h Nw.refl (Nat.le_refl _)⟩
    cases hr : Region.ready .any ops listed with
    | nil => rfl
    | cons i rs =>
      have : i ∈ Region.ready .any ops listed := by rw [hr]; exact List.mem_cons_self
      obtain ⟨h0, o, ho, _⟩ := mem_ready.1 this
      have := (hmem i).2 ⟨(Array.getElem?_eq_some_iff.1 ho).1, h0⟩
      cases this
  | succ fuel ih =>
    intro il listed s s1 E a w hlen hsep hsort hmem hclosed hsize hR h hsto hal hQ
    refine ⟨fun hr => ?_, fun j hj => ?_⟩
    · cases il with
      | nil => cases hR; exact hQ E a w (Step.refl _ _ _) h Nw.refl (Nat.le_refl _)
      | cons p rest =>
        exfalso
        obtain ⟨h1, h2⟩ := (hmem p.1).1 (by simp)
        have ho : ops[p.1]? = some ops[p.1] := Array.getElem?_eq_getElem h1
        have : p.1 ∈ Region.ready .any ops listed := mem_ready.2 ⟨h2, _, ho, fun e he hb => by
          have hlt := (precOK_spec hpre ho).2.1 e he hb
          have hes : e.on < listed.size := by rw [hsize]; omega
          cases hl : listed.getD e.on true with
          | true => exact getD_false_of_true hes hl
          | false =>
            have := (hmem e.on).2 ⟨by omega, hl⟩
            rw [List.map_cons, List.mem_cons] at this
            rcases this with h3 | h3
            · omega
            · obtain ⟨q, hq, he⟩ := List.mem_map.1 h3
              have := (List.pairwise_cons.1 hsort).1 q hq
              omega⟩
        rw [hr] at this; cases this
    · obtain ⟨h0, o, ho, hall⟩ := mem_ready.1 hj
      have hjlt := (Array.getElem?_eq_some_iff.1 ho).1
      obtain ⟨hp1, hp2, hp3⟩ := precOK_spec hpre ho
      have hjm := (hmem j).2 ⟨hjlt, h0⟩
      obtain ⟨⟨j', l⟩, hq, hjj⟩ := List.mem_map.1 hjm
      simp only at hjj
      subst hjj
      obtain ⟨p, q, rfl⟩ := List.append_of_mem hq
      rw [List.pairwise_append] at hsep hsort
      obtain ⟨sp, sq, spq⟩ := hsep
      obtain ⟨tp, tq, tpq⟩ := hsort
      rw [List.pairwise_cons] at sq tq
      have hplt : ∀ y, y ∈ p → y.1 < j' := fun y hy => tpq y hy (j', l) List.mem_cons_self
      have hqlt : ∀ y, y ∈ q → j' < y.1 := fun y hy => tq.1 y hy
      have hfront := runD_front (C := C) (CF := CF) (own := own) ho p s s1 hR (fun y hy oy hoy => by
        have hs := spq y hy (j', l) List.mem_cons_self
        simp only [sepOK, hoy, ho, Bool.and_eq_true, Bool.or_eq_true] at hs
        rcases hs.1 with hs | hs
        · exfalso
          obtain ⟨e, he, hb, hor⟩ := hp1 y.1 (by simpa using hs)
          have hel := hall e he hb
          have hyl : listed.getD y.1 true = true := by
            rcases hor with hor | hin
            · rw [← hor]; exact getD_true_of_false hel
            · exact hclosed e.on (by have := hp2 e he hb; omega) (getD_true_of_false hel) y.1 hin
          have := ((hmem y.1).1 (List.mem_map_of_mem (List.mem_append_left _ hy))).2
          rw [hyl] at this; cases this
        · exact hs)
      obtain ⟨s', hop, hrest⟩ := hfront
      obtain ⟨idn, hop, hnal, hile, hidn⟩ : ∃ idn, OpLab C CF own ops idn o l s s' ∧ ¬ E.al idn ∧ idn ≤ s.sto.length ∧ ((makes o.op = true ∧ idn = base + rank ops.toList j') ∨ idn = s.sto.length) := by
        cases hm : makes o.op with
        | true =>
          have e : idD ops base j' o = base + rank ops.toList j' := by unfold idD; rw [if_pos hm]
          rw [e] at hop
          have := hp3 hm
          exact ⟨_, hop, hal _ hq o ho hm, by omega, .inl ⟨rfl, rfl⟩⟩
        | false => exact ⟨s.sto.length, hop.reid hm, fun hal => Nat.lt_irrefl _ (h.rel.n _ hal), Nat.le_refl _, .inr rfl⟩
      show wpOpIn (FR ro) 0 C.P ops Q j' (wpAnyIn (FR ro) 0 C.P .any ops Q fuel (listed.setIfInBounds j' true)) a w
      have : wpOpIn (FR ro) 0 C.P ops Q j' (wpAnyIn (FR ro) 0 C.P .any ops Q fuel (listed.setIfInBounds j' true)) a w = opBody ro C.P ops Q o (wpAnyIn (FR ro) 0 C.P .any ops Q fuel (listed.setIfInBounds j' true)) a w := by
        simp only [wpOpIn, ho, opBody]
      rw [this]
      refine opLab_sound hCF h hop hnal hile (fun E' a' w' hst hrel hal' => ?_)
      have hlen' : s.sto.length ≤ s'.sto.length := hop.len
      have hset : (listed.setIfInBounds j' true).getD j' true = true := by
        rw [Array.getD]; simp [hsize, hjlt]
      refine ih (p ++ q) _ s' s1 E' a' w' (by simp at hlen ⊢; omega) ?_ ?_ (fun i => ?_) (fun k hk hkl i hi => ?_) (by simp [hsize]) hrest hrel (by omega) (fun y hy oy hoy hmk hal2 => ?_) (fun E'' a'' w'' h5 h6 n2 l2 => hQ E'' a'' w'' (hst.trans h5) h6 (Nw.trans (M := base) (fun b hb => by
          rcases hal' b hb with h9 | h9 | h9
          · exact .inl h9
          · rcases hidn with ⟨_, h8⟩ | h8
            · exact .inr (by omega)
            · exact .inr (by omega)
          · exact .inr (by omega)) n2 (Nat.le_refl _)) (Nat.le_trans hlen' l2))
      · exact List.pairwise_append.2 ⟨sp, sq.2, fun y hy z hz => spq y hy z (List.mem_cons_of_mem _ hz)⟩
      · exact List.pairwise_append.2 ⟨tp, tq.2, fun y hy z hz => tpq y hy z (List.mem_cons_of_mem _ hz)⟩
      · by_cases hij : j' = i
        · subst hij
          rw [hset]
          refine ⟨fun hi => ?_, fun hi => by cases hi.2⟩
          exfalso
          obtain ⟨y, hy, he⟩ := List.mem_map.1 hi
          rcases List.mem_append.1 hy with hy | hy
          · have := hplt y hy; omega
          · have := hqlt y hy; omega
        · rw [getD_set_ne true hij, ← hmem i]
          simp only [List.map_append, List.map_cons, List.mem_append, List.mem_cons]
          constructor
          · rintro (hx | hx)
            · exact .inl hx
            · exact .inr (.inr hx)
          · rintro (hx | rfl | hx)
            · exact .inl hx
            · exact (hij rfl).elim
            · exact .inr hx
      · by_cases hkj : j' = k
        · subst hkj
          obtain ⟨e, he, hb, hor⟩ := hp1 i hi
          have hel := getD_true_of_false (hall e he hb)
          rcases hor with rfl | hin
          · exact getD_set_keep hel
          · exact getD_set_keep (hclosed e.on (by have := hp2 e he hb; omega) hel i hin)
        · rw [getD_set_ne true hkj] at hkl
          exact getD_set_keep (hclosed k hk hkl i hi)
      · rcases hal' _ hal2 with h7 | h7
        · refine hal y ?_ oy hoy hmk h7
          rcases List.mem_append.1 hy with hy | hy
          · exact List.mem_append_left _ hy
          · exact List.mem_append_right _ (List.mem_cons_of_mem _ hy)
        · have hyr := (precOK_spec hpre hoy).2.2 hmk
          rcases h7 with h7 | h7
          · rcases hidn with ⟨hm, h8⟩ | h8
            · rw [h8] at h7
              have hne : rank ops.toList y.1 ≠ rank ops.toList j' := by
                rcases List.mem_append.1 hy with hy | hy
                · have hs := spq y hy (j', l) List.mem_cons_self
                  simp only [sepOK, hoy, ho, Bool.and_eq_true, hmk, hm, Bool.and_self, Bool.not_true, Bool.false_or, bne_iff_ne] at hs
                  exact hs.2
                · have hs := sq.1 y hy
                  simp only [sepOK, hoy, ho, Bool.and_eq_true, hmk, hm, Bool.and_self, Bool.not_true, Bool.false_or, bne_iff_ne] at hs
                  exact Ne.symm hs.2
              omega
            · omega
          · omega

theorem rel_reserve {E : Env} {s : St} {a : Act} {w : World} (n : Nat) (h : RelSt z0 dz C E s a w) : RelSt z0 dz C E ⟨s.tmps, s.sto ++ List.replicate n .gone⟩ a w ∧ Step E s.sto w E (s.sto ++ List.replicate n .gone) w := by
  have hget : ∀ (b : Nat) B, (s.sto ++ List.replicate n Blk.gone)[b]? = some B → s.sto[b]? = some B ∨ B = .gone := by
    intro b B hb
    rw [List.getElem?_append] at hb
    split at hb
    · exact .inl hb
    · right; exact (List.mem_replicate.1 (List.mem_of_getElem? hb)).2
  have hcur : ∀ b : Nat, curOf (s.sto ++ List.replicate n Blk.gone) b = curOf s.sto b := by
    intro b
    unfold curOf
    rw [List.getElem?_append]
    by_cases hb : b < s.sto.length
    · rw [if_pos hb]
    · rw [if_neg hb, List.getElem?_eq_none (Nat.le_of_not_lt hb)]
      cases h1 : (List.replicate n Blk.gone)[b - s.sto.length]? with
      | none => rfl
      | some B =>
        have := (List.mem_replicate.1 (List.mem_of_getElem? h1)).2
        subst this; rfl
  have hlive : ∀ b : Nat, live (s.sto ++ List.replicate n Blk.gone) b → live s.sto b := by
    intro b hb
    obtain ⟨B, hB, hd⟩ := live_iff.1 hb
    rcases hget b B hB with h1 | rfl
    · exact live_iff.2 ⟨B, h1, hd⟩
    · cases hd
  have hst : Step E s.sto w E (s.sto ++ List.replicate n Blk.gone) w := by
    have := Step.refl E s.sto w
    exact ⟨rfl, rfl, rfl, Nat.le_refl _, fun _ h => h, fun _ h => .inl h, fun _ _ _ => rfl, fun _ h => h, fun b hb => .inl ⟨hlive b hb, rfl⟩, fun _ _ h => ⟨h, rfl⟩, fun b m _ hm => .inr ⟨m, hm, Nat.le_refl _, rfl, fun _ => ⟨rfl, rfl, rfl⟩⟩⟩
  refine ⟨⟨⟨fun b hb => ?_, fun b hb => h.rel.al b (hlive b hb), fun b => by rw [hcur]; exact h.rel.cur b, h.rel.okb, fun b b' hb hb' he => h.rel.inj b b' (hlive b hb) (hlive b' hb') he, fun b B hB => ?_, h.rel.glob⟩, h.size, h.tmps, h.defers⟩, hst⟩
  · have := h.rel.n b hb
    rw [List.length_append]; omega
  · rcases hget b B hB with h1 | rfl
    · have := h.rel.blk b B h1
      cases this with
      | cells t cs vals g1 g2 g3 g4 => exact .cells t cs vals g1 g2 g3 g4
      | buf t sz rows cap vals g1 g2 g3 hh g4 g5 g6 g7 g8 g9 g10 g11 => exact .buf t sz rows cap vals g1 g2 g3 hh g4 g5 g6 g7 g8 g9 g10 g11
      | iter s pos sb hsb g1 g2 => exact .iter s pos sb hsb g1 g2
      | arr t sz rows vals g1 g2 g3 g4 g5 g6 g8 g9 g11 => exact .arr t sz rows vals g1 g2 g3 g4 g5 g6 g8 g9 g11
      | map es ents clock g1 g2 g3 g4 => exact .map es ents clock g1 g2 g3 g4
      | miter mv mr s se l g0 g1 g2 => exact .miter mv mr s se l g0 g1 g2
      | nbuf t sz g1 g2 => exact .nbuf t sz g1 g2
      | gone => exact .gone
    · exact .gone

theorem regionD_sound {E : Env} {s s1 : St} {a : Act} {w : World} {il : List (Nat × Lab)} {id : Nat} {Q : Exit → Act → World → Prop} (hm : C.P.follows .mixedOrders = true) (hCF : Sound C CF) (hR : RunD C CF own ops s.sto.length il (reserve ops s) s1)
    (hi : il.map (·.1) = List.range ops.size) (hok : openOK ops il = true) (h : RelSt z0 dz C E s a w) (hQ : ∀ E' a' w', Step E s.sto w E' s1.sto w' → RelSt z0 dz C E' s1 a' w' → Nw E E' s.sto.length → s.sto.length ≤ s1.sto.length → Q .normal a' w') : (Code.region id ops true).wpIn (FR ro) 0 C.P Q a w := by
  have hdr := rel_ok h.rel E.ok (w' := { w with drawn := w.drawn + 1 }) rfl rfl rfl (Nat.le_refl _) (fun _ _ => rfl) (fun _ h => h) (fun _ h => .inl h) h.rel.okb
  have h' : RelSt z0 dz C E s a { w with drawn := w.drawn + 1 } := ⟨hdr.1, h.size, fun i x v hx hv => (h.tmps i x v hx hv).step h.rel hdr.2, h.defers⟩
  have hrs := rel_reserve (rank ops.toList ops.size) h'
  obtain ⟨pre, hok⟩ := openOK_pre hok
  refine wpIn_region_any hm (drawn_sound hCF hok.1 ops.size il _ (reserve ops s) s1 E a _ ?_ (sepAll_pairwise hok.2) ?_ (fun i => ?_) (fun j hj hl => ?_) (by simp) hR hrs.1 ?_ (fun q hq o ho hmk hal => ?_) (fun E' a' w' h1 h2 n1 l1 => hQ E' a' w' ((hdr.2.trans hrs.2).trans h1) h2 n1 (by
    have : s.sto.length ≤ (reserve ops s).sto.length := by simp [reserve]
    omega)))
  · have : (il.map (·.1)).length = ops.size := by rw [hi, List.length_range]
    rw [List.length_map] at this; omega
  · have : (il.map (·.1)).Pairwise (· < ·) := by rw [hi]; exact List.pairwise_lt_range
    exact List.pairwise_map.1 this
  · rw [hi, List.mem_range]
    constructor
    · intro hlt; exact ⟨hlt, by simp [Array.getD, hlt]⟩
    · exact fun h => h.1
  · simp [Array.getD, hj] at hl
  · simp [reserve]
  · have := h.rel.n _ hal
    omega

end
end Go.Proofs.YtaajfbcopafkaaaGreatDoor.Ai

namespace Go.Proofs.YtaajfbcopafkaaaGreatDoor.Ai
open Go
set_option linter.unusedVariables false
set_option linter.unusedSimpArgs false

/-- Inside a loop. -/
def wpL (ro : Option Nat) (P : Program) (b : Code) (Q : Exit → Act → World → Prop) (a : Act) (w : World) : Prop :=
  ∀ (fr : Frame) (k : List Item) (cs : List Frame), fr.roundOf = ro → ∃ e a' w', Q e a' w' ∧ ArrivesIn (Machine.fenced P (FR ro)) P (lone (fr.atR a (.code b :: .inLoop b :: k)) cs w) fr k cs e a' w'

theorem calmR {ro : Option Nat} {P : Program} {fr : Frame} {cs : List Frame} {w : World} : (lone fr cs w).fenced P (FR ro) := fenced_wide P _

theorem wp_of_wpL {ro : Option Nat} {P : Program} {b : Code} {Q : Exit → Act → World → Prop} {a : Act} {w : World} (h : wpL ro P b Q a w) : (Code.loop b).wpIn (FR ro) 0 P Q a w :=
  fun fr k cs hro _ _ => let ⟨e, a', w', hq, harr⟩ := h fr k cs hro; ⟨e, a', w', hq, .of_steps (.one calmR stepR_loop) harr⟩

theorem wpL_intro {ro : Option Nat} {P : Program} {b : Code} {Q : Exit → Act → World → Prop} {a : Act} {w : World} (h : b.wpIn (FR ro) 0 P (Exit.then (wpL ro P b Q) Q) a w) : wpL ro P b Q a w := by
  intro fr k cs hro
  obtain ⟨e, a₁, w₁, hq, harr⟩ := h fr (.inLoop b :: k) cs hro trivial (room_wide _)
  cases e with
  | normal =>
    obtain ⟨e₂, a₂, w₂, hq₂, harr₂⟩ := hq fr k cs hro
    exact ⟨e₂, a₂, w₂, hq₂, .of_steps (StepsIn.trans harr (.one calmR stepR_inLoop)) harr₂⟩
  | exit id => exact ⟨_, a₁, w₁, hq, .pass (x := .inLoop b) rfl (fun _ _ => .inl (by simp)) harr⟩
  | goto l => exact ⟨_, a₁, w₁, hq, .pass (x := .inLoop b) rfl (fun _ _ => .inl (by simp)) harr⟩
  | ret => exact ⟨_, a₁, w₁, hq, .pass (x := .inLoop b) rfl (fun _ _ => .inl (by simp)) harr⟩
  | panic ch => exact ⟨_, a₁, w₁, hq, .pass (x := .inLoop b) rfl (fun _ _ => .inl (by simp)) harr⟩
  | outgrown => exact ⟨_, a₁, w₁, hq, .pass (x := .inLoop b) rfl (fun _ _ => .inl (by simp)) harr⟩

def wpC (ro : Option Nat) (P : Program) (c : Code) (Q : Exit → Act → World → Prop) (a : Act) (w : World) : Prop :=
  match c with
  | .loop b => wpL ro P b Q a w
  | c => c.wpIn (FR ro) 0 P Q a w

theorem wpC_wp {ro : Option Nat} {P : Program} {c : Code} {Q : Exit → Act → World → Prop} {a : Act} {w : World} (h : wpC ro P c Q a w) : c.wpIn (FR ro) 0 P Q a w := by
  unfold wpC at h
  split at h
  · exact wp_of_wpL h
  · exact h

theorem wpR_mono {ro : Option Nat} {P : Program} {c : Code} {Q Q' : Exit → Act → World → Prop} {a : Act} {w : World} (hq : ∀ e a w, Q e a w → Q' e a w) (h : c.wpIn (FR ro) 0 P Q a w) : c.wpIn (FR ro) 0 P Q' a w := wpIn_mono h hq

theorem wpC_mono {ro : Option Nat} {P : Program} {c : Code} {Q Q' : Exit → Act → World → Prop} {a : Act} {w : World} (hq : ∀ e a w, Q e a w → Q' e a w) (h : wpC ro P c Q a w) : wpC ro P c Q' a w := by
  unfold wpC at h ⊢
  split at h
  · intro fr k cs hro
    obtain ⟨e, a', w', h1, h2⟩ := h fr k cs hro
    exact ⟨e, a', w', hq _ _ _ h1, h2⟩
  · exact wpR_mono hq h

theorem stepR_scope {P : Program} {b : Frame} {a : Act} {k : List Item} {cs : List Frame} {w : World} {c : Code} : step P (lone (b.atR a (.code (.scope c) :: k)) cs w) = .next (lone (b.atR a (.code c :: .inScope c :: k)) cs w) :=
  step_lone_go (by simp [stepG, stepG.exec, Frame.atR])
theorem stepR_inScope {P : Program} {b : Frame} {a : Act} {k : List Item} {cs : List Frame} {w : World} {c : Code} : step P (lone (b.atR a (.inScope c :: k)) cs w) = .next (lone (b.atR a k) cs w) :=
  step_lone_go (by simp [stepG, stepG.exec, Frame.atR])
theorem wpR_scope {ro : Option Nat} {P : Program} {c : Code} {Q : Exit → Act → World → Prop} {a : Act} {w : World} (h : c.wpIn (FR ro) 0 P (Exit.noGoto Q) a w) : (Code.scope c).wpIn (FR ro) 0 P Q a w := by
  intro b k cs hro hb hr
  obtain ⟨e, a₁, w₁, hq, harr⟩ := h b (.inScope c :: k) cs hro hb hr
  have hx : ∀ id, exitTo id (.inScope c :: k) = exitTo id k := fun id => by simp [exitTo]
  cases e with
  | normal => exact ⟨.normal, a₁, w₁, hq, .head calmR stepR_scope (StepsIn.trans harr (.one calmR stepR_inScope))⟩
  | exit id => exact ⟨.exit id, a₁, w₁, hq, fun k' hk => .head calmR stepR_scope (harr.1 k' (by rw [hx]; exact hk)), fun h1 h2 => let ⟨k₁, g1, g2⟩ := harr.2 h1 (by rw [hx]; exact h2); ⟨k₁, g1, .head calmR stepR_scope g2⟩⟩
  | goto l => exact hq.elim
  | ret => exact ⟨_, a₁, w₁, hq, .of_steps (.one calmR stepR_scope) harr⟩
  | panic ch => exact ⟨_, a₁, w₁, hq, .of_steps (.one calmR stepR_scope) harr⟩
  | outgrown => exact ⟨_, a₁, w₁, hq, .of_steps (.one calmR stepR_scope) harr⟩

def Out.ex : Out → Exit
  | .norm _ => .normal
  | .exit id _ => .exit id
  | .ret _ => .ret

def Ends (z0 : Z) (dz : List Deferred) (C : Ctx) (m0 : Nat) (E0 : Env) (σ0 : List Blk) (w0 : World) (o : Out) (e : Exit) (a : Act) (w : World) : Prop :=
  e = o.ex ∧ ∃ E, Step E0 σ0 w0 E o.st.sto w ∧ RelSt z0 dz C E o.st a w ∧ Nw E0 E m0 ∧ m0 ≤ o.st.sto.length

section
variable {z0 : Z} {dz : List Deferred} {ro : Option Nat}
variable {C : Ctx} {CF : CallRel} {own : Tmp → Bool}

theorem exec_sound (hm : C.P.follows .mixedOrders = true) (hCF : Sound C CF) {m0 : Nat} {E0 : Env} {σ0 : List Blk} {w0 : World} (h0 : ∀ b, E0.al b → b < m0) {c : Code} {s : St} {o : Out} (hx : Exec C CF own m0 c s o) :
    ∀ {E : Env} {a : Act} {w : World}, Step E0 σ0 w0 E s.sto w → RelSt z0 dz C E s a w → Nw E0 E m0 → m0 ≤ s.sto.length → wpC ro C.P c (Ends z0 dz C m0 E0 σ0 w0 o) a w := by
  induction hx with
  | skip s => intro E a w hst h hn hl; exact wpIn_skip ⟨rfl, E, hst, h, hn, hl⟩
  | label l s => intro E a w hst h hn hl; exact wpIn_label ⟨rfl, E, hst, h, hn, hl⟩
  | exit id s => intro E a w hst h hn hl; exact wpIn_exit ⟨rfl, E, hst, h, hn, hl⟩
  | ret s => intro E a w hst h hn hl; exact wpIn_ret ⟨rfl, E, hst, h, hn, hl⟩
  | @region id ops s s1 hR =>
    intro E a w hst h hn hl
    refine wpIn_region ?_
    have := runU_sound (ro := ro) hCF (Q := Ends z0 dz C m0 E0 σ0 w0 (.norm s1)) ops.toList 0 s s1 E a w (by simp) hR h (fun E' a' w' h1 h2 n1 l1 => ⟨rfl, E', hst.trans h1, h2, hn.trans n1 hl, Nat.le_trans hl l1⟩)
    rw [List.range_eq_range', ← Array.length_toList]
    exact this
  | @regionD id ops il s s1 hR hi hok =>
    intro E a w hst h hn hl
    exact regionD_sound hm hCF hR hi hok h (fun E' a' w' h1 h2 n1 l1 => ⟨rfl, E', hst.trans h1, h2, hn.trans n1 hl, Nat.le_trans hl l1⟩)
  | seqN h t ih it =>
    intro E a w hst h hn hl
    refine wpIn_seq (wpR_mono (fun e a w ⟨he, E', h1, h2, hn', hl'⟩ => ?_) (wpC_wp (ih hst h hn hl)))
    subst he
    exact wpC_wp (it h1 h2 hn' hl')
  | seqX h ih =>
    intro E a w hst h hn hl
    refine wpIn_seq (wpR_mono (fun e a w ⟨he, E', h1, h2, hn', hl'⟩ => ?_) (wpC_wp (ih hst h hn hl)))
    subst he
    exact ⟨rfl, E', h1, h2, hn', hl'⟩
  | seqR h ih =>
    intro E a w hst h hn hl
    refine wpIn_seq (wpR_mono (fun e a w ⟨he, E', h1, h2, hn', hl'⟩ => ?_) (wpC_wp (ih hst h hn hl)))
    subst he
    exact ⟨rfl, E', h1, h2, hn', hl'⟩
  | @cond c x y s t o hc h ih =>
    intro E a w hst h hn hl
    have := eval_sound h c
    rw [hc] at this
    exact wpIn_cond this.bool_inv (wpC_wp (ih hst h hn hl))
  | blockN h ih =>
    intro E a w hst h hn hl
    refine wpIn_block (wpR_mono (fun e a w ⟨he, E', h1, h2, hn', hl'⟩ => ?_) (wpC_wp (ih hst h hn hl)))
    subst he
    exact ⟨rfl, E', h1, h2, hn', hl'⟩
  | blockX h ih =>
    intro E a w hst h hn hl
    refine wpIn_block (wpR_mono (fun e a w ⟨he, E', h1, h2, hn', hl'⟩ => ?_) (wpC_wp (ih hst h hn hl)))
    subst he
    simp only [Out.ex, Exit.inBlock, if_true]
    exact ⟨rfl, E', h1, h2, hn', hl'⟩
  | blockY hne h ih =>
    intro E a w hst h hn hl
    refine wpIn_block (wpR_mono (fun e a w ⟨he, E', h1, h2, hn', hl'⟩ => ?_) (wpC_wp (ih hst h hn hl)))
    subst he
    simp only [Out.ex, Exit.inBlock, if_neg hne]
    exact ⟨rfl, E', h1, h2, hn', hl'⟩
  | blockR h ih =>
    intro E a w hst h hn hl
    refine wpIn_block (wpR_mono (fun e a w ⟨he, E', h1, h2, hn', hl'⟩ => ?_) (wpC_wp (ih hst h hn hl)))
    subst he
    exact ⟨rfl, E', h1, h2, hn', hl'⟩
  | loopN h t ih it =>
    intro E a w hst h hn hl
    refine wpL_intro (wpR_mono (fun e a w ⟨he, E', h1, h2, hn', hl'⟩ => ?_) (wpC_wp (ih hst h hn hl)))
    subst he
    exact it h1 h2 hn' hl'
  | loopX h ih =>
    intro E a w hst h hn hl
    refine wpL_intro (wpR_mono (fun e a w ⟨he, E', h1, h2, hn', hl'⟩ => ?_) (wpC_wp (ih hst h hn hl)))
    subst he
    exact ⟨rfl, E', h1, h2, hn', hl'⟩
  | loopR h ih =>
    intro E a w hst h hn hl
    refine wpL_intro (wpR_mono (fun e a w ⟨he, E', h1, h2, hn', hl'⟩ => ?_) (wpC_wp (ih hst h hn hl)))
    subst he
    exact ⟨rfl, E', h1, h2, hn', hl'⟩
  | grow hw h ih =>
    intro E a w hst h hn hl
    obtain ⟨E1, h1, h2, n1, l1⟩ := grow_sound h hw
    exact ih (hst.trans h1) h2 (hn.trans n1 hl) (Nat.le_trans hl l1)
  | weak hw h ih =>
    intro E a w hst h hn hl
    obtain ⟨h1, h2⟩ := weak_sound h0 hst h hw
    exact ih h1 h2 (fun b hb => hn b hb.1) hw.low
  | @scope c s o h ih =>
    intro E a w hst h hn hl
    refine wpR_scope (wpR_mono (fun e a w hq => ?_) (wpC_wp (ih hst h hn hl)))
    have he := hq.1
    cases o <;> (simp only [Out.ex] at he; subst he; exact hq)
  | @giveN c s s1 i b n h ht hnn ih =>
    intro E a w hst h hn hl
    refine wpC_mono (fun e a w ⟨he, E', h1, h2, hn', hl'⟩ => ?_) (ih hst h hn hl)
    subst he
    have hg := rel_give h2.rel [b]
    have hs0 : a.tmps.size = s1.tmps.length := h2.size
    have hsz : i < a.tmps.size := by rw [hs0]; exact (List.getElem?_eq_some_iff.1 ht).1
    have hv := h2.tmps i _ _ ht (Array.getElem?_eq_getElem hsz)
    have hp := view_sound h2.rel [b] 4 (.bsl b n) _ hv (fun x hx => by simpa [refsOf] using hx) hnn
    refine ⟨rfl, _, h1.trans hg.2, ⟨hg.1, by simpa [Out.st] using hs0, fun j x v hx hv' => ?_, h2.defers⟩, fun b hb => hn' b hb, by simpa [Out.st] using hl'⟩
    by_cases e : i = j
    · subst e
      have hx' : (s1.tmps.set i (view s1.sto 4 (.bsl b n)))[i]? = some x := hx
      rw [List.getElem?_set_self (by rw [← hs0]; exact hsz)] at hx'
      cases hx'
      rw [Array.getElem?_eq_getElem hsz] at hv'
      cases hv'
      exact .pure hp
    · have hx' : (s1.tmps.set i (view s1.sto 4 (.bsl b n)))[j]? = some x := hx
      rw [List.getElem?_set_ne e] at hx'
      exact (h2.tmps j x v hx' hv').step h2.rel hg.2
  | weakN h hw ih =>
    intro E a w hst h hn hl
    refine wpC_mono (fun e a w ⟨he, E', h1, h2, hn', hl'⟩ => ?_) (ih hst h hn hl)
    subst he
    obtain ⟨h3, h4⟩ := weak_sound h0 h1 h2 hw
    exact ⟨rfl, _, h3, h4, fun b hb => hn' b hb.1, hw.low⟩

/-! Steps over maps. -/
theorem miter_rel {E : Env} {s : St} {a : Act} {w w1 : World} {b m since last : Nat} {seen : List Nat} (h : RelSt z0 dz C E s a w) (hb : s.sto[b]? = some (.miter (.mapr m) since seen last)) (hm : E.al m ∧ E.cur m = none) (hos : w1.os = w.os) (htape : w1.tape = w.tape) (hout : w1.output = w.output) (hheap : w1.heap = w.heap) (seen' : List Nat) (last' : Nat) :
    ∃ E', Step E s.sto w E' (s.sto.set b (.miter (.mapr m) since seen' last')) (Go.ChangeMaps.setBlock w1 (E.ι b) (.mapIter (some (E.ι m)) since seen'.toArray last')) ∧
      Rel C E' (s.sto.set b (.miter (.mapr m) since seen' last')) (Go.ChangeMaps.setBlock w1 (E.ι b) (.mapIter (some (E.ι m)) since seen'.toArray last')) ∧ (∀ y, E'.al y → E.al y) := by
  have hr := h.rel
  have hlive : live s.sto b := live_iff.2 ⟨_, hb, rfl⟩
  have hblt := live_lt hlive
  have hal := hr.al b hlive
  have hcur : E.cur b = none := by rw [hr.cur, curOf_curB hb]; rfl
  let B : Blk := .miter (.mapr m) since seen' last'
  let w' : World := Go.ChangeMaps.setBlock w1 (E.ι b) (.mapIter (some (E.ι m)) since seen'.toArray last')
  have hw' : w'.heap = w.heap.setIfInBounds (E.ι b) (.mapIter (some (E.ι m)) since seen'.toArray last') := by show w1.heap.setIfInBounds _ _ = _; rw [hheap]
  have hother : ∀ k, k < w.heap.size → (live s.sto b → E.ι b ≠ k) → w'.heap[k]? = w.heap[k]? := fun k hk hne => by
    rw [hw', Array.getElem?_setIfInBounds_ne (hne hlive)]
  have hal' : (E.al b ∧ (E.cur b = none → curB B = none ∧ E.ι b = E.ι b) ∧ (∀ m, E.cur b = some m → ∃ m', curB B = some m' ∧ m ≤ m' ∧ E.sz b = E.sz b ∧ (m' = m → E.ι b = E.ι b ∧ E.cap b = E.cap b ∧ E.hd b = E.hd b))) ∨ (¬ E.al b ∧ b ≤ s.sto.length) :=
    .inl ⟨hal, fun _ => ⟨rfl, rfl⟩, fun m hm => by (rw [hcur] at hm; cases hm)⟩
  have hsize : w.heap.size ≤ w'.heap.size := by rw [hw']; simp
  have hst := step_upd hr b B (E.ι b) (E.cap b) (E.sz b) (E.hd b) (Nat.le_of_lt hblt) (w' := w') hos htape hout hsize hother (fun _ => .inl ⟨hlive, rfl⟩) hal'
  have hset : wr1 s.sto b B = s.sto.set b B := by simp only [wr1]; rw [if_pos hblt]
  cases hr.blk b _ hb with
  | miter _ mr _ _ _ hv hg hn =>
    have hrel := rel_upd hr b B (E.ι b) (E.cap b) (E.sz b) (E.hd b) (Nat.le_of_lt hblt) (w' := w') hos htape hout hsize hother (fun _ => .inl ⟨hlive, rfl⟩) hal'
      (.miter _ (some (E.ι m)) since seen' last' ((V.mapr (w := w) m hm.1 hm.2).step hr hst) (by rw [env_set_new.1, hw', Array.getElem?_setIfInBounds_self_of_lt (Array.getElem?_eq_some_iff.1 hg).1]) (by rw [env_set_new.1]; exact hn))
    rw [hset] at hrel
    refine ⟨_, hrel.2, hrel.1, fun y hy => ?_⟩
    rcases hy with rfl | hy
    · exact hal
    · exact hy

theorem runM_sound (hCF : Sound C CF) (hY : YSound C) {own : Tmp → Bool} {ops : Array Oper} {l : List Oper} {s : St} {QS : St → Prop} (hR : RunM C CF own ops l s QS) : ∀ {Q : Exit → Act → World → Prop} (k : Nat) (E : Env) (a : Act) (w : World), ops.toList.drop k = l → RelSt z0 dz C E s a w →
    (∀ s1 E' a' w', QS s1 → Step E s.sto w E' s1.sto w' → RelSt z0 dz C E' s1 a' w' → Nw E E' s.sto.length → s.sto.length ≤ s1.sto.length → Q .normal a' w') → wpOpsIn (FR ro) 0 C.P ops Q (List.range' k l.length) a w := by
  have at_ : ∀ {o : Oper} {l : List Oper} {k : Nat}, ops.toList.drop k = o :: l → ops[k]? = some o ∧ ops.toList.drop (k + 1) = l := fun {o l k} hl => by
    refine ⟨?_, ?_⟩
    · have : (ops.toList.drop k)[0]? = some o := by rw [hl]; rfl
      rw [List.getElem?_drop, Nat.add_zero, Array.getElem?_toList] at this
      exact this
    · have : (ops.toList.drop k).drop 1 = l := by rw [hl]; rfl
      rwa [List.drop_drop] at this
  induction hR with
  | nil hq => intro Q k E a w hl h hQ; exact hQ _ E a w hq (Step.refl _ _ _) h Nw.refl (Nat.le_refl _)
  | cons hS hT ih =>
    intro Q k E a w hl h hQ
    obtain ⟨hk, hl'⟩ := at_ hl
    simp only [List.length_cons, List.range'_succ]
    rw [wpOpsIn_cons]
    simp only [wpOpIn, hk]
    exact op_sound (Q := Q) hCF h hS (fun E' a' w' h1 h2 n1 l1 => ih (k + 1) E' a' w' hl' h2 (fun s1 E'' a'' w'' q h3 h4 n2 l2 => hQ s1 E'' a'' w'' q (h1.trans h3) h4 (n1.trans n2 l1) (Nat.le_trans l1 l2)))
  | @range o rest s QS x ty b es clock hg ho hm hx hb hT ih =>
    intro Q k E a w hl h hQ
    obtain ⟨hk, hl'⟩ := at_ hl
    simp only [List.length_cons, List.range'_succ]
    rw [wpOpsIn_cons]
    simp only [wpOpIn, hk]
    show opBody ro C.P ops Q o _ a w
    refine opBody_run ((guard_run h).1 hg) (fun c hc => by rw [hc] at ho; cases ho) ?_
    have hxv := eval_sound h x
    rw [hx] at hxv
    obtain ⟨hxe, hal, hc⟩ := hxv.mapr_inv
    obtain ⟨⟨kt, e⟩, hmt⟩ := Option.isSome_iff_exists.1 hm
    have hu := mapT_some hmt
    have hr := h.rel
    let B : Blk := .miter (.mapr b) clock [] clock
    let w' : World := w.alloc (.mapIter (some (E.ι b)) clock #[] clock)
    have hw' : w'.heap = w.heap.push (.mapIter (some (E.ι b)) clock #[] clock) := rfl
    have hnal : ¬ E.al s.sto.length := fun h => Nat.lt_irrefl _ (hr.n _ h)
    have hsize : w.heap.size ≤ w'.heap.size := by rw [hw']; simp
    have hold : ∀ k, k < w.heap.size → (live s.sto s.sto.length → E.ι s.sto.length ≠ k) → w'.heap[k]? = w.heap[k]? := fun k hk _ => by rw [hw']; exact push_old hk
    cases hr.blk b _ hb with
    | map _ ents _ hgm hnm hsm hvm =>
      have hst := step_upd hr s.sto.length B w.heap.size 0 0 none (Nat.le_refl _) (w' := w') rfl rfl rfl hsize hold (fun _ => .inr (Nat.le_refl _)) (.inr ⟨hnal, Nat.le_refl _⟩)
      have hrel := rel_upd hr s.sto.length B w.heap.size 0 0 none (Nat.le_refl _) (w' := w') rfl rfl rfl hsize hold (fun _ => .inr (Nat.le_refl _)) (.inr ⟨hnal, Nat.le_refl _⟩)
        (.miter _ (some (E.ι b)) clock [] clock ((V.mapr (w := w) b hal hc).step hr hst) (by rw [env_set_new.1, hw']; exact push_new) (by rw [env_set_new.1]; exact fun hk => Nat.lt_irrefl _ (hr.okb _ hk)))
      have hset : wr1 s.sto s.sto.length B = s.sto ++ [B] := by simp [wr1]
      rw [hset] at hrel
      have hv : V w' (E.set s.sto.length (curB B) w.heap.size 0 0 none) (.ptr s.sto.length 0) (.pointer (some ⟨w.heap.size, 0, none⟩)) := by
        have := V.ptr (w := w') (E := E.set s.sto.length (curB B) w.heap.size 0 0 none) s.sto.length 0 (.inl rfl) (by simp [Env.set, curB, B])
        rw [env_set_new.1] at this
        exact this
      have hrun : (execOp a.eval o).run C.P w = .ok (.value (.pointer (some ⟨w.heap.size, 0, none⟩))) w' := by
        simp only [execOp, ho, hxe, Sem.run_bind, run_range_map w ty kt e (E.ι b) ents clock hu hgm, Result.andThen_ok, Sem.run_pure]
        rfl
      rw [hrun]
      exact ih (k + 1) _ _ w' hl' (put_rel h hrel.2 hrel.1 hv) (fun s1 E'' a'' w'' q h3 h4 n2 l2 => hQ s1 E'' a'' w'' q (hrel.2.trans h3) h4 (fun y hy => by
        rcases n2 y hy with h5 | h5
        · rcases h5 with rfl | h5
          · exact .inr (Nat.le_refl _)
          · exact .inl h5
        · right; simp only [List.length_append, List.length_singleton] at h5; omega) (by simp only [List.length_append, List.length_singleton] at l2; omega))
  | @next o rest s QS it b m since last seen es clock hg ho hi hb hm hold hsl hdone hmore ihd ihm =>
    intro Q k E a w hl h hQ
    obtain ⟨hk, hl'⟩ := at_ hl
    simp only [List.length_cons, List.range'_succ]
    rw [wpOpsIn_cons]
    simp only [wpOpIn, hk]
    show opBody ro C.P ops Q o _ a w
    refine opBody_run ((guard_run h).1 hg) (fun c hc => by rw [hc] at ho; cases ho) ?_
    have hiv := eval_sound h it
    rw [hi] at hiv
    obtain ⟨hie, hal, hc⟩ := hiv.ptr_inv
    have hr := h.rel
    cases hr.blk b _ hb with
    | miter _ mr _ _ _ hv hgb hnb =>
      obtain ⟨hmr, hmal, hmc⟩ := hv.mapr_inv
      cases hmr
      cases hr.blk m _ hm with
      | map _ ents _ hgm hnm hsm hvm =>
        have hent : ∀ x ∈ ents.toList, ∃ p, p ∈ es ∧ p.2.2 = x.born ∧ V w E p.1 x.key ∧ V w E p.2.1 x.val := fun x hx => by
          obtain ⟨i, hi'⟩ := List.mem_iff_getElem?.1 hx
          have hlt := (List.getElem?_eq_some_iff.1 hi').1
          have hlt' : i < es.length := by rw [← hsm]; simpa using hlt
          have := hvm i es[i] x (List.getElem?_eq_getElem hlt') (by simpa using hi')
          exact ⟨es[i], List.getElem_mem hlt', this.2.2.symm, this.1, this.2.1⟩
        have hback : ∀ p, p ∈ es → ∃ x ∈ ents.toList, x.born = p.2.2 := fun p hp => by
          obtain ⟨i, hi'⟩ := List.mem_iff_getElem?.1 hp
          have hlt := (List.getElem?_eq_some_iff.1 hi').1
          have hlt' : i < ents.size := by rw [hsm]; exact hlt
          have := hvm i p ents[i] hi' (Array.getElem?_eq_getElem hlt')
          exact ⟨ents[i], by simp, this.2.2⟩
        rcases run_next_at (P := C.P) w o.type (E.ι b) (E.ι m) since last seen.toArray ents clock hgb hgm (fun x hx => by obtain ⟨p, h1, h2, _⟩ := hent x hx; rw [← h2]; exact hold p h1) hsl with ⟨h0, hrun⟩ | ⟨x, hx, w1, hw1, hrun⟩
        · have hall : ∀ p, p ∈ es → p.2.2 ∈ seen := fun p hp => by
            obtain ⟨x, hx, hxb⟩ := hback p hp
            rcases Decidable.em (p.2.2 ∈ seen) with h1 | h1
            · exact h1
            · exfalso
              have : x ∈ leftOf ents seen.toArray := by
                unfold leftOf
                rw [Array.mem_filter]
                refine ⟨by simpa using hx, ?_⟩
                rw [hxb]; simpa using h1
              have h2 : leftOf ents seen.toArray = #[] := Array.eq_empty_of_size_eq_zero h0
              rw [h2] at this
              simp at this
          have hex : (execOp a.eval o).run C.P w = .ok (.value (.tuple #[.bool false])) w := by
            simp only [execOp, ho, hie, Sem.run_bind, hrun, Result.andThen_ok, Sem.run_pure]
          rw [hex]
          exact ihd hall (k + 1) E _ w hl' (put_rel h (Step.refl _ _ _) hr (.tup _ _ rfl (fun i y v hy hv' => by
            match i with
            | 0 => simp at hy hv'; subst hy; subst hv'; exact V.bool
            | n + 1 => simp at hy))) hQ
        · have hxl : x ∈ ents.toList ∧ x.born ∉ seen := by
            have : x ∈ leftOf ents seen.toArray := by simpa using hx
            unfold leftOf at this
            rw [Array.mem_filter] at this
            exact ⟨by simpa using this.1, by simpa using this.2⟩
          obtain ⟨p, hp, hpb, hpk, hpv⟩ := hent x hxl.1
          have hw1' : w1.os = w.os ∧ w1.tape = w.tape ∧ w1.output = w.output ∧ w1.heap = w.heap := by rcases hw1 with rfl | rfl <;> exact ⟨rfl, rfl, rfl, rfl⟩
          obtain ⟨E', g1, g2, g3⟩ := miter_rel h hb ⟨hmal, hmc⟩ hw1'.1 hw1'.2.1 hw1'.2.2.1 hw1'.2.2.2 (seen ++ [p.2.2]) clock
          have hseen : (seen ++ [p.2.2]).toArray = seen.toArray.push x.born := by rw [hpb]; simp
          rw [hseen] at g1 g2
          have hex : (execOp a.eval o).run C.P w = .ok (.value (.tuple #[.bool true, x.key, x.val])) (Go.ChangeMaps.setBlock w1 (E.ι b) (.mapIter (some (E.ι m)) since (seen.toArray.push x.born) clock)) := by
            simp only [execOp, ho, hie, Sem.run_bind, hrun, Result.andThen_ok, Sem.run_pure]
          rw [hex]
          refine ihm p hp (by rw [hpb]; exact hxl.2) (k + 1) E' _ _ hl' (put_rel h g1 g2 (.tup _ _ rfl (fun i y v hy hv' => by
            match i with
            | 0 => simp at hy hv'; subst hy; subst hv'; exact V.bool
            | 1 => simp at hy hv'; subst hy; subst hv'; exact hpk.step hr g1
            | 2 => simp at hy hv'; subst hy; subst hv'; exact hpv.step hr g1
            | n + 3 => simp at hy))) (fun s1 E'' a'' w'' q h3 h4 n2 l2 => hQ s1 E'' a'' w'' q (g1.trans h3) h4 (fun y hy => by
              rcases n2 y hy with h5 | h5
              · exact .inl (g3 y h5)
              · right; simpa using h5) (by simpa using l2))
  | @entry o rest s QS it b m since ss es clock p hg ho hi hb hm hp hn hT ih =>
    intro Q k E a w hl h hQ
    obtain ⟨hk, hl'⟩ := at_ hl
    simp only [List.length_cons, List.range'_succ]
    rw [wpOpsIn_cons]
    simp only [wpOpIn, hk]
    show opBody ro C.P ops Q o _ a w
    refine opBody_run ((guard_run h).1 hg) (fun c hc => by rw [hc] at ho; cases ho) ?_
    have hiv := eval_sound h it
    rw [hi] at hiv
    obtain ⟨hie, hal, hc⟩ := hiv.ptr_inv
    have hr := h.rel
    cases hr.blk b _ hb with
    | miter _ mr _ _ _ hv hgb hnb =>
      obtain ⟨hmr, hmal, hmc⟩ := hv.mapr_inv
      cases hmr
      cases hr.blk m _ hm with
      | map _ ents _ hgm hnm hsm hvm =>
        obtain ⟨i, hi'⟩ := List.mem_iff_getElem?.1 hp
        have hlt := (List.getElem?_eq_some_iff.1 hi').1
        have hlt' : i < ents.size := by rw [hsm]; exact hlt
        have hpe := hvm i p ents[i] hi' (Array.getElem?_eq_getElem hlt')
        have hborn : ents.toList.map (·.born) = es.map (·.2.2) := by
          apply List.ext_getElem?
          intro j
          simp only [List.getElem?_map, Array.getElem?_toList]
          by_cases hj : j < es.length
          · have hj' : j < ents.size := by rw [hsm]; exact hj
            rw [List.getElem?_eq_getElem hj, Array.getElem?_eq_getElem hj']
            simp only [Option.map_some]
            rw [(hvm j es[j] ents[j] (List.getElem?_eq_getElem hj) (Array.getElem?_eq_getElem hj')).2.2]
          · rw [List.getElem?_eq_none (by omega), Array.getElem?_eq_none (by omega)]; rfl
        have hgb' : w.heap[E.ι b]? = some (.mapIter (some (E.ι m)) since (ss.toArray.push ents[i].born) clock) := by
          rw [hgb, hpe.2.2]; simp
        have hrun := run_entry_at (P := C.P) w (E.ι b) (E.ι m) since ss.toArray ents clock ents[i] hgb' hgm (by simp) (by rw [hborn]; exact hn)
        have hex : (execOp a.eval o).run C.P w = .ok (.value (.tuple #[ents[i].key, ents[i].val])) w := by
          simp only [execOp, ho, hie, Sem.run_bind, hrun, Result.andThen_ok, Sem.run_pure]
        rw [hex]
        exact ih (k + 1) E _ w hl' (put_rel h (Step.refl _ _ _) hr (.tup _ _ rfl (fun i y v hy hv' => by
          match i with
          | 0 => simp at hy hv'; subst hy; subst hv'; exact hpe.1
          | 1 => simp at hy hv'; subst hy; subst hv'; exact hpe.2.1
          | n + 2 => simp at hy))) hQ
  | @yield o rest s QS c f y r sto' hg ho hc hf hy hT ih =>
    intro Q k E a w hl h hQ
    obtain ⟨hk, hl'⟩ := at_ hl
    simp only [List.length_cons, List.range'_succ]
    rw [wpOpsIn_cons]
    simp only [wpOpIn, hk]
    show opBody ro C.P ops Q o _ a w
    refine opBody_run ((guard_run h).1 hg) (fun c hc => by rw [hc] at ho; cases ho) ?_
    have hfv := eval_sound h f
    rw [hf] at hfv
    obtain ⟨l, fn, tv, assign, body, hv, hrun, hround⟩ := hY _ _ _ _ _ hy ro E w _ _ h.rel hfv (list_vl (eval_sound h) c.args)
    have hex : (execOp a.eval o).run C.P w = .ok (.round l fn tv assign body) w := by
      simp only [execOp, ho, resolve, hc, hv, Deferred.ofValue, Sem.run_bind, Sem.run_pure, Result.andThen_ok, invoke]
      simpa using hrun
    rw [hex]
    simp only [Oper.uponIn]
    refine ⟨fun hx => by simp [Fence.wide] at hx, hround.mono fun e w' ⟨u, he, E', h1, h2, h3, h4, h5⟩ => ?_⟩
    subst he
    exact ih (k + 1) E' _ w' hl' (put_rel h h3 h1 h2) (fun s1 E'' a'' w'' q h6 h7 n2 l2 => hQ s1 E'' a'' w'' q (h3.trans h6) h7 (h4.trans n2 h5) (Nat.le_trans h5 l2))

theorem execM_sound (hm : C.P.follows .mixedOrders = true) (hCF : Sound C CF) (hY : YSound C) {m0 : Nat} {E0 : Env} {σ0 : List Blk} {w0 : World} (h0 : ∀ b, E0.al b → b < m0) {c : Code} {s : St} {Q : Out → Prop} (hx : ExecM C CF own m0 c s Q) :
    ∀ {E : Env} {a : Act} {w : World}, Step E0 σ0 w0 E s.sto w → RelSt z0 dz C E s a w → Nw E0 E m0 → m0 ≤ s.sto.length → wpC ro C.P c (fun e a w => ∃ o, Q o ∧ Ends z0 dz C m0 E0 σ0 w0 o e a w) a w := by
  induction hx with
  | one h hq => intro E a w hst hr hn hl; exact wpC_mono (fun e a w he => ⟨_, hq, he⟩) (exec_sound hm hCF h0 h hst hr hn hl)
  | @region id ops s Q h =>
    intro E a w hst hr hn hl
    refine wpIn_region ?_
    have := runM_sound (ro := ro) hCF hY h (Q := fun e a w => ∃ o, Q o ∧ Ends z0 dz C m0 E0 σ0 w0 o e a w) 0 E a w (by simp) hr (fun s1 E' a' w' q h1 h2 n1 l1 => ⟨.norm s1, q, rfl, E', hst.trans h1, h2, hn.trans n1 hl, Nat.le_trans hl l1⟩)
    rw [List.range_eq_range', ← Array.length_toList]
    exact this
  | @seq c1 c2 s R Q h hn' hx' hr' ih ihn =>
    intro E a w hst hr hn hl
    refine wpIn_seq (wpR_mono (fun e a w ⟨o, hR, he, E', h1, h2, n1, l1⟩ => ?_) (wpC_wp (ih hst hr hn hl)))
    cases o with
    | norm s1 => subst he; exact wpC_wp (ihn s1 hR h1 h2 n1 l1)
    | exit id s1 => subst he; exact ⟨_, hx' id s1 hR, rfl, E', h1, h2, n1, l1⟩
    | ret s1 => subst he; exact ⟨_, hr' s1 hR, rfl, E', h1, h2, n1, l1⟩
  | @cond c x y s t Q hc h ih =>
    intro E a w hst hr hn hl
    have := eval_sound hr c
    rw [hc] at this
    exact wpIn_cond this.bool_inv (wpC_wp (ih hst hr hn hl))
  | @block id b s R Q h hq ih =>
    intro E a w hst hr hn hl
    refine wpIn_block (wpR_mono (fun e a w ⟨o, hR, he, E', h1, h2, n1, l1⟩ => ?_) (wpC_wp (ih hst hr hn hl)))
    have hqo := hq o hR
    cases o with
    | norm s1 => subst he; exact ⟨_, hqo, rfl, E', h1, h2, n1, l1⟩
    | ret s1 => subst he; exact ⟨_, hqo, rfl, E', h1, h2, n1, l1⟩
    | exit id' s1 =>
      subst he
      simp only [Out.ex, Exit.inBlock]
      simp only [Out.blk] at hqo
      by_cases hid : id' = id
      · rw [if_pos hid] at hqo ⊢
        exact ⟨_, hqo, rfl, E', h1, h2, n1, l1⟩
      · rw [if_neg hid] at hqo ⊢
        exact ⟨_, hqo, rfl, E', h1, h2, n1, l1⟩
  | @loop b s R Q h hn' hx' hr' ih ihn =>
    intro E a w hst hr hn hl
    refine wpL_intro (wpR_mono (fun e a w ⟨o, hR, he, E', h1, h2, n1, l1⟩ => ?_) (wpC_wp (ih hst hr hn hl)))
    cases o with
    | norm s1 => subst he; exact ihn s1 hR h1 h2 n1 l1
    | exit id s1 => subst he; exact ⟨_, hx' id s1 hR, rfl, E', h1, h2, n1, l1⟩
    | ret s1 => subst he; exact ⟨_, hr' s1 hR, rfl, E', h1, h2, n1, l1⟩
  | @scope c s Q h ih =>
    intro E a w hst hr hn hl
    refine wpR_scope (wpR_mono (fun e a w ⟨o, hq⟩ => ?_) (wpC_wp (ih hst hr hn hl)))
    have he := hq.2.1
    cases o <;> (simp only [Out.ex] at he; subst he; exact ⟨_, hq⟩)

/-! Results. -/
theorem resV_sound {E : Env} {s : St} {a : Act} {w : World} (h : RelSt z0 dz C E s a w) {r : ResultVar} {x : AVal} (hr : resV C.P s r = some x) :
    ∃ v, ((match r with
      | .tmp t => pure (a.tmps.getD t undef)
      | .cell b t => do loadVar t (← asAddr (a.tmps.getD b undef)) : Sem Value)).run C.P w = .ok v w ∧ V w E x v := by
  cases r with
  | tmp t =>
    simp only [resV, Option.some.injEq] at hr
    subst hr
    exact ⟨_, rfl, eval_sound h (.tmp t)⟩
  | cell b t =>
    simp only [resV] at hr
    obtain ⟨q, hq, hr⟩ := Option.bind_eq_some_iff.1 hr
    obtain ⟨cs, hc, hm⟩ := Option.bind_eq_some_iff.1 hr
    obtain ⟨h1, ad, had, vals, hn, hcell, hv⟩ := rdCells_sound h.rel (eval_sound h (.tmp b)) hc
    obtain ⟨u, hu, hv'⟩ := run_loadVar (C := C) (a := ad) hq hn h1 hcell hv hm
    have had' : a.tmps.getD b undef = .pointer (some ad) := had
    refine ⟨u, ?_, hv'⟩
    simp [had', asAddr, hu]

theorem resL_sound {E : Env} {s : St} {a : Act} {w : World} (h : RelSt z0 dz C E s a w) : ∀ (rs : List ResultVar) (xs : List AVal), resL C.P s rs = some xs →
    ∃ vs : List Value, (rs.mapM (fun r => (match r with
      | .tmp t => pure (a.tmps.getD t undef)
      | .cell b t => do loadVar t (← asAddr (a.tmps.getD b undef)) : Sem Value))).run C.P w = .ok vs w ∧ vs.length = xs.length ∧ ∀ (i : Nat) x v, xs[i]? = some x → vs[i]? = some v → V w E x v := by
  intro rs
  induction rs with
  | nil => intro xs hx; cases hx; exact ⟨[], by simp, rfl, fun i x v h => by cases h⟩
  | cons r rs ih =>
    intro xs hx
    simp only [resL] at hx
    obtain ⟨x, hx1, hx⟩ := Option.bind_eq_some_iff.1 hx
    obtain ⟨ys, hy, rfl⟩ := Option.map_eq_some_iff.1 hx
    obtain ⟨v, hv1, hv2⟩ := resV_sound h hx1
    obtain ⟨vs, h1, h2, h3⟩ := ih ys hy
    refine ⟨v :: vs, ?_, by simp [h2], fun i x v hx hv => ?_⟩
    · rw [List.mapM_cons]
      simp only [Sem.run_bind, hv1, Result.andThen_ok, h1, Sem.run_pure]
    · cases i with
      | zero => simp at hx hv; subst hx; subst hv; exact hv2
      | succ i => simp at hx hv; exact h3 i x v hx hv

theorem res_sound {E : Env} {s : St} {a : Act} {w : World} (h : RelSt z0 dz C E s a w) {fn : Func} {r : AVal} (hr : resA C.P s fn.results.toList = some r) :
    ∃ v, (results fn a.tmps).run C.P w = .ok v w ∧ V w E r v := by
  unfold resA at hr
  obtain ⟨xs, hx, rfl⟩ := Option.map_eq_some_iff.1 hr
  obtain ⟨vs, h1, h2, h3⟩ := resL_sound h _ _ hx
  unfold results
  rw [Array.mapM_eq_mapM_toList]
  simp only [Sem.run_bind, Sem.run_map]
  refine ⟨if h : vs.toArray.size = 1 then vs.toArray[0] else .tuple vs.toArray, ?_, ?_⟩
  · have e : ∀ (x : Result (List Value)), x = .ok vs w → ((x.andThen fun a w' => Result.ok a.toArray w').andThen fun a w' => Sem.run C.P (pure (if h : a.size = 1 then a[0] else Value.tuple a)) w') = .ok (if h : vs.toArray.size = 1 then vs.toArray[0] else .tuple vs.toArray) w := by
      rintro _ rfl
      simp only [Result.andThen_ok, Sem.run_pure]
    exact e _ h1
  match xs, vs, h2 with
  | [x], [v], _ => exact h3 0 x v rfl rfl
  | [], [], _ => exact .tup _ _ rfl (fun i x v hx => by cases hx)
  | x :: y :: xs, u :: v :: vs, h2 =>
    simp only [List.size_toArray, List.length_cons]
    rw [dif_neg (by omega)]
    exact .tup _ _ (by simp only [List.size_toArray]; simpa using h2) (fun i x v hx hv => h3 i x v hx (by simpa using hv))
  | [], v :: vs, h2 => cases h2
  | [x], [], h2 => cases h2
  | [x], u :: v :: vs, h2 => simp at h2
  | x :: y :: xs, [], h2 => simp at h2
  | x :: y :: xs, [u], h2 => simp at h2

theorem entry_rel {z1 : Nat} {E : Env} {w : World} {sto : List Blk} {args : List AVal} {vs : Array Value} (n : Nat) (hr : Rel C E sto w) (hv : VL w E args vs) :
    RelSt ⟨z1, []⟩ [] C E (entry n args sto) { tmps := vs ++ Array.replicate (n - vs.size) undef, defers := [] } w := by
  have hl := hv.1
  have : VL w E (args ++ List.replicate (n - args.length) .undef) (vs ++ Array.replicate (n - vs.size) undef) := by
    refine hv.append ⟨by simp [hl], fun i x v hx hv' => ?_⟩
    have := (List.mem_replicate.1 (List.mem_of_getElem? hx)).2
    subst this
    have := (Array.mem_replicate.1 (Array.mem_of_getElem? hv')).2
    subst this
    exact .pure .undef
  exact ⟨hr, by simpa [entry] using this.1, fun i x v hx hv => this.2 i x v hx hv, rfl, .nil⟩

theorem wl_dead (L : Nat) : ∀ xs : List AVal, WL L xs (xs.map fun _ => .dead) := by
  intro xs
  induction xs with
  | nil => exact .nil
  | cons x xs ih => exact .cons (.dead x) ih

theorem enter_run {P : Program} {f : FuncId} {fn : Func} {c : Code} (hf : P.funcs[f]? = some fn) (hb : fn.body = some c) (hn : fn.name ≠ "runtime.NumGoroutine") (vs : Array Value) (w : World) :
    (callFunc f vs).run P w = .ok (.enter f vs) w := by
  simp [callFunc, hf, hb, hn]

/-- What a body's end comes to, for the caller. -/
theorem end_sound {E : Env} {sto : List Blk} {w : World} (hr : Rel C E sto w) {fn : Func} {r : AVal} {sto' : List Blk} {o : Out} {e : Exit} {a : Act} {w' : World} (ho : EndOK C fn sto r sto' o) (hE : Ends z0 [] C sto.length E sto w o e a w') :
    (e = .normal ∨ e = .ret) ∧ a.defers = [] ∧ ∃ v, (results fn a.tmps).run C.P w' = .ok v w' ∧ ∃ E'', Rel C E'' sto' w' ∧ V w' E'' r v ∧ Step E sto w E'' sto' w' ∧ Nw E E'' sto.length ∧ sto.length ≤ sto'.length := by
  obtain ⟨s0, s, r0, ho, hweak, hres, hend⟩ := ho
  obtain ⟨he, E0', k1, k2, k3, k4⟩ := hE
  have hs : o.st = s0 ∧ (e = .normal ∨ e = .ret) := by
    rcases ho with rfl | rfl
    · exact ⟨rfl, .inl he⟩
    · exact ⟨rfl, .inr he⟩
  obtain ⟨rfl, he'⟩ := hs
  obtain ⟨E', h1, h2, hn', hl'⟩ : ∃ E', Step E sto w E' s.sto w' ∧ RelSt z0 [] C E' s a w' ∧ Nw E E' sto.length ∧ sto.length ≤ s.sto.length := by
    rcases hweak with rfl | hw
    · exact ⟨E0', k1, k2, k3, k4⟩
    · obtain ⟨g1, g2⟩ := weak_sound (fun b hb => hr.n b hb) k1 k2 hw
      exact ⟨_, g1, g2, fun b hb => k3 b hb.1, hw.low⟩
  obtain ⟨v, hv1, hv2⟩ := res_sound h2 hres
  refine ⟨he', k2.defers.1, v, hv1, ?_⟩
  rcases hend with ⟨rfl, rfl⟩ | ⟨rfl, rfl, hn, hle, _⟩
  · exact ⟨E', h2.rel, hv2, h1, hn', hl'⟩
  · have hpv := view_sound h2.rel (refsOf s.sto 4 r0) 4 r0 v hv2 (fun _ h => h) hn
    have hg := rel_give h2.rel (refsOf s.sto 4 r0)
    have h3 : RelSt z0 [] C (E'.give s.sto (refsOf s.sto 4 r0)) ⟨s.tmps, gones s.sto (refsOf s.sto 4 r0)⟩ a w' := ⟨hg.1, h2.size, fun i x v hx hv => (h2.tmps i x v hx hv).step h2.rel hg.2, h2.defers⟩
    have h4 := weak_sound (m0 := 0) (E0 := E) (sto0 := []) (w0 := w) (fun b hb => hr.n b hb) (h1.trans hg.2) h3 (s1 := ⟨s.tmps.map fun _ => .dead, []⟩) ⟨Nat.le_refl _, wl_dead _ _, .nil _⟩
    exact ⟨_, h4.2.rel, .pure (hle _ _ _ hpv), h4.1, fun b hb => .inr (Nat.zero_le _), Nat.le_refl _⟩

theorem callM_sound (hm : C.P.follows .mixedOrders = true) (hY : YSound C) {CF : CallRel} (hCF : Sound C CF) : Sound C (CallM C CF) := by
  intro f args sto r sto' ⟨fn, c, own, hf, hb, hname, hx⟩ E w vs hr hvl
  unfold Invokes
  rw [enter_run hf hb hname]
  simp only
  refine calls_of_wp hf hb (Code.wp_mono (fun e a w' ⟨o, hq, hE⟩ => ?_) (wpIn_wide.1 (wpC_wp (ro := none) (execM_sound (z0 := ⟨0, []⟩) hm hCF hY (E0 := E) (σ0 := sto) (w0 := w) (fun b hb => hr.n b hb) hx (Step.refl _ _ _) (entry_rel fn.ntmps hr hvl) Nw.refl (Nat.le_refl _)))))
  obtain ⟨he, hd, v, hv, hfin⟩ := end_sound hr hq hE
  rcases he with rfl | rfl
  · exact ⟨hd, v, hv, v, rfl, hfin⟩
  · exact ⟨hd, v, hv, v, rfl, hfin⟩

theorem callN_sound (hm : C.P.follows .mixedOrders = true) (hY : YSound C) (hX : Sound C (CallN C 0)) : ∀ n, Sound C (CallN C n) := by
  intro n
  induction n with
  | zero => exact hX
  | succ n ih =>
    intro f args sto r sto' h E w vs hr hvl
    rcases h with h | ⟨fn, c, own, o, s0, s, r0, hf, hb, hname, hx, ho, hweak, hres, hend⟩ | h | ⟨rd, sto1, h, hlv, hle, hir, hins, rfl⟩
    · exact ih f args sto r sto' h E w vs hr hvl
    · exact callM_sound hm hY ih f args sto r sto' ⟨fn, c, own, hf, hb, hname, .one hx ⟨s0, s, r0, ho, hweak, hres, hend⟩⟩ E w vs hr hvl
    · exact callM_sound hm hY ih f args sto r sto' h E w vs hr hvl
    · exact (call_lent (callM_sound hm hY ih) hr hvl h hle (fun b hb => liveB_iff (List.all_eq_true.1 hlv b (by simpa using hb))) hir hins).mono fun v w' ⟨E', h1, h2, h3, h4⟩ => ⟨E', h1, h2, h3, h4, by rw [merge_length hle]; exact hle⟩

theorem callF_sound (hm : C.P.follows .mixedOrders = true) (hY : YSound C) (hX : Sound C (CallN C 0)) : Sound C (CallF C) := by
  intro f args sto r sto' ⟨n, h⟩
  exact callN_sound hm hY hX n f args sto r sto' h

end
end Go.Proofs.YtaajfbcopafkaaaGreatDoor.Ai
