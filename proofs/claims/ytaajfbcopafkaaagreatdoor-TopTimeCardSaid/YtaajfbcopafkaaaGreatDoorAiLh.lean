/- Loops over functions: the record that the loop lays, its rounds, and functions that hold such loops. Own work of this seat. -/
import Derived.Test.YtaajfbcopafkaaaGreatDoorAiLe
namespace Go.Proofs.YtaajfbcopafkaaaGreatDoor.Ai
open Go
set_option linter.unusedVariables false
set_option linter.unusedSimpArgs false

/-! Worlds that differ in the records of loops alone. -/
def loopish : Option Obj → Prop
  | some (.loop _) => True
  | some (.deferred _) => True
  | _ => False
structure Alt (w w' : World) : Prop where
  os : w'.os = w.os
  tape : w'.tape = w.tape
  output : w'.output = w.output
  size : w.heap.size ≤ w'.heap.size
  heap : ∀ k, k < w.heap.size → w'.heap[k]? = w.heap[k]? ∨ loopish w.heap[k]?
theorem Alt.keep {w w' : World} (h : Alt w w') {k : Nat} {o : Obj} (hk : w.heap[k]? = some o) (ho : ¬ loopish (some o)) : w'.heap[k]? = some o := by
  rcases h.heap k (Array.getElem?_eq_some_iff.1 hk).1 with h1 | h1
  · rw [h1, hk]
  · rw [hk] at h1; exact (ho h1).elim
theorem Alt.put {w : World} {l : Nat} {o : Obj} (h : loopish w.heap[l]?) : Alt w (w.putObj l o) :=
  ⟨rfl, rfl, rfl, Nat.le_of_eq World.putObj_size.symm, fun k hk => by
    by_cases e : k = l
    · subst e; exact .inr h
    · exact .inl (World.putObj_heap_other e)⟩
theorem Alt.alloc (w : World) (o : Obj) : Alt w (w.alloc o) :=
  ⟨rfl, rfl, rfl, by show w.heap.size ≤ (w.heap.push o).size; simp, fun k hk => .inl (by show (w.heap.push o)[k]? = _; rw [Array.getElem?_push_lt hk, Array.getElem?_eq_getElem hk])⟩
theorem Alt.trans {w1 w2 w3 : World} (h1 : Alt w1 w2) (h2 : Alt w2 w3) : Alt w1 w3 :=
  ⟨h2.os.trans h1.os, h2.tape.trans h1.tape, h2.output.trans h1.output, Nat.le_trans h1.size h2.size, fun k hk => by
    rcases h1.heap k hk with h3 | h3
    · rcases h2.heap k (Nat.lt_of_lt_of_le hk h1.size) with h4 | h4
      · exact .inl (h4.trans h3)
      · rw [h3] at h4; exact .inr h4
    · exact .inr h3⟩
theorem Alt.cell {w w' : World} (h : Alt w w') {a : Addr} {v : Value} (hc : w.cell? a = some v) : w'.cell? a = some v := by
  have hk : w'.heap[a.block]? = w.heap[a.block]? := by
    cases ho : w.heap[a.block]? with
    | none => simp [World.cell?, ho] at hc
    | some o =>
      refine (h.keep ho fun hl => ?_)
      cases o <;> first
        | exact hl
        | (simp [World.cell?, ho] at hc)
  rw [World.cell?_of_block hk]; exact hc

theorem PV.alt {w w' : World} {ok : Nat → Prop} {x : AVal} {v : Value} (h : PV w ok x v) (ha : Alt w w') : PV w' ok x v := by
  induction h with
  | int k n => exact .int k n
  | bool b => exact .bool b
  | str s l h => exact .str s l h
  | nilptr => exact .nilptr
  | nilfunc => exact .nilfunc
  | nilif => exact .nilif
  | nilmap => exact .nilmap
  | undef => exact .undef
  | rptr cells a val hk hcell hr hv ih =>
    exact .rptr cells a val hk hcell (fun j x hj => ha.cell (hr j x hj)) ih
  | slc sz rows cap A c val hsz hcell hc hcap hnil hm hr hv ih =>
    refine .slc sz rows cap A c val hsz hcell hc hcap hnil hm (fun i r j x hi hj => ?_) ih
    obtain ⟨a, hA, hk, hcl⟩ := hr i r j x hi hj
    exact ⟨a, hA, hk, ha.cell hcl⟩
  | func f first caps fs cs h1 h2 h3 h4 ih3 ih4 => exact .func f first caps fs cs h1 h2 ih3 ih4
  | agg xs vs h1 h2 ih => exact .agg xs vs h1 ih
  | tup xs vs h1 h2 ih => exact .tup xs vs h1 ih
  | iface t x v h ih => exact .iface t x v ih

theorem noYL_mem {xs : List AVal} (h : noYL xs = true) : ∀ x, x ∈ xs → noY x = true := by
  induction xs with
  | nil => intro x hx; cases hx
  | cons y ys ih =>
    simp only [noYL, Bool.and_eq_true] at h
    intro x hx
    rcases List.mem_cons.1 hx with rfl | hx
    · exact h.1
    · exact ih h.2 x hx

theorem V.alt {w w' : World} {E : Env} {x : AVal} {v : Value} (h : V w E x v) (hn : noY x = true) (ha : Alt w w') : V w' E x v := by
  induction h with
  | pure h => exact .pure (h.alt ha)
  | ptr b off hb hc => exact .ptr b off hb hc
  | eptr b n i j v hb hle hv => exact .eptr b n i j v hb hle hv
  | bsl b n v hb hle hv => exact .bsl b n v hb hle hv
  | sub b n lo len cp v hb hle hv => exact .sub b n lo len cp v hb hle hv
  | csl b off sz len cp v hb hc hv hl => exact .csl b off sz len cp v hb hc hv hl
  | mapr b hb hc => exact .mapr b hb hc
  | yld => simp [noY] at hn
  | agg xs vs h1 h2 ih => exact .agg xs vs h1 (fun i x v hx hv => ih i x v hx hv (noYL_mem (by simpa [noY] using hn) x (List.mem_of_getElem? hx)))
  | tup xs vs h1 h2 ih => exact .tup xs vs h1 (fun i x v hx hv => ih i x v hx hv (noYL_mem (by simpa [noY] using hn) x (List.mem_of_getElem? hx)))
  | func f first caps fs cs h1 h2 h3 h4 ih3 ih4 =>
    simp only [noY, Bool.and_eq_true] at hn
    exact .func f first caps fs cs h1 h2 (fun i x v hx hv => ih3 i x v hx hv (noYL_mem hn.1 x (List.mem_of_getElem? hx))) (fun i x v hx hv => ih4 i x v hx hv (noYL_mem hn.2 x (List.mem_of_getElem? hx)))
  | iface t x v h ih => exact .iface t x v (ih (by simpa [noY] using hn))
  | dead v => exact .dead v

theorem Rel.alt {C : Ctx} {E : Env} {sto : List Blk} {w w' : World} (h : Rel C E sto w) (hn : noYS sto = true) (ha : Alt w w') : Rel C E sto w' := by
  refine ⟨h.n, h.al, h.cur, fun k hk => Nat.lt_of_lt_of_le (h.okb k hk) ha.size, h.inj, fun b B hB => ?_, fun g => ?_⟩
  · have hnB : noYB B = true := List.all_eq_true.1 hn B (List.mem_of_getElem? hB)
    have hl : ∀ {o : Obj}, w.heap[E.ι b]? = some o → ¬ loopish (some o) → w'.heap[E.ι b]? = some o := fun h1 h2 => ha.keep h1 h2
    cases h.blk b B hB with
    | cells t cs vals hg hk hs hv =>
      exact .cells t cs vals (hl hg fun h => h) hk hs fun i x v hx hv' => (hv i x v hx hv').alt (noYL_mem hnB x (List.mem_of_getElem? hx)) ha
    | buf t sz rows cap vals hg hk hE hh hs hl' hm hcap h0 hsz hcell hv =>
      exact .buf t sz rows cap vals (hl hg fun h => h) hk hE hh hs hl' hm hcap h0 hsz hcell fun i r j x hi hj => by
        obtain ⟨v, h1, h2⟩ := hv i r j x hi hj
        exact ⟨v, h1, h2.alt ha⟩
    | iter s pos sb hsb hg hk => exact .iter s pos sb hsb (hl hg fun h => h) hk
    | arr t sz rows vals hg hk hE hs hl' hm h0 hsz hv =>
      exact .arr t sz rows vals (hl hg fun h => h) hk hE hs hl' hm h0 hsz fun i r j x hi hj => by
        obtain ⟨v, h1, h2, h3⟩ := hv i r j x hi hj
        exact ⟨v, h1, h2, h3.alt (noYL_mem (List.all_eq_true.1 hnB r (List.mem_of_getElem? hi)) x (List.mem_of_getElem? hj)) ha⟩
    | map es ents clock hg hk hs hv =>
      exact .map es ents clock (hl hg fun h => h) hk hs fun i p ent hi he => by
        have h1 := List.all_eq_true.1 hnB p (List.mem_of_getElem? hi)
        simp only [Bool.and_eq_true] at h1
        obtain ⟨g1, g2, g3⟩ := hv i p ent hi he
        exact ⟨g1.alt h1.1 ha, g2.alt h1.2 ha, g3⟩
    | miter mv mr since seen last hv hg hk => exact .miter mv mr since seen last (hv.alt hnB ha) (hl hg fun h => h) hk
    | nbuf t sz hc hs => exact .nbuf t sz hc hs
    | gone => exact .gone
  · refine ⟨?_, fun cs hc => ?_⟩
    · rcases (h.glob g).1 with h1 | h1
      · exact .inl h1
      · exact .inr (h1.alt ha)
    · obtain ⟨h1, t, fr, h2⟩ := (h.glob g).2 cs hc
      exact ⟨h1, t, fr, ha.keep h2 fun h => h⟩

theorem Rel.withY {C : Ctx} {Y} {E : Env} {sto : List Blk} {w : World} (h : Rel C E sto w) : Rel { C with Y := Y } E sto w := ⟨h.n, h.al, h.cur, h.okb, h.inj, h.blk, h.glob⟩
theorem Rel.ofY {C : Ctx} {Y} {E : Env} {sto : List Blk} {w : World} (h : Rel { C with Y := Y } E sto w) : Rel C E sto w := ⟨h.n, h.al, h.cur, h.okb, h.inj, h.blk, h.glob⟩

/-! One round. -/
def setPs (tmps : List AVal) : List Nat → List AVal → List AVal
  | p :: ps, x :: xs => setPs (tmps.set p x) ps xs
  | _, _ => tmps
/-- A round of a loop: yield's arguments are assigned; then the body runs to its end. -/
def Round (C : Ctx) (CF : CallRel) : AVal → List AVal → List Blk → AVal → List Blk → Prop := fun y args sto r sto' =>
  ∃ (ps : List Nat) (assign body : Code) (tmps : List AVal) (own1 own2 : Tmp → Bool) (s1 s2 : St), y = .yld ps assign body tmps ∧ args.length = ps.length ∧
    Exec C CF own1 sto.length assign ⟨setPs tmps ps args, sto⟩ (.norm s1) ∧ noYL s1.tmps = true ∧ noYS s1.sto = true ∧ Exec C CF own2 s1.sto.length body s1 (.norm s2) ∧ noYS s2.sto = true ∧ r = .bool true ∧ sto' = s2.sto

section
variable {C : Ctx} {CF : CallRel}
theorem setPs_rel {w : World} {E : Env} : ∀ (ps : List Nat) (args tmps : List AVal) (vs tv : Array Value), vs.size = args.length → (∀ (i : Nat) x v, args[i]? = some x → vs[i]? = some v → V w E x v) → tv.size = tmps.length →
    (∀ (i : Nat) x v, tmps[i]? = some x → tv[i]? = some v → V w E x v) → args.length = ps.length →
    ((ps.toArray.zip vs).foldl (fun t (p : Nat × Value) => t.setIfInBounds p.1 p.2) tv).size = (setPs tmps ps args).length ∧
    ∀ (i : Nat) x v, (setPs tmps ps args)[i]? = some x → ((ps.toArray.zip vs).foldl (fun t (p : Nat × Value) => t.setIfInBounds p.1 p.2) tv)[i]? = some v → V w E x v := by
  intro ps
  induction ps with
  | nil =>
    intro args tmps vs tv h1 h2 h3 h4 h5
    have : args = [] := List.length_eq_zero_iff.1 h5
    subst this
    simp only [setPs]
    have : (([] : List Nat).toArray.zip vs).foldl (fun t (p : Nat × Value) => t.setIfInBounds p.1 p.2) tv = tv := by
      have hv0 : vs = #[] := Array.eq_empty_of_size_eq_zero h1
      subst hv0
      rw [← Array.foldl_toList]
      simp [Array.toList_zip]
    rw [this]
    exact ⟨h3, h4⟩
  | cons p ps ih =>
    intro args tmps vs tv h1 h2 h3 h4 h5
    match args, h5 with
    | x :: xs, h5 =>
      obtain ⟨vl⟩ := vs
      match vl, h1 with
      | v :: vl, h1 =>
        have e : ((p :: ps).toArray.zip (v :: vl).toArray).foldl (fun t (p : Nat × Value) => t.setIfInBounds p.1 p.2) tv = (ps.toArray.zip vl.toArray).foldl (fun t (p : Nat × Value) => t.setIfInBounds p.1 p.2) (tv.setIfInBounds p v) := by
          rw [← Array.foldl_toList, ← Array.foldl_toList]
          simp [Array.toList_zip]
        show (((p :: ps).toArray.zip (v :: vl).toArray).foldl (fun t (p : Nat × Value) => t.setIfInBounds p.1 p.2) tv).size = _ ∧ _
        rw [e]
        simp only [setPs]
        refine ih xs (tmps.set p x) vl.toArray (tv.setIfInBounds p v) (by simpa using h1) (fun i y u hy hu => h2 (i + 1) y u (by simpa using hy) (by simpa using hu)) (by simpa using h3) (fun i y u hy hu => ?_) (by simpa using h5)
        by_cases ei : p = i
        · subst ei
          have hlt : p < tmps.length := by
            have := (List.getElem?_eq_some_iff.1 hy).1
            simpa using this
          rw [List.getElem?_set_self hlt] at hy
          rw [Array.getElem?_setIfInBounds_self_of_lt (by rw [h3]; exact hlt)] at hu
          cases hy; cases hu
          exact h2 0 x v rfl rfl
        · rw [List.getElem?_set_ne ei] at hy
          rw [Array.getElem?_setIfInBounds_ne ei] at hu
          exact h4 i y u hy hu

/-- The record of a loop, turned and turned back. -/
theorem Step.around {E E1 : Env} {sto sto1 : List Blk} {w w2 w3 w4 : World} {l : Nat} {o1 o2 : Obj} (h2 : w2 = w.putObj l o1) (h4 : w4 = w3.putObj l o2) (hl : w.heap[l]? = some o2) (h : Step E sto w2 E1 sto1 w3) : Step E sto w E1 sto1 w4 := by
  subst h2; subst h4
  have hs := h.size
  rw [World.putObj_size] at hs
  have hlt := (Array.getElem?_eq_some_iff.1 hl).1
  refine ⟨h.os, h.tape, h.output, by rw [World.putObj_size]; exact hs, h.ok, fun k hk => ?_, fun k hk hb => ?_, h.al, fun b hb => ?_, h.keep, h.kbuf⟩
  · have := h.okNew k hk
    rw [World.putObj_size] at this; exact this
  · by_cases e : k = l
    · subst e
      rw [World.putObj_heap_same (Nat.lt_of_lt_of_le hlt hs), hl]
    · rw [World.putObj_heap_other e, h.heap k (by rw [World.putObj_size]; exact hk) hb, World.putObj_heap_other e]
  · have := h.own b hb
    rw [World.putObj_size] at this; exact this

theorem round_sound (hm : C.P.follows .mixedOrders = true) (hCF : Sound C CF) : YSound { C with Y := Round C CF } := by
  intro y args sto r sto' hR ro E w v vs hr' hv hvl
  have hr : Rel C E sto w := hr'.ofY
  obtain ⟨ps, assign, body, tmps, own1, own2, s1, s2, rfl, hlen, hx1, hn1, hn2, hx2, hn3, rfl, rfl⟩ := hR
  cases hv with
  | pure hp => cases hp
  | yld _ _ _ _ l D fn tv hg hd hs hvt =>
  have hps := setPs_rel ps args tmps vs tv hvl.1 hvl.2 hs hvt hlen
  refine ⟨l, fn, _, assign, body, rfl, run_yield hg (by simp [hvl.1, hlen]), ?_⟩
  refine roundIn_of_wpIn (F := FR ro) trivial ?_
  have h0 : RelSt ⟨0, []⟩ [] C E ⟨setPs tmps ps args, sto⟩ { tmps := (ps.toArray.zip vs).foldl (fun t (p : Nat × Value) => t.setIfInBounds p.1 p.2) tv, defers := [] } w := ⟨hr, hps.1, hps.2, rfl, .nil⟩
  refine wpIn_mono (wpC_wp (ro := some l) (exec_sound (z0 := ⟨0, []⟩) (dz := []) hm hCF (E0 := E) (σ0 := sto) (w0 := w) (fun b hb => hr.n b hb) hx1 (Step.refl _ _ _) h0 Nw.refl (Nat.le_refl _))) fun e a1 w1 ⟨he, E1, k1, k2, k3, k4⟩ => ?_
  subst he
  have hg1 := k1.apart hr hg rfl
  refine ⟨_, run_beginRound hg1 rfl, ?_⟩
  have ha1 : Alt w1 (w1.putObj l (.loop { state := .busy, pending := none, fn := fn, tmps := tv, params := ps.toArray, assign := assign, body := body, defers := D })) := .put (by rw [hg1]; trivial)
  have hr1 := k2.rel.alt hn2 ha1
  have hs1 : RelSt ⟨0, []⟩ [] C E1 s1 a1 (w1.putObj l (.loop { state := .busy, pending := none, fn := fn, tmps := tv, params := ps.toArray, assign := assign, body := body, defers := D })) :=
    ⟨hr1, k2.size, fun i x v hx hv => (k2.tmps i x v hx hv).alt (noYL_mem hn1 x (List.mem_of_getElem? hx)) ha1, k2.defers.1, .nil⟩
  refine wpIn_mono (wpC_wp (ro := some l) (exec_sound (z0 := ⟨0, []⟩) (dz := []) hm hCF (E0 := E1) (σ0 := s1.sto) (w0 := _) (fun b hb => hr1.n b hb) hx2 (Step.refl _ _ _) hs1 Nw.refl (Nat.le_refl _))) fun e a2 w3 ⟨he, E2, g1, g2, g3, g4⟩ => ?_
  subst he
  have hlt1 := (Array.getElem?_eq_some_iff.1 hg1).1
  have hg3 := g1.apart hr1 (World.putObj_heap_same hlt1) rfl
  refine ⟨_, _, run_endRound none hg3, _, rfl, E2, ?_, .pure (.bool true), ?_, ?_, ?_⟩
  · exact (g2.rel.alt hn3 (.put (by rw [hg3]; trivial))).withY
  · exact k1.trans (Step.around rfl rfl hg1 g1)
  · exact k3.trans g3 k4
  · exact Nat.le_trans k4 g4

/-! Functions that hold loops over functions. -/
/-- A call that comes to what is said, in each world. -/
def CallS (C : Ctx) : CallRel := fun f args sto r sto' =>
  ∀ (E : Env) (w : World) (vs : Array Value), Rel C E sto w → VL w E args vs → Invokes C.P f vs w fun v w' => ∃ E', Rel C E' sto' w' ∧ V w' E' r v ∧ Step E sto w E' sto' w' ∧ Nw E E' sto.length ∧ sto.length ≤ sto'.length
theorem callS_sem : Sound C (CallS C) := fun f args sto r sto' h E w vs hr hv => h E w vs hr hv

inductive ExecY (C : Ctx) (own : Tmp → Bool) (m0 : Nat) : Code → St → (Out → Prop) → Prop
  | m {c : Code} {s : St} {Q : Out → Prop} (h : ExecM C (CallS C) own m0 c s Q) : ExecY C own m0 c s Q
  | seq {a b : Code} {s : St} {R Q : Out → Prop} (h : ExecY C own m0 a s R) (hn : ∀ s1, R (.norm s1) → ExecY C own m0 b s1 Q) (hx : ∀ id s1, R (.exit id s1) → Q (.exit id s1)) (hr : ∀ s1, R (.ret s1) → Q (.ret s1)) :
      ExecY C own m0 (.seq a b) s Q
  | cond {c : Operand} {a b : Code} {s : St} {t : Bool} {Q : Out → Prop} (hc : s.eval C c = .bool t) (h : ExecY C own m0 (if t = true then a else b) s Q) : ExecY C own m0 (.cond c a b) s Q
  | block {id : Nat} {b : Code} {s : St} {R Q : Out → Prop} (h : ExecY C own m0 b s R) (hq : ∀ o, R o → Q (o.blk id)) : ExecY C own m0 (.block id b) s Q
  | loop {b : Code} {s : St} {R Q : Out → Prop} (h : ExecY C own m0 b s R) (hn : ∀ s1, R (.norm s1) → ExecY C own m0 (.loop b) s1 Q) (hx : ∀ id s1, R (.exit id s1) → Q (.exit id s1)) (hr : ∀ s1, R (.ret s1) → Q (.ret s1)) :
      ExecY C own m0 (.loop b) s Q
  | scope {c : Code} {s : St} {Q : Out → Prop} (h : ExecY C own m0 c s Q) : ExecY C own m0 (.scope c) s Q
  | rangeF {g : Operand} {ps : Array Tmp} {assign body : Code} {s : St} {Q : Out → Prop} {gf : FuncId} {fn : Func} {first caps : List AVal} {r : AVal} {sto' : List Blk} (hg : s.eval C g = .func gf first caps) (hf : C.P.funcs[gf]? = some fn)
      (hb : fn.body.isSome = true) (hname : fn.name ≠ "runtime.NumGoroutine") (ht : noYL s.tmps = true) (hfc : (noYL first && noYL caps) = true) (hs : noYS s.sto = true) (hs' : noYS sto' = true)
      (hc : CallS { C with Y := Round C (CallS C) } gf (first ++ [.yld ps.toList assign body s.tmps] ++ caps) s.sto r sto') (hq : Q (.norm ⟨s.tmps, sto'⟩)) : ExecY C own m0 (.rangeFunc g ps assign body) s Q

theorem ExecY.conseq {own : Tmp → Bool} {m0 : Nat} {c : Code} {s : St} {Q Q' : Out → Prop} (hx : ExecY C own m0 c s Q) (hq : ∀ o, Q o → Q' o) : ExecY C own m0 c s Q' := by
  induction hx with
  | m h => exact .m (h.conseq hq)
  | seq h hn hx hr ih ihn => exact .seq h (fun s1 h1 => ihn s1 h1 hq) (fun id s1 h1 => hq _ (hx id s1 h1)) (fun s1 h1 => hq _ (hr s1 h1))
  | cond hc _ ih => exact .cond hc (ih hq)
  | block h hb ih => exact .block h fun o ho => hq _ (hb o ho)
  | loop h hn hx hr ih ihn => exact .loop h (fun s1 h1 => ihn s1 h1 hq) (fun id s1 h1 => hq _ (hx id s1 h1)) (fun s1 h1 => hq _ (hr s1 h1))
  | scope _ ih => exact .scope (ih hq)
  | rangeF hg hf hb hname ht hfc hs hs' hc h => exact .rangeF hg hf hb hname ht hfc hs hs' hc (hq _ h)

/-- Steps from a world onto which records have been laid, to one in which the new records have turned. -/
theorem Step.over {E E1 : Env} {sto sto1 : List Blk} {w w1 w3 w4 : World} (h1 : w1.os = w.os ∧ w1.tape = w.tape ∧ w1.output = w.output ∧ w.heap.size ≤ w1.heap.size ∧ ∀ k, k < w.heap.size → w1.heap[k]? = w.heap[k]?) (h : Step E sto w1 E1 sto1 w3)
    (h4 : w4.os = w3.os ∧ w4.tape = w3.tape ∧ w4.output = w3.output ∧ w4.heap.size = w3.heap.size ∧ ∀ k, k < w.heap.size → w4.heap[k]? = w3.heap[k]?) : Step E sto w E1 sto1 w4 := by
  obtain ⟨a1, a2, a3, a4, a5⟩ := h1
  obtain ⟨b1, b2, b3, b4, b5⟩ := h4
  have hs := h.size
  refine ⟨by rw [b1, h.os, a1], by rw [b2, h.tape, a2], by rw [b3, h.output, a3], by omega, h.ok, fun k hk => ?_, fun k hk hb => ?_, h.al, fun b hb => ?_, h.keep, h.kbuf⟩
  · rcases h.okNew k hk with h | h | h
    · exact .inl h
    · exact .inr (.inl (by omega))
    · exact .inr (.inr h)
  · rw [b5 k hk, h.heap k (by omega) hb, a5 k hk]
  · rcases h.own b hb with h | h
    · exact .inl h
    · exact .inr (by omega)

theorem execY_sound (hm : C.P.follows .mixedOrders = true) (hY : YSound C) {own : Tmp → Bool} {m0 : Nat} {E0 : Env} {σ0 : List Blk} {w0 : World} (h0 : ∀ b, E0.al b → b < m0) {c : Code} {s : St} {Q : Out → Prop} (hx : ExecY C own m0 c s Q) :
    ∀ {dz : List Deferred} {E : Env} {a : Act} {w : World}, Step E0 σ0 w0 E s.sto w → RelSt ⟨w0.heap.size, []⟩ dz C E s a w → Nw E0 E m0 → m0 ≤ s.sto.length →
      wpC none C.P c (fun e a w => ∃ o, Q o ∧ ∃ dz', Ends ⟨w0.heap.size, []⟩ dz' C m0 E0 σ0 w0 o e a w) a w := by
  induction hx with
  | m h => intro dz E a w hst hr hn hl; exact wpC_mono (fun e a w ⟨o, hq, he⟩ => ⟨o, hq, dz, he⟩) (execM_sound hm callS_sem hY h0 h hst hr hn hl)
  | @seq c1 c2 s R Q h hn' hx' hr' ih ihn =>
    intro dz E a w hst hr hn hl
    refine wpIn_seq (wpR_mono (fun e a w ⟨o, hR, dz', he, E', h1, h2, n1, l1⟩ => ?_) (wpC_wp (ih hst hr hn hl)))
    cases o with
    | norm s1 => subst he; exact wpC_wp (ihn s1 hR h1 h2 n1 l1)
    | exit id s1 => subst he; exact ⟨_, hx' id s1 hR, dz', rfl, E', h1, h2, n1, l1⟩
    | ret s1 => subst he; exact ⟨_, hr' s1 hR, dz', rfl, E', h1, h2, n1, l1⟩
  | @cond c x y s t Q hc h ih =>
    intro dz E a w hst hr hn hl
    have := eval_sound hr c
    rw [hc] at this
    exact wpIn_cond this.bool_inv (wpC_wp (ih hst hr hn hl))
  | @block id b s R Q h hq ih =>
    intro dz E a w hst hr hn hl
    refine wpIn_block (wpR_mono (fun e a w ⟨o, hR, dz', he, E', h1, h2, n1, l1⟩ => ?_) (wpC_wp (ih hst hr hn hl)))
    have hqo := hq o hR
    cases o with
    | norm s1 => subst he; exact ⟨_, hqo, dz', rfl, E', h1, h2, n1, l1⟩
    | ret s1 => subst he; exact ⟨_, hqo, dz', rfl, E', h1, h2, n1, l1⟩
    | exit id' s1 =>
      subst he
      simp only [Out.ex, Exit.inBlock]
      simp only [Out.blk] at hqo
      by_cases hid : id' = id
      · rw [if_pos hid] at hqo ⊢
        exact ⟨_, hqo, dz', rfl, E', h1, h2, n1, l1⟩
      · rw [if_neg hid] at hqo ⊢
        exact ⟨_, hqo, dz', rfl, E', h1, h2, n1, l1⟩
  | @loop b s R Q h hn' hx' hr' ih ihn =>
    intro dz E a w hst hr hn hl
    refine wpL_intro (wpR_mono (fun e a w ⟨o, hR, dz', he, E', h1, h2, n1, l1⟩ => ?_) (wpC_wp (ih hst hr hn hl)))
    cases o with
    | norm s1 => subst he; exact ihn s1 hR h1 h2 n1 l1
    | exit id s1 => subst he; exact ⟨_, hx' id s1 hR, dz', rfl, E', h1, h2, n1, l1⟩
    | ret s1 => subst he; exact ⟨_, hr' s1 hR, dz', rfl, E', h1, h2, n1, l1⟩
  | @scope c s Q h ih =>
    intro dz E a w hst hr hn hl
    refine wpR_scope (wpR_mono (fun e a w ⟨o, hq⟩ => ?_) (wpC_wp (ih hst hr hn hl)))
    obtain ⟨_, dz', hE⟩ := id hq
    have he := hE.1
    cases o <;> (simp only [Out.ex] at he; subst he; exact ⟨_, hq⟩)
  | @rangeF g ps assign body s Q gf fn first caps r sto' hg hf hb hname ht hfc hs hs' hc hq =>
    intro dz E a w hst hr hn hl
    show (Code.rangeFunc g ps assign body).wpIn (FR none) 0 C.P _ a w
    refine wpIn_rangeFunc fun ff _ => ?_
    have hgv := eval_sound hr g
    rw [hg] at hgv
    obtain ⟨fs, cs, hge, hfs, hcs⟩ := hgv.func_inv
    let W1 : World := (w.alloc (.deferred (some []))).alloc (.loop { state := .ready, pending := none, fn := ff, tmps := a.tmps, params := ps, assign := assign, body := body, defers := w.heap.size })
    have hW1 : W1.heap = (w.heap.push (.deferred (some []))).push (.loop { state := .ready, pending := none, fn := ff, tmps := a.tmps, params := ps, assign := assign, body := body, defers := w.heap.size }) := rfl
    have hl1 : W1.heap[w.heap.size + 1]? = some (.loop { state := .ready, pending := none, fn := ff, tmps := a.tmps, params := ps, assign := assign, body := body, defers := w.heap.size }) := by
      have h1 := World.alloc_heap_new (w.alloc (.deferred (some []))) (.loop { state := .ready, pending := none, fn := ff, tmps := a.tmps, params := ps, assign := assign, body := body, defers := w.heap.size })
      have h2 : (w.alloc (.deferred (some []))).heap.size = w.heap.size + 1 := by show (w.heap.push _).size = _; simp
      rw [h2] at h1; exact h1
    have hd1 : W1.heap[w.heap.size]? = some (.deferred (some [])) := by rw [hW1]; simp [Array.getElem?_push]
    have hsz1 : W1.heap.size = w.heap.size + 2 := by rw [hW1]; simp
    have hold : ∀ k, k < w.heap.size → W1.heap[k]? = w.heap[k]? := fun k hk => by
      rw [hW1, Array.getElem?_push_lt (by simp; omega), Array.getElem_push_lt hk, Array.getElem?_eq_getElem hk]
    have halt : Alt w W1 := (Alt.alloc _ _).trans (.alloc _ _)
    have hr1 : Rel C E s.sto W1 := hr.rel.alt hs halt
    simp only [Bool.and_eq_true] at hfc
    let vs : Array Value := fs ++ #[.func (.yield (w.heap.size + 1)) #[] #[]] ++ cs
    have hvl : VL W1 E (first ++ [.yld ps.toList assign body s.tmps] ++ caps) vs := by
      refine (VL.append (VL.append (xs := first) (us := fs) ⟨hfs.1, fun i x v hx hv => (hfs.2 i x v hx hv).alt (noYL_mem hfc.1 x (List.mem_of_getElem? hx)) halt⟩ ⟨rfl, fun i x v hx hv => ?_⟩) ⟨hcs.1, fun i x v hx hv => (hcs.2 i x v hx hv).alt (noYL_mem hfc.2 x (List.mem_of_getElem? hx)) halt⟩)
      match i with
      | 0 =>
        simp at hx hv
        subst hx; subst hv
        exact .yld ps.toList assign body s.tmps (w.heap.size + 1) w.heap.size ff a.tmps hl1 hd1 hr.size (fun i x v hx hv => (hr.tmps i x v hx hv).alt (noYL_mem ht x (List.mem_of_getElem? hx)) halt)
      | n + 1 => simp at hx
    obtain ⟨bc, hbc⟩ := Option.isSome_iff_exists.1 hb
    have hcall := hc E W1 vs hr1.withY hvl
    unfold Invokes at hcall
    rw [enter_run hf hbc hname] at hcall
    simp only at hcall
    refine ⟨w.heap.size + 1, [{ target := .collected w.heap.size, args := #[] }], W1, { target := .fn (.func gf) cs, args := fs ++ #[.func (.yield (w.heap.size + 1)) #[] #[]] }, W1, gf, vs, W1, run_enterLoop_outer ff a.tmps ps assign body, ?_, fun _ _ => trivial, ?_, fun hx => by simp [Fence.wide] at hx, ?_⟩
    · show (Deferred.ofValue (a.eval g) (#[Operand.const (.func (.yield (w.heap.size + 1)) #[] #[])].map a.eval)).run C.P W1 = _
      have hm1 : (#[Operand.const (.func (.yield (w.heap.size + 1)) #[] #[])].map a.eval) = #[.func (.yield (w.heap.size + 1)) #[] #[]] := by simp [Act.eval]
      rw [hge, hm1]
      simp only [Deferred.ofValue, Sem.run_pure]
    · show (callFunc gf vs).run C.P W1 = _
      exact enter_run hf hbc hname vs W1
    refine callsR (Calls.mono hcall fun e w3 ⟨v, he, E', g1, g2, g3, g4, g5⟩ => ?_)
    subst he
    have hl3 := g3.apart hr1 hl1 rfl
    have hd3 := g3.apart hr1 hd1 rfl
    let W4 : World := w3.putObj (w.heap.size + 1) (.loop { state := .exhausted, pending := none, fn := ff, tmps := a.tmps, params := ps, assign := assign, body := body, defers := w.heap.size })
    have hsz3 := g3.size
    refine ⟨none, W4, run_endLoop hl3 (by simp), ?_⟩
    have halt4 : Alt w3 W4 := .put (by rw [hl3]; trivial)
    have hstep : Step E s.sto w E' sto' W4 := Step.over (w := w) (w1 := W1) (w3 := w3) (w4 := W4) ⟨rfl, rfl, rfl, by omega, hold⟩ g3 ⟨rfl, rfl, rfl, World.putObj_size, fun k hk => World.putObj_heap_other (by omega)⟩
    have hd4 : W4.heap[w.heap.size]? = some (.deferred (some [])) := by
      show (w3.putObj _ _).heap[w.heap.size]? = _
      rw [World.putObj_heap_other (by omega)]; exact hd3
    refine ⟨_, hq, { target := .collected w.heap.size, args := #[] } :: dz, rfl, E', hst.trans hstep, ⟨g1.ofY.alt hs' halt4, hr.size, fun i x v hx hv => (hr.tmps i x v hx hv).step hr.rel hstep, ?_, ?_⟩, hn.trans g4 hl, Nat.le_trans hl g5⟩
    · show [_] ++ a.defers = _
      rw [hr.defers.1]; rfl
    · obtain ⟨Ds, k1, k2, k3⟩ := hr.defers.2
      refine ⟨w.heap.size :: Ds, by rw [k1]; rfl, List.nodup_cons.2 ⟨fun hin => ?_, k2⟩, fun D hD => ?_⟩
      · have := (Array.getElem?_eq_some_iff.1 (k3 _ hin).2).1
        omega
      · rcases List.mem_cons.1 hD with rfl | hD
        · exact ⟨hst.size, hd4⟩
        · exact ⟨(k3 D hD).1, hstep.apart hr.rel (k3 D hD).2 rfl⟩

/-! The end of a function that holds loops over functions: the marks are come to. -/
def dropY (s : St) : St := ⟨s.tmps.map fun x => if noY x = true then x else .dead, s.sto⟩
def EndY (C : Ctx) (fn : Func) (sto : List Blk) (r : AVal) (sto' : List Blk) (o : Out) : Prop :=
  ∃ (s0 s : St), (o = .norm s0 ∨ o = .ret s0) ∧ (s = s0 ∨ Weak sto.length s0 s) ∧ noYS s.sto = true ∧ resA C.P (dropY s) fn.results.toList = some r ∧ sto' = s.sto
def CallY (C : Ctx) : CallRel := fun f args sto r sto' =>
  ∃ (fn : Func) (c : Code) (own : Tmp → Bool), C.P.funcs[f]? = some fn ∧ fn.body = some c ∧ fn.name ≠ "runtime.NumGoroutine" ∧ ExecY C own sto.length c (entry fn.ntmps args sto) (EndY C fn sto r sto')

theorem leaves_marks {fn : Func} {tmps : Array Value} {R : Ending → World → Prop} : ∀ (Ds : List Nat) (w : World), Ds.Nodup → (∀ D, D ∈ Ds → w.heap[D]? = some (.deferred (some []))) →
    (∀ w', Alt w w' → w'.heap.size = w.heap.size → (∀ k, k ∉ Ds → w'.heap[k]? = w.heap[k]?) → ∃ v, (results fn tmps).run C.P w' = .ok v w' ∧ R (.returned v) w') →
    LeavesInM (FR none) 0 C.P fn tmps R (Ds.map fun D => { target := .collected D, args := #[] }) .returning w := by
  intro Ds
  induction Ds with
  | nil =>
    intro w hn hd h
    obtain ⟨v, h1, h2⟩ := h w ⟨rfl, rfl, rfl, Nat.le_refl _, fun _ _ => .inl rfl⟩ rfl (fun _ _ => rfl)
    exact ⟨v, h1, h2⟩
  | cons D Ds ih =>
    intro w hn hd h
    obtain ⟨hn1, hn2⟩ := List.nodup_cons.1 hn
    have hD := hd D List.mem_cons_self
    refine ⟨by simp, .inl ⟨D, w.putObj D (.deferred none), rfl, run_takeDeferred hD, ih _ hn2 (fun D' hD' => ?_) fun w' h1 h2 h3 => h w' ((Alt.put (by rw [hD]; trivial)).trans h1) (by rw [h2, World.putObj_size]) fun k hk => ?_⟩⟩
    · have hne : D' ≠ D := by intro e; subst e; exact hn1 hD'
      rw [World.putObj_heap_other hne]; exact hd D' (List.mem_cons_of_mem _ hD')
    · have hne : k ≠ D := by intro e; subst e; exact hk List.mem_cons_self
      rw [h3 k (fun hin => hk (List.mem_cons_of_mem _ hin)), World.putObj_heap_other hne]

theorem callY_sound (hm : C.P.follows .mixedOrders = true) (hY : YSound C) : Sound C (CallY C) := by
  intro f args sto r sto' ⟨fn, c, own, hf, hb, hname, hx⟩ E w vs hr hvl
  unfold Invokes
  rw [enter_run hf hb hname]
  simp only
  refine callsR_iff (ro := none) (n := 0) (callsIn_of_wp_marks hf hb trivial (wpR_mono (fun e a w' ⟨o, hq, dz, hE⟩ => ?_) (wpC_wp (execY_sound hm hY (E0 := E) (σ0 := sto) (w0 := w) (fun b hb => hr.n b hb) hx (Step.refl _ _ _) (entry_rel fn.ntmps hr hvl) Nw.refl (Nat.le_refl _)))) rfl)
  obtain ⟨s0, s, ho, hweak, hns, hres, rfl⟩ := hq
  obtain ⟨he, E0', k1, k2, k3, k4⟩ := hE
  have hs0 : o.st = s0 ∧ (e = .normal ∨ e = .ret) := by
    rcases ho with rfl | rfl
    · exact ⟨rfl, .inl he⟩
    · exact ⟨rfl, .inr he⟩
  obtain ⟨rfl, he'⟩ := hs0
  obtain ⟨E', h1, h2, hn', hl'⟩ : ∃ E', Step E sto w E' s.sto w' ∧ RelSt ⟨w.heap.size, []⟩ dz C E' s a w' ∧ Nw E E' sto.length ∧ sto.length ≤ s.sto.length := by
    rcases hweak with rfl | hw
    · exact ⟨E0', k1, k2, k3, k4⟩
    · obtain ⟨g1, g2⟩ := weak_sound (fun b hb => hr.n b hb) k1 k2 hw
      exact ⟨_, g1, g2, fun b hb => k3 b hb.1, hw.low⟩
  obtain ⟨hdz, Ds, q1, q2, q3⟩ := h2.defers
  have key : LeavesInM (FR none) 0 C.P fn a.tmps (fun e w'' => ∃ v, e = .returned v ∧ ∃ E'', Rel C E'' s.sto w'' ∧ V w'' E'' r v ∧ Step E sto w E'' s.sto w'' ∧ Nw E E'' sto.length ∧ sto.length ≤ s.sto.length) a.defers .returning w' := by
    rw [hdz, q1, List.append_nil]
    refine leaves_marks Ds w' q2 (fun D hD => (q3 D hD).2) fun w'' a1 a2 a3 => ?_
    have hr2 := h2.rel.alt hns a1
    have hst2 : Step E sto w E' s.sto w'' := by
      refine Step.over ⟨rfl, rfl, rfl, Nat.le_refl _, fun _ _ => rfl⟩ h1 ⟨a1.os, a1.tape, a1.output, a2, fun k hk => a3 k fun hin => ?_⟩
      have hk1 : w.heap.size ≤ k := (q3 k hin).1
      omega
    have hrel : RelSt ⟨0, []⟩ [] C E' (dropY s) { tmps := a.tmps, defers := [] } w'' := by
      refine ⟨hr2, by simpa [dropY] using h2.size, fun i x v hx hv => ?_, rfl, .nil⟩
      simp only [dropY, List.getElem?_map, Option.map_eq_some_iff] at hx
      obtain ⟨y, hy, rfl⟩ := hx
      split
      · rename_i hny
        exact (h2.tmps i y v hy hv).alt hny a1
      · exact .dead _
    obtain ⟨v, hv1, hv2⟩ := res_sound hrel hres
    exact ⟨v, hv1, v, rfl, E', hr2, hv2, hst2, hn', hl'⟩
  rcases he' with rfl | rfl
  · exact key
  · exact key
end
end Go.Proofs.YtaajfbcopafkaaaGreatDoor.Ai
