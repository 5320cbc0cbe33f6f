/- Functions that defer calls: where no panic comes, the deferred functions run at the end; recover finds nothing. Own work of this seat. -/
import Derived.Test.YtaajfbcopafkaaaGreatDoorAiLh
import Derived.Recover
namespace Go.Proofs.YtaajfbcopafkaaaGreatDoor.Ai
open Go
set_option linter.unusedVariables false
set_option linter.unusedSimpArgs false

/-- Deferred functions, as values. -/
inductive DV (w : World) (E : Env) : List AVal → List Deferred → Prop
  | nil : DV w E [] []
  | cons {g : FuncId} {first caps : List AVal} {fs cs : Array Value} {ds : List AVal} {cds : List Deferred} (hf : VL w E first fs) (hc : VL w E caps cs) (t : DV w E ds cds) :
      DV w E (.func g first caps :: ds) ({ target := .fn (.func g) cs, args := fs } :: cds)
theorem VL.step' {w w' : World} {E E' : Env} {C : Ctx} {sto sto' : List Blk} {xs : List AVal} {vs : Array Value} (h : VL w E xs vs) (hr : Rel C E sto w) (hs : Step E sto w E' sto' w') : VL w' E' xs vs :=
  ⟨h.1, fun i x v hx hv => (h.2 i x v hx hv).step hr hs⟩
theorem DV.step {w w' : World} {E E' : Env} {C : Ctx} {sto sto' : List Blk} {ds : List AVal} {cds : List Deferred} (h : DV w E ds cds) (hr : Rel C E sto w) (hs : Step E sto w E' sto' w') : DV w' E' ds cds := by
  induction h with
  | nil => exact .nil
  | cons hf hc _ ih => exact .cons (hf.step' hr hs) (hc.step' hr hs) ih

/-- Runs of code that defers calls on its way. -/
inductive ExecD (C : Ctx) : List AVal → Code → St → List AVal → Out → Prop
  | m {ds : List AVal} {c : Code} {s : St} {o : Out} (h : Exec C (CallS C) (fun _ => false) s.sto.length c s o) : ExecD C ds c s ds o
  | seqN {ds ds1 ds2 : List AVal} {a b : Code} {s s1 : St} {o : Out} (h : ExecD C ds a s ds1 (.norm s1)) (t : ExecD C ds1 b s1 ds2 o) : ExecD C ds (.seq a b) s ds2 o
  | seqX {ds ds1 : List AVal} {a b : Code} {s s1 : St} {id : Nat} (h : ExecD C ds a s ds1 (.exit id s1)) : ExecD C ds (.seq a b) s ds1 (.exit id s1)
  | seqR {ds ds1 : List AVal} {a b : Code} {s s1 : St} (h : ExecD C ds a s ds1 (.ret s1)) : ExecD C ds (.seq a b) s ds1 (.ret s1)
  | defer {ds : List AVal} {id : Nat} {ops : Array Oper} {pre : List Oper} {o : Oper} {c : Call} {f : Operand} {g : FuncId} {first caps : List AVal} {s s1 : St} (ho : ops.toList = pre ++ [o]) (hop : o.op = .defer c) (hc : c.callee = .value f)
      (ha : c.args = #[]) (hg : o.guard = none) (hd : o.dst = none) (hr : RunU C (CallS C) (fun _ => false) ops pre s s1) (hf : s1.eval C f = .func g first caps) : ExecD C ds (.region id ops false) s (.func g first caps :: ds) (.norm s1)

theorem runU_app {ro : Option Nat} {z0 : Z} {dz : List Deferred} {C : Ctx} {CF : CallRel} (hCF : Sound C CF) {own : Tmp → Bool} {ops : Array Oper} {Q : Exit → Act → World → Prop} : ∀ (l : List Oper) (k : Nat) (post : List Oper) (s s1 : St) (E : Env) (a : Act) (w : World), ops.toList.drop k = l ++ post → RunU C CF own ops l s s1 → RelSt z0 dz C E s a w →
    (∀ E' a' w', Step E s.sto w E' s1.sto w' → RelSt z0 dz C E' s1 a' w' → Nw E E' s.sto.length → s.sto.length ≤ s1.sto.length → wpOpsIn (FR ro) 0 C.P ops Q (List.range' (k + l.length) post.length) a' w') → wpOpsIn (FR ro) 0 C.P ops Q (List.range' k (l ++ post).length) a w := by
  intro l
  induction l with
  | nil =>
    intro k post s s1 E a w hl hR h hQ
    cases hR
    have := hQ E a w (Step.refl _ _ _) h Nw.refl (Nat.le_refl _)
    simpa using this
  | cons o l ih =>
    intro k post s s1 E a w hl hR h hQ
    cases hR with
    | cons hS hT =>
      have hk : ops[k]? = some o := by
        have : (ops.toList.drop k)[0]? = some o := by rw [hl]; rfl
        rw [List.getElem?_drop, Nat.add_zero, Array.getElem?_toList] at this
        exact this
      simp only [List.cons_append, List.length_cons, List.range'_succ]
      rw [wpOpsIn_cons]
      simp only [wpOpIn, hk]
      refine op_sound (Q := Q) hCF h hS (fun E' a' w' h1 h2 n1 l1 => ih (k + 1) post _ _ E' a' w' ?_ hT h2 (fun E'' a'' w'' h3 h4 n2 l2 => ?_))
      · have : (ops.toList.drop k).drop 1 = l ++ post := by rw [hl]; rfl
        rwa [List.drop_drop] at this
      · have := hQ E'' a'' w'' (h1.trans h3) h4 (n1.trans n2 l1) (Nat.le_trans l1 l2)
        rw [List.length_cons] at this
        rw [show k + 1 + l.length = k + (l.length + 1) by omega]
        exact this

section
variable {C : Ctx}
theorem execD_sound (hm : C.P.follows .mixedOrders = true) {ds ds' : List AVal} {c : Code} {s : St} {o : Out} (hx : ExecD C ds c s ds' o) :
    ∀ {cds : List Deferred} {E : Env} {a : Act} {w : World}, RelSt ⟨0, cds⟩ cds C E s a w → DV w E ds cds → c.wpIn (FR none) 0 C.P (fun e a' w' => ∃ cds', e = o.ex ∧ ∃ E', Step E s.sto w E' o.st.sto w' ∧ RelSt ⟨0, cds'⟩ cds' C E' o.st a' w' ∧ DV w' E' ds' cds' ∧
      Nw E E' s.sto.length ∧ s.sto.length ≤ o.st.sto.length) a w := by
  induction hx with
  | m h =>
    intro cds E a w hr hd
    refine wpIn_mono (wpC_wp (exec_sound (z0 := ⟨0, cds⟩) (dz := cds) (ro := none) hm callS_sem (E0 := E) (w0 := w) (fun b hb => hr.rel.n b hb) h (Step.refl _ _ _) hr Nw.refl (Nat.le_refl _))) fun e a' w' ⟨he, E', h1, h2, h3, h4⟩ => ?_
    exact ⟨cds, he, E', h1, h2, hd.step hr.rel h1, h3, h4⟩
  | seqN h t ih it =>
    intro cds E a w hr hd
    refine wpIn_seq (wpR_mono (fun e a w ⟨cds1, he, E', h1, h2, h3, h4, h5⟩ => ?_) (ih hr hd))
    subst he
    refine wpR_mono (fun e a w ⟨cds2, he, E'', g1, g2, g3, g4, g5⟩ => ?_) (it h2 h3)
    exact ⟨cds2, he, E'', h1.trans g1, g2, g3, h4.trans g4 h5, Nat.le_trans h5 g5⟩
  | seqX h ih =>
    intro cds E a w hr hd
    refine wpIn_seq (wpR_mono (fun e a w ⟨cds1, he, E', h1, h2, h3, h4, h5⟩ => ?_) (ih hr hd))
    subst he
    exact ⟨cds1, rfl, E', h1, h2, h3, h4, h5⟩
  | seqR h ih =>
    intro cds E a w hr hd
    refine wpIn_seq (wpR_mono (fun e a w ⟨cds1, he, E', h1, h2, h3, h4, h5⟩ => ?_) (ih hr hd))
    subst he
    exact ⟨cds1, rfl, E', h1, h2, h3, h4, h5⟩
  | @defer ds id ops pre o c f g first caps s s1 ho hop hc ha hg hdst hrun hf =>
    intro cds E a w hr hd
    refine wpIn_region ?_
    have hlen : ops.size = (pre ++ [o]).length := by rw [← ho, Array.length_toList]
    rw [List.range_eq_range', hlen]
    refine runU_app callS_sem pre 0 [o] s s1 E a w (by simpa using ho) hrun hr fun E' a' w' h1 h2 h3 h4 => ?_
    have hk : ops[0 + pre.length]? = some o := by
      rw [← Array.getElem?_toList, ho, Nat.zero_add, List.getElem?_append_right (Nat.le_refl _), Nat.sub_self]; rfl
    simp only [List.length_cons, List.length_nil, List.range'_succ, List.range'_zero]
    rw [wpOpsIn_cons]
    simp only [wpOpIn, hk]
    have hw : Region.wanted o (yielded ops a'.tmps) = true := by simp [Region.wanted, hg]
    rw [if_pos hw]
    refine ⟨fun _ _ => trivial, ?_⟩
    have hfv := eval_sound h2 f
    rw [hf] at hfv
    obtain ⟨fs, cs, hfe, hfs, hcs⟩ := hfv.func_inv
    have hex : (Oper.semAt (FR none).round a'.eval o).run C.P w' = .ok (.defer { target := .fn (.func g) cs, args := fs }) w' := by
      show (execOp a'.eval o).run C.P w' = _
      simp only [execOp, hop, resolve, hc, ha, hfe, Deferred.ofValue, Sem.run_bind, Sem.run_pure, Result.andThen_ok, List.map_toArray, List.map_nil, Array.append_empty]
    rw [hex, Oper.uponIn_defer]
    show (_ : Prop)
    have hcd : a'.defers = cds := h2.defers.1
    refine ⟨{ target := .fn (.func g) cs, args := fs } :: cds, rfl, E', h1, ⟨h2.rel, ?_, ?_, ?_⟩, .cons hfs hcs (hd.step hr.rel h1), h3, h4⟩
    · rw [hdst]; exact h2.size
    · rw [hdst]; exact h2.tmps
    · rw [hdst]
      refine ⟨?_, .all⟩
      show _ :: a'.defers = _
      rw [hcd]

/-! A deferred function, run where no panic is. -/
def recAt (ops : List Oper) : Option (Tmp × Tmp) :=
  match ops with
  | [o1, o2] => (match o1.guard, o2.guard, o1.dst, o2.dst, o1.op, o2.op with
    | none, none, some t, some u, .call c, .assign (.tmp t') => if t' = t then (match c.callee with | .builtin .recover => if c.args.size = 0 then some (t, u) else none | _ => none) else none
    | _, _, _, _, _, _ => none)
  | _ => none
def recSt (C : Ctx) (n : Nat) (args : List AVal) (sto : List Blk) (t u : Tmp) : St :=
  let s1 : St := ⟨put (entry n args sto).tmps (some t) .nilif, sto⟩
  ⟨put s1.tmps (some u) (s1.eval C (.tmp t)), sto⟩
def CallR (C : Ctx) (g : FuncId) (args : List AVal) (sto sto' : List Blk) : Prop :=
  ∃ (fn : Func) (id : Nat) (ops : Array Oper) (rest : Code) (t u : Tmp) (o : Out) (s : St) (r : AVal), C.P.funcs[g]? = some fn ∧ fn.body = some (.seq (.region id ops false) rest) ∧ fn.name ≠ "runtime.NumGoroutine" ∧ recAt ops.toList = some (t, u) ∧
    Exec C (CallS C) (fun _ => false) sto.length rest (recSt C fn.ntmps args sto t u) o ∧ (o = .norm s ∨ o = .ret s) ∧ resA C.P s fn.results.toList = some r ∧ sto' = s.sto

theorem callR_sound (hm : C.P.follows .mixedOrders = true) {g : FuncId} {args : List AVal} {sto sto' : List Blk} (h : CallR C g args sto sto') {E : Env} {w : World} {vs : Array Value} (hr : Rel C E sto w) (hv : VL w E args vs) :
    CallsD C.P g vs .returning w fun e u' w' => u' = .returning ∧ ∃ v, e = .returned v ∧ ∃ E', Rel C E' sto' w' ∧ Step E sto w E' sto' w' ∧ Nw E E' sto.length ∧ sto.length ≤ sto'.length := by
  obtain ⟨fn, id, ops, rest, t, u, o, s, r, hf, hb, hname, hrec, hx, ho, hres, rfl⟩ := h
  refine callsD_of_wpS hf hb fun c₀ cs hc₀ => wpS_seq (wpS_region ?_)
  unfold recAt at hrec
  split at hrec
  · rename_i o1 o2 hops
    split at hrec
    · rename_i t0 u0 c t' hg1 hg2 hd1 hd2 hop1 hop2
      split at hrec
      · rename_i htt
        subst htt
        split at hrec
        · rename_i hcal
          split at hrec
          · rename_i hargs
            simp only [Option.some.injEq, Prod.mk.injEq] at hrec
            obtain ⟨rfl, rfl⟩ := hrec
            have hsz : ops.size = 2 := by rw [← Array.length_toList, hops]; rfl
            have h0 : ops[0]? = some o1 := by rw [← Array.getElem?_toList, hops]; rfl
            have h1 : ops[1]? = some o2 := by rw [← Array.getElem?_toList, hops]; rfl
            have hr0 : RelSt ⟨0, []⟩ [] C E (entry fn.ntmps args sto) { tmps := vs ++ Array.replicate (fn.ntmps - vs.size) undef, defers := [] } w := entry_rel fn.ntmps hr hv
            generalize ({ tmps := vs ++ Array.replicate (fn.ntmps - vs.size) undef, defers := [] } : Act) = a at hr0
            have hr1 : RelSt ⟨0, []⟩ [] C E ⟨put (entry fn.ntmps args sto).tmps (some t') .nilif, sto⟩ (a.put (some t') .nilIface) w := put_rel hr0 (Step.refl _ _ _) hr (.pure .nilif)
            have hr2 : RelSt ⟨0, []⟩ [] C E (recSt C fn.ntmps args sto t' u0) ((a.put (some t') .nilIface).put (some u0) ((a.put (some t') .nilIface).eval (.tmp t'))) w := put_rel hr1 (Step.refl _ _ _) hr (eval_sound hr1 (.tmp t'))
            rw [hsz]
            show wpOpsS C.P ops _ [0, 1] a (c₀ :: cs) w
            have hw1 : ∀ x, Region.wanted o1 (yielded ops x) = true := fun x => by simp [Region.wanted, hg1]
            have hw2 : ∀ x, Region.wanted o2 (yielded ops x) = true := fun x => by simp [Region.wanted, hg2]
            have hx1 : (execOp a.eval o1).run C.P w = .ok .recover w := by
              simp only [execOp, hop1, resolve, hcal, Sem.run_bind, Sem.run_pure, Result.andThen_ok, invoke, builtin]
            have hrd : recoverD (c₀ :: cs) = none := by simp [recoverD, hc₀]
            have hx2 : ∀ b : Act, (execOp b.eval o2).run C.P w = .ok (.value (b.eval (.tmp t'))) w := fun b => by
              simp only [execOp, hop2, Sem.run_pure]
            simp only [wpOpsS, h0, h1, hw1, hw2, if_true, hx1, hrd, hx2, Oper.upon, hd1, hd2, Exit.thenS]
            refine wpS_of_wp (Code.wp_mono (fun e a' w' ⟨he, E', k1, k2, k3, k4⟩ => ?_) (wpIn_wide.1 (wpC_wp (exec_sound (z0 := ⟨0, []⟩) (dz := []) (ro := none) hm callS_sem (E0 := E) (σ0 := sto) (w0 := w) (fun b hb => hr.n b hb) hx (Step.refl _ _ _) hr2 Nw.refl (Nat.le_refl _)))))
            have hs : o.st = s ∧ (e = .normal ∨ e = .ret) := by
              rcases ho with rfl | rfl
              · exact ⟨rfl, .inl he⟩
              · exact ⟨rfl, .inr he⟩
            obtain ⟨rfl, he'⟩ := hs
            obtain ⟨v, hv1, hv2⟩ := res_sound k2 hres
            have hcs : c₀ :: cs = { c₀ with mode := .returning } :: cs := by rw [← hc₀]
            rcases he' with rfl | rfl
            · exact ⟨k2.defers.1, .returning, hcs, v, hv1, rfl, v, rfl, E', k2.rel, k1, k3, k4⟩
            · exact ⟨k2.defers.1, .returning, hcs, v, hv1, rfl, v, rfl, E', k2.rel, k1, k3, k4⟩
          · cases hrec
        · cases hrec
      · cases hrec
    · cases hrec
  · cases hrec

/-! The end of a function that has deferred calls. -/
inductive RunDs (C : Ctx) : List AVal → List Blk → List Blk → Prop
  | nil (sto : List Blk) : RunDs C [] sto sto
  | cons {g : FuncId} {first caps : List AVal} {ds : List AVal} {sto sto1 sto2 : List Blk} (h : CallR C g (first ++ caps) sto sto1) (t : RunDs C ds sto1 sto2) : RunDs C (.func g first caps :: ds) sto sto2
theorem leavesD (hm : C.P.follows .mixedOrders = true) {fn : Func} {tmps : Array Value} {R : Ending → World → Prop} {ds : List AVal} {sto sto2 : List Blk} (hd : RunDs C ds sto sto2) : ∀ {cds : List Deferred} {E : Env} {w : World}, DV w E ds cds → Rel C E sto w →
    (∀ E' w', Rel C E' sto2 w' → Step E sto w E' sto2 w' → Nw E E' sto.length → sto.length ≤ sto2.length → ∃ v, (results fn tmps).run C.P w' = .ok v w' ∧ R (.returned v) w') → Leaves C.P fn tmps R cds .returning w := by
  induction hd with
  | nil sto =>
    intro cds E w hv hr hk
    cases hv
    exact hk E w hr (Step.refl _ _ _) Nw.refl (Nat.le_refl _)
  | @cons g first caps ds sto sto1 sto2 h t ih =>
    intro cds E w hv hr hk
    cases hv with
    | @cons _ _ _ fs cs _ cds hf hc ht =>
      have hcall := callR_sound hm h hr (hf.append hc)
      have hinv : (invoke (.fn (.func g) cs) fs).run C.P w = .ok (.enter g (fs ++ cs)) w := by
        obtain ⟨fn', id, ops, rest, t', u, o, s, r, hf', hb', hname', _⟩ := h
        exact enter_run hf' hb' hname' _ _
      refine leaves_cons (by simp) hinv (hcall.mono fun e u' w' ⟨hu, v, he, E', g1, g2, g3, g4⟩ => ?_)
      subst hu; subst he
      show Leaves C.P fn tmps R cds .returning w'
      exact ih (ht.step hr g2) g1 fun E2 w2 k1 k2 k3 k4 => hk E2 w2 k1 (g2.trans k2) (g3.trans k3 g4) (Nat.le_trans g4 k4)
/-- A call of a function that defers calls and comes to no panic. -/
def CallD (C : Ctx) : CallRel := fun f args sto r sto' =>
  ∃ (fn : Func) (c : Code) (ds : List AVal) (o : Out) (s : St), C.P.funcs[f]? = some fn ∧ fn.body = some c ∧ fn.name ≠ "runtime.NumGoroutine" ∧ ExecD C [] c (entry fn.ntmps args sto) ds o ∧ (o = .norm s ∨ o = .ret s) ∧ RunDs C ds s.sto sto' ∧ resA C.P ⟨s.tmps, sto'⟩ fn.results.toList = some r
theorem callD_sound (hm : C.P.follows .mixedOrders = true) : Sound C (CallD C) := by
  intro f args sto r sto' ⟨fn, c, ds, o, s, hf, hb, hname, hx, ho, hd, hres⟩ E w vs hr hvl
  unfold Invokes
  rw [enter_run hf hb hname]
  simp only
  refine calls_of_wp_defers hf hb (Code.wp_mono (fun e a w' ⟨cds, he, E', h1, h2, h3, h4, h5⟩ => ?_) (wpIn_wide.1 (execD_sound hm hx (entry_rel fn.ntmps hr hvl) .nil)))
  have hs : o.st = s ∧ (e = .normal ∨ e = .ret) := by
    rcases ho with rfl | rfl
    · exact ⟨rfl, .inl he⟩
    · exact ⟨rfl, .inr he⟩
  obtain ⟨rfl, he'⟩ := hs
  have key : Leaves C.P fn a.tmps (fun e w'' => ∃ v, e = .returned v ∧ ∃ E'', Rel C E'' sto' w'' ∧ V w'' E'' r v ∧ Step E sto w E'' sto' w'' ∧ Nw E E'' sto.length ∧ sto.length ≤ sto'.length) a.defers .returning w' := by
    rw [h2.defers.1]
    refine leavesD hm hd h3 h2.rel fun E2 w2 k1 k2 k3 k4 => ?_
    have hrel : RelSt ⟨0, []⟩ [] C E2 ⟨o.st.tmps, sto'⟩ { tmps := a.tmps, defers := [] } w2 := ⟨k1, h2.size, fun i x v hx hv => (h2.tmps i x v hx hv).step h2.rel k2, rfl, .nil⟩
    obtain ⟨v, hv1, hv2⟩ := res_sound hrel hres
    exact ⟨v, hv1, v, rfl, E2, k1, hv2, h1.trans k2, h4.trans k3 h5, Nat.le_trans h5 k4⟩
  rcases he' with rfl | rfl
  · exact key
  · exact key
end
end Go.Proofs.YtaajfbcopafkaaaGreatDoor.Ai
