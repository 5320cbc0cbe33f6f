/- What has to be shown for code to run: a proposition, by recursion over the code. Symbolic runs: what has to be shown for code to run, as a proposition that unfolds by reduction alone. Definitions. Own work of this seat. -/
import Derived.Test.YtaajfbcopafkaaaGreatDoorAiLd
import Derived.KernelRfl
namespace Go.Proofs.YtaajfbcopafkaaaGreatDoor.Ai
open Go
set_option linter.unusedVariables false
set_option linter.unusedSimpArgs false

/-! What is called may be more. -/
def LeC (F G : CallRel) : Prop := ∀ f args sto r sto', F f args sto r sto' → G f args sto r sto'

section
variable {C : Ctx} {F G : CallRel} {own : Tmp → Bool}

theorem CallStep.mono (h : LeC F G) {sto : List Blk} {g : FuncId} {args : List AVal} {r : AVal} {sto' : List Blk} (hs : CallStep F sto g args r sto') : CallStep G sto g args r sto' := by
  cases hs with
  | pure xs args' hargs hno hle hc hr => exact .pure xs args' hargs hno hle (h _ _ _ _ _ hc) hr
  | full hc => exact .full (h _ _ _ _ _ hc)

theorem OpStep.mono (h : LeC F G) {ops : Array Oper} {id : Nat} {o : Oper} {s s1 : St} (hs : OpStep C F own ops id o s s1) : OpStep C G own ops id o s s1 := by
  cases hs with
  | skip hg => exact .skip hg
  | den hg hd => exact .den hg hd
  | ext hg hd => exact .ext hg hd
  | call hg ho hc hf hcall => exact .call hg ho hc hf (hcall.mono h)

theorem RunU.mono (h : LeC F G) {ops : Array Oper} {l : List Oper} {s s1 : St} (hs : RunU C F own ops l s s1) : RunU C G own ops l s s1 := by
  induction hs with
  | nil s => exact .nil s
  | cons ho _ ih => exact .cons (ho.mono h) ih

theorem OpDo.mono' (h : LeC F G) {ops : Array Oper} {id : Nat} {o : Oper} {tmps : List AVal} {sto : List Blk} {v : AVal} {ws : List (Nat × Blk)} (hs : OpDo C F own ops id o tmps sto v ws) : OpDo C G own ops id o tmps sto v ws := by
  cases hs with
  | skip hg => exact .skip hg
  | den hg hd => exact .den hg hd
  | ext hg hd => exact .ext hg hd
  | call hg ho hc hf xs args' hargs hno hle hcall hr => exact .call hg ho hc hf xs args' hargs hno hle (h _ _ _ _ _ hcall) hr

theorem OpLab.mono (h : LeC F G) {ops : Array Oper} {id : Nat} {o : Oper} {l : Lab} {s s1 : St} (hs : OpLab C F own ops id o l s s1) : OpLab C G own ops id o l s s1 := by
  cases hs with
  | mk hd hw hin hfl => exact .mk (hd.mono' h) hw hin hfl
  | fcall hg ho hc hf hcall hl hw hin hle hr hb => exact .fcall hg ho hc hf (h _ _ _ _ _ hcall) hl hw hin hle hr hb
  | tcall hg ho hc hf hcall hl hle => exact .tcall hg ho hc hf (h _ _ _ _ _ hcall) hl hle

theorem RunD.mono (h : LeC F G) {ops : Array Oper} {base : Nat} {il : List (Nat × Lab)} {s s1 : St} (hs : RunD C F own ops base il s s1) : RunD C G own ops base il s s1 := by
  induction hs with
  | nil s => exact .nil s
  | cons ho hl _ ih => exact .cons ho (hl.mono h) ih

theorem Exec.mono (h : LeC F G) {m0 : Nat} {c : Code} {s : St} {o : Out} (hx : Exec C F own m0 c s o) : Exec C G own m0 c s o := by
  induction hx with
  | skip s => exact .skip s
  | label l s => exact .label l s
  | exit id s => exact .exit id s
  | ret s => exact .ret s
  | region hR => exact .region (hR.mono h)
  | regionD hR hi hok => exact .regionD (hR.mono h) hi hok
  | seqN _ _ ih it => exact .seqN ih it
  | seqX _ ih => exact .seqX ih
  | seqR _ ih => exact .seqR ih
  | cond hc _ ih => exact .cond hc ih
  | blockN _ ih => exact .blockN ih
  | blockX _ ih => exact .blockX ih
  | blockY hne _ ih => exact .blockY hne ih
  | blockR _ ih => exact .blockR ih
  | loopN _ _ ih it => exact .loopN ih it
  | loopX _ ih => exact .loopX ih
  | loopR _ ih => exact .loopR ih
  | grow hw _ ih => exact .grow hw ih
  | weak hw _ ih => exact .weak hw ih
  | weakN _ hw ih => exact .weakN ih hw
  | giveN _ ht hn ih => exact .giveN ih ht hn
  | scope _ ih => exact .scope ih

theorem RunM.mono (h : LeC F G) {ops : Array Oper} {l : List Oper} {s : St} {Q : St → Prop} (hs : RunM C F own ops l s Q) : RunM C G own ops l s Q := by
  induction hs with
  | nil hq => exact .nil hq
  | cons ho _ ih => exact .cons (ho.mono h) ih
  | range hg ho hm hx hb _ ih => exact .range hg ho hm hx hb ih
  | next hg ho hi hb hm hold hsl _ _ ihd ihm => exact .next hg ho hi hb hm hold hsl ihd ihm
  | entry hg ho hi hb hm hp hn _ ih => exact .entry hg ho hi hb hm hp hn ih
  | yield hg ho hc hf hy _ ih => exact .yield hg ho hc hf hy ih
theorem RunM.conseq {ops : Array Oper} {l : List Oper} {s : St} {Q Q' : St → Prop} (hs : RunM C F own ops l s Q) (hq : ∀ s1, Q s1 → Q' s1) : RunM C F own ops l s Q' := by
  induction hs with
  | nil h => exact .nil (hq _ h)
  | cons ho _ ih => exact .cons ho (ih hq)
  | range hg ho hm hx hb _ ih => exact .range hg ho hm hx hb (ih hq)
  | next hg ho hi hb hm hold hsl _ _ ihd ihm => exact .next hg ho hi hb hm hold hsl (fun h => ihd h hq) (fun p h1 h2 => ihm p h1 h2 hq)
  | entry hg ho hi hb hm hp hn _ ih => exact .entry hg ho hi hb hm hp hn (ih hq)
  | yield hg ho hc hf hy _ ih => exact .yield hg ho hc hf hy (ih hq)
theorem ExecM.mono (h : LeC F G) {m0 : Nat} {c : Code} {s : St} {Q : Out → Prop} (hx : ExecM C F own m0 c s Q) : ExecM C G own m0 c s Q := by
  induction hx with
  | one hx hq => exact .one (hx.mono h) hq
  | region hR => exact .region (hR.mono h)
  | seq _ _ hx hr ih ihn => exact .seq ih ihn hx hr
  | cond hc _ ih => exact .cond hc ih
  | block _ hq ih => exact .block ih hq
  | loop _ _ hx hr ih ihn => exact .loop ih ihn hx hr
  | scope _ ih => exact .scope ih

theorem ExecM.conseq {m0 : Nat} {c : Code} {s : St} {Q Q' : Out → Prop} (hx : ExecM C F own m0 c s Q) (hq : ∀ o, Q o → Q' o) : ExecM C F own m0 c s Q' := by
  induction hx with
  | one hx h => exact .one hx (hq _ h)
  | region hR => exact .region (hR.conseq fun s1 h => hq _ h)
  | seq h _ hx hr ih ihn => exact .seq h (fun s1 h1 => ihn s1 h1 hq) (fun id s1 h1 => hq _ (hx id s1 h1)) (fun s1 h1 => hq _ (hr s1 h1))
  | cond hc _ ih => exact .cond hc (ih hq)
  | block h hb ih => exact .block h (fun o ho => hq _ (hb o ho))
  | loop h _ hx hr ih ihn => exact .loop h (fun s1 h1 => ihn s1 h1 hq) (fun id s1 h1 => hq _ (hx id s1 h1)) (fun s1 h1 => hq _ (hr s1 h1))
  | scope _ ih => exact .scope (ih hq)

theorem callN_le {n m : Nat} (h : n ≤ m) : LeC (CallN C n) (CallN C m) := by
  induction h with
  | refl => exact fun _ _ _ _ _ h => h
  | step _ ih => exact fun _ _ _ _ _ h => .inl (ih _ _ _ _ _ h)

/-! Runs over all calls are runs over bounded calls. -/
theorem CallStep.bound {sto : List Blk} {g : FuncId} {args : List AVal} {r : AVal} {sto' : List Blk} (hs : CallStep (CallF C) sto g args r sto') : ∃ n, CallStep (CallN C n) sto g args r sto' := by
  cases hs with
  | pure xs args' hargs hno hle hc hr => obtain ⟨n, hc⟩ := hc; exact ⟨n, .pure xs args' hargs hno hle hc hr⟩
  | full hc => obtain ⟨n, hc⟩ := hc; exact ⟨n, .full hc⟩

theorem RunU.bound {ops : Array Oper} {l : List Oper} {s s1 : St} (hs : RunU C (CallF C) own ops l s s1) : ∃ n, RunU C (CallN C n) own ops l s s1 := by
  induction hs with
  | nil s => exact ⟨0, .nil s⟩
  | cons ho _ ih =>
    obtain ⟨n, ih⟩ := ih
    cases ho with
    | skip hg => exact ⟨n, .cons (.skip hg) ih⟩
    | den hg hd => exact ⟨n, .cons (.den hg hd) ih⟩
    | ext hg hd => exact ⟨n, .cons (.ext hg hd) ih⟩
    | call hg ho hc hf hcall =>
      obtain ⟨m, hcall⟩ := hcall.bound
      exact ⟨max n m, .cons (.call hg ho hc hf (hcall.mono (callN_le (Nat.le_max_right n m)))) (ih.mono (callN_le (Nat.le_max_left n m)))⟩

theorem OpDo.bound {ops : Array Oper} {id : Nat} {o : Oper} {tmps : List AVal} {sto : List Blk} {v : AVal} {ws : List (Nat × Blk)} (hs : OpDo C (CallF C) own ops id o tmps sto v ws) : ∃ n, OpDo C (CallN C n) own ops id o tmps sto v ws := by
  cases hs with
  | skip hg => exact ⟨0, .skip hg⟩
  | den hg hd => exact ⟨0, .den hg hd⟩
  | ext hg hd => exact ⟨0, .ext hg hd⟩
  | call hg ho hc hf xs args' hargs hno hle hcall hr => obtain ⟨m, hcall⟩ := hcall; exact ⟨m, .call hg ho hc hf xs args' hargs hno hle hcall hr⟩

theorem RunD.bound {ops : Array Oper} {base : Nat} {il : List (Nat × Lab)} {s s1 : St} (hs : RunD C (CallF C) own ops base il s s1) : ∃ n, RunD C (CallN C n) own ops base il s s1 := by
  induction hs with
  | nil s => exact ⟨0, .nil s⟩
  | cons ho hl _ ih =>
    obtain ⟨n, ih⟩ := ih
    cases hl with
    | mk hd hw hin hfl =>
      obtain ⟨m, hd⟩ := hd.bound
      exact ⟨max n m, .cons ho (.mk (hd.mono' (callN_le (Nat.le_max_right n m))) hw hin hfl) (ih.mono (callN_le (Nat.le_max_left n m)))⟩
    | fcall hg ho' hc hf hcall hl hw hin hle hr hb =>
      obtain ⟨m, hcall⟩ := hcall
      exact ⟨max n m, .cons ho (.fcall hg ho' hc hf (callN_le (Nat.le_max_right n m) _ _ _ _ _ hcall) hl hw hin hle hr hb) (ih.mono (callN_le (Nat.le_max_left n m)))⟩
    | tcall hg ho' hc hf hcall hl hle =>
      obtain ⟨m, hcall⟩ := hcall
      exact ⟨max n m, .cons ho (.tcall hg ho' hc hf (callN_le (Nat.le_max_right n m) _ _ _ _ _ hcall) hl hle) (ih.mono (callN_le (Nat.le_max_left n m)))⟩

theorem Exec.bound {m0 : Nat} {c : Code} {s : St} {o : Out} (hx : Exec C (CallF C) own m0 c s o) : ∃ n, Exec C (CallN C n) own m0 c s o := by
  induction hx with
  | skip s => exact ⟨0, .skip s⟩
  | label l s => exact ⟨0, .label l s⟩
  | exit id s => exact ⟨0, .exit id s⟩
  | ret s => exact ⟨0, .ret s⟩
  | region hR => obtain ⟨n, h⟩ := hR.bound; exact ⟨n, .region h⟩
  | regionD hR hi hok => obtain ⟨n, h⟩ := hR.bound; exact ⟨n, .regionD h hi hok⟩
  | seqN _ _ ih it =>
    obtain ⟨n, ih⟩ := ih
    obtain ⟨m, it⟩ := it
    exact ⟨max n m, .seqN (ih.mono (callN_le (Nat.le_max_left n m))) (it.mono (callN_le (Nat.le_max_right n m)))⟩
  | seqX _ ih => obtain ⟨n, ih⟩ := ih; exact ⟨n, .seqX ih⟩
  | seqR _ ih => obtain ⟨n, ih⟩ := ih; exact ⟨n, .seqR ih⟩
  | cond hc _ ih => obtain ⟨n, ih⟩ := ih; exact ⟨n, .cond hc ih⟩
  | blockN _ ih => obtain ⟨n, ih⟩ := ih; exact ⟨n, .blockN ih⟩
  | blockX _ ih => obtain ⟨n, ih⟩ := ih; exact ⟨n, .blockX ih⟩
  | blockY hne _ ih => obtain ⟨n, ih⟩ := ih; exact ⟨n, .blockY hne ih⟩
  | blockR _ ih => obtain ⟨n, ih⟩ := ih; exact ⟨n, .blockR ih⟩
  | loopN _ _ ih it =>
    obtain ⟨n, ih⟩ := ih
    obtain ⟨m, it⟩ := it
    exact ⟨max n m, .loopN (ih.mono (callN_le (Nat.le_max_left n m))) (it.mono (callN_le (Nat.le_max_right n m)))⟩
  | loopX _ ih => obtain ⟨n, ih⟩ := ih; exact ⟨n, .loopX ih⟩
  | loopR _ ih => obtain ⟨n, ih⟩ := ih; exact ⟨n, .loopR ih⟩
  | grow hw _ ih => obtain ⟨n, ih⟩ := ih; exact ⟨n, .grow hw ih⟩
  | weak hw _ ih => obtain ⟨n, ih⟩ := ih; exact ⟨n, .weak hw ih⟩
  | weakN _ hw ih => obtain ⟨n, ih⟩ := ih; exact ⟨n, .weakN ih hw⟩
  | giveN _ ht hn ih => obtain ⟨n, ih⟩ := ih; exact ⟨n, .giveN ih ht hn⟩
  | scope _ ih => obtain ⟨n, ih⟩ := ih; exact ⟨n, .scope ih⟩
end

/-! What has to be shown. -/
section
variable (C : Ctx) (own : Tmp → Bool) (m0 : Nat)

def VCall (g : FuncId) (args : List AVal) (sto : List Blk) (K : AVal → List Blk → Prop) : Prop := ∃ r sto', CallStep (CallF C) sto g args r sto' ∧ K r sto'

def VDen (id : Nat) (o : Oper) (s : St) (K : St → Prop) : Prop :=
  ∃ v ws, den C (s.eval C) s.sto id (o.dst.elim false own) o.op = some (v, ws) ∧ K ⟨put s.tmps o.dst v, wrs s.sto ws⟩

def VRun (id : Nat) (o : Oper) (s : St) (K : St → Prop) : Prop :=
  match o.op with
  | .call c => (match c.callee with
    | .value f => (match s.eval C f with
      | .func g first caps => VCall C g (first ++ c.args.toList.map (s.eval C) ++ caps) s.sto fun r sto' => K ⟨put s.tmps o.dst r, sto'⟩
      | _ => False)
    | _ => VDen C own id o s K)
  | _ => VDen C own id o s K

def VOp (ops : Array Oper) (o : Oper) (s : St) (K : St → Prop) : Prop :=
  match o.guard with
  | none => VRun C own s.sto.length o s K
  | some (j, want) => (match (ops[j]?).bind (·.dst) with
    | some d => (match s.tmps.getD d .dead with
      | .bool b => (b = want → VRun C own s.sto.length o s K) ∧ (¬ b = want → K ⟨put s.tmps o.dst .undef, s.sto⟩)
      | .undef => K ⟨put s.tmps o.dst .undef, s.sto⟩
      | _ => False)
    | none => False)

def VOps (ops : Array Oper) : List Oper → St → (St → Prop) → Prop
  | [], s, K => K s
  | o :: rest, s, K => VOp C own ops o s fun s1 => VOps ops rest s1 K

/-- An operation of a region whose order is open. -/
def VLab (ops : Array Oper) (id : Nat) (o : Oper) (s : St) (K : Lab → St → Prop) : Prop :=
  ∃ l s1, OpLab C (CallF C) own ops id o l s s1 ∧ K l s1

def VOpsD (ops : Array Oper) (base : Nat) : List Nat → List (Nat × Lab) → St → (List (Nat × Lab) → St → Prop) → Prop
  | [], acc, s, K => K acc s
  | i :: rest, acc, s, K => (match ops[i]? with
    | some o => VLab C own ops (idD ops base i o) o s fun l s1 => VOpsD ops base rest (acc ++ [(i, l)]) s1 K
    | none => False)

def Vx (c : Code) (s : St) (K : Out → Prop) : Prop := ∃ o, Exec C (CallF C) own m0 c s o ∧ K o

def andThen (K : Out → Prop) (N : St → Prop) : Out → Prop
  | .norm s => N s
  | o => K o
def atBlock (id : Nat) (K : Out → Prop) : Out → Prop
  | .exit id' s => if id' = id then K (.norm s) else K (.exit id' s)
  | o => K o

def Vc : Code → St → (Out → Prop) → Prop
  | .skip, s, K => K (.norm s)
  | .label _, s, K => K (.norm s)
  | .exit id, s, K => K (.exit id s)
  | .ret, s, K => K (.ret s)
  | .region _ ops false, s, K => VOps C own ops ops.toList s fun s1 => K (.norm s1)
  | .region _ ops true, s, K => VOpsD C own ops s.sto.length (List.range ops.size) [] (reserve ops s) fun il s1 => openOK ops il = true ∧ K (.norm s1)
  | .seq a b, s, K => Vc a s (andThen K fun s1 => Vc b s1 K)
  | .cond c a b, s, K => (match s.eval C c with
    | .bool t => (t = true → Vc a s K) ∧ (t = false → Vc b s K)
    | _ => False)
  | .block id b, s, K => Vc b s (atBlock id K)
  | c, s, K => Vx C own m0 c s K
end

section
variable {C : Ctx} {own : Tmp → Bool} {m0 : Nat}

theorem vden_sound {ops : Array Oper} {o : Oper} {s : St} {K : St → Prop} (hg : guardOf ops s.tmps o = .run) (h : VDen C own s.sto.length o s K) : ∃ s1, OpStep C (CallF C) own ops s.sto.length o s s1 ∧ K s1 := by
  obtain ⟨v, ws, h1, h2⟩ := h
  exact ⟨_, .den hg h1, h2⟩

theorem vrun_sound {ops : Array Oper} {o : Oper} {s : St} {K : St → Prop} (hg : guardOf ops s.tmps o = .run) (h : VRun C own s.sto.length o s K) : ∃ s1, OpStep C (CallF C) own ops s.sto.length o s s1 ∧ K s1 := by
  unfold VRun at h
  split at h
  · rename_i c ho
    split at h
    · rename_i f hc
      split at h
      · rename_i g first caps hf
        obtain ⟨r, sto', h1, h2⟩ := h
        exact ⟨_, .call hg ho hc hf h1, h2⟩
      · exact h.elim
    · exact vden_sound hg h
  · exact vden_sound hg h

theorem vop_sound {ops : Array Oper} {o : Oper} {s : St} {K : St → Prop} (h : VOp C own ops o s K) : ∃ s1, OpStep C (CallF C) own ops s.sto.length o s s1 ∧ K s1 := by
  unfold VOp at h
  split at h
  · rename_i hg
    exact vrun_sound (by simp [guardOf, hg]) h
  · rename_i j want hg
    split at h
    · rename_i d hd
      split at h
      · rename_i b hb
        by_cases e : b = want
        · exact vrun_sound (by simp only [guardOf, hg, hd, hb, e, if_true]) (h.1 e)
        · exact ⟨_, .skip (by simp only [guardOf, hg, hd, hb]; rw [if_neg e]), h.2 e⟩
      · rename_i hb
        exact ⟨_, .skip (by simp only [guardOf, hg, hd, hb]), h⟩
      · exact h.elim
    · exact h.elim

theorem vops_sound {ops : Array Oper} : ∀ (l : List Oper) {s : St} {K : St → Prop}, VOps C own ops l s K → ∃ s1, RunU C (CallF C) own ops l s s1 ∧ K s1 := by
  intro l
  induction l with
  | nil => intro s K h; exact ⟨s, .nil s, h⟩
  | cons o l ih =>
    intro s K h
    obtain ⟨s1, h1, h2⟩ := vop_sound h
    obtain ⟨s2, h3, h4⟩ := ih h2
    exact ⟨s2, .cons h1 h3, h4⟩

theorem vopsD_sound {ops : Array Oper} {base : Nat} : ∀ (l : List Nat) (acc : List (Nat × Lab)) {s : St} {K : List (Nat × Lab) → St → Prop}, VOpsD C own ops base l acc s K →
    ∃ il s1, RunD C (CallF C) own ops base il s s1 ∧ il.map (·.1) = l ∧ K (acc ++ il) s1 := by
  intro l
  induction l with
  | nil => intro acc s K h; exact ⟨[], s, .nil s, rfl, by rw [List.append_nil]; exact h⟩
  | cons i l ih =>
    intro acc s K h
    unfold VOpsD at h
    split at h
    · rename_i o ho
      obtain ⟨lb, s1, h1, h2⟩ := h
      obtain ⟨il, s2, h3, h4, h5⟩ := ih _ h2
      exact ⟨(i, lb) :: il, s2, .cons ho h1 h3, by simp [h4], by simpa using h5⟩
    · exact h.elim

theorem vc_sound : ∀ (c : Code) {s : St} {K : Out → Prop}, Vc C own m0 c s K → ∃ o, Exec C (CallF C) own m0 c s o ∧ K o := by
  intro c
  induction c with
  | skip => intro s K h; exact ⟨_, .skip s, h⟩
  | label l => intro s K h; exact ⟨_, .label l s, h⟩
  | exit id => intro s K h; exact ⟨_, .exit id s, h⟩
  | ret => intro s K h; exact ⟨_, .ret s, h⟩
  | region id ops b =>
    intro s K h
    cases b with
    | false => obtain ⟨s1, h1, h2⟩ := vops_sound _ h; exact ⟨_, .region h1, h2⟩
    | true =>
      obtain ⟨il, s1, h1, h2, h3, h4⟩ := vopsD_sound _ _ h
      exact ⟨_, .regionD h1 h2 (by simpa using h3), h4⟩
  | seq a b iha ihb =>
    intro s K h
    obtain ⟨o, h1, h2⟩ := iha h
    cases o with
    | norm s1 => obtain ⟨o, h3, h4⟩ := ihb h2; exact ⟨o, .seqN h1 h3, h4⟩
    | exit id s1 => exact ⟨_, .seqX h1, h2⟩
    | ret s1 => exact ⟨_, .seqR h1, h2⟩
  | cond x a b iha ihb =>
    intro s K h
    unfold Vc at h
    split at h
    · rename_i t ht
      cases t with
      | true => obtain ⟨o, h1, h2⟩ := iha (h.1 rfl); exact ⟨o, .cond ht (by simpa using h1), h2⟩
      | false => obtain ⟨o, h1, h2⟩ := ihb (h.2 rfl); exact ⟨o, .cond ht (by simpa using h1), h2⟩
    · exact h.elim
  | block id b ih =>
    intro s K h
    obtain ⟨o, h1, h2⟩ := ih h
    cases o with
    | norm s1 => exact ⟨_, .blockN h1, h2⟩
    | ret s1 => exact ⟨_, .blockR h1, h2⟩
    | exit id' s1 =>
      simp only [atBlock] at h2
      split at h2
      · rename_i e; subst e; exact ⟨_, .blockX h1, h2⟩
      · rename_i e; exact ⟨_, .blockY e h1, h2⟩
  | _ => intro s K h; exact h

theorem vx_of_vc {c : Code} {s : St} {K : Out → Prop} (h : Vc C own m0 c s K) : Vx C own m0 c s K := vc_sound c h

/-- A loop, by an invariant that tells each state. -/
theorem vloop {b : Code} {K : Out → Prop} {α : Type} (S : α → St) (I : α → Prop) (μ : α → Nat) (x : α) (h0 : I x)
    (round : ∀ x, I x → Vc C own m0 b (S x) (andThen K fun s1 => ∃ y, I y ∧ μ y < μ x ∧ s1 = S y)) : Vc C own m0 (.loop b) (S x) K := by
  show Vx C own m0 (.loop b) (S x) K
  have key : ∀ n x, μ x = n → I x → Vx C own m0 (.loop b) (S x) K := by
    intro n
    induction n using Nat.strongRecOn with
    | _ n ih =>
      intro x hn hI
      obtain ⟨o, h1, h2⟩ := vc_sound b (round x hI)
      cases o with
      | norm s1 =>
        obtain ⟨y, hy, hlt, rfl⟩ := h2
        obtain ⟨o, h3, h4⟩ := ih (μ y) (hn ▸ hlt) y rfl hy
        exact ⟨o, .loopN h1 h3, h4⟩
      | exit id s1 => exact ⟨_, .loopX h1, h2⟩
      | ret s1 => exact ⟨_, .loopR h1, h2⟩
  exact key _ x rfl h0

/-- Less is kept. -/
theorem vweak {c : Code} {s s1 : St} {K : Out → Prop} (hw : Weak m0 s s1) (h : Vc C own m0 c s1 K) : Vx C own m0 c s K := by
  obtain ⟨o, h1, h2⟩ := vc_sound c h
  exact ⟨o, .weak hw h1, h2⟩

theorem vgrow {c : Code} {s s1 : St} {K : Out → Prop} (hw : Grow s s1) (h : Vc C own m0 c s1 K) : Vx C own m0 c s K := by
  obtain ⟨o, h1, h2⟩ := vc_sound c h
  exact ⟨o, .grow hw h1, h2⟩

/-- What a function hands back at its end. -/
def Back (C : Ctx) (fn : Func) (r : AVal) : Out → Prop
  | .norm s => ∃ r0, resA C.P s fn.results.toList = some r0 ∧ ((r = r0 ∧ s.sto = []) ∨ (noref (view s.sto 4 r0) = true ∧ PLe (view s.sto 4 r0) r ∧ noref r = true))
  | .ret s => ∃ r0, resA C.P s fn.results.toList = some r0 ∧ ((r = r0 ∧ s.sto = []) ∨ (noref (view s.sto 4 r0) = true ∧ PLe (view s.sto 4 r0) r ∧ noref r = true))
  | .exit _ _ => False

theorem callF_of_vc {f : FuncId} {fn : Func} {c : Code} {args : List AVal} {r : AVal} (own : Tmp → Bool) (hf : C.P.funcs[f]? = some fn) (hb : fn.body = some c) (hn : fn.name ≠ "runtime.NumGoroutine")
    (h : Vx C own 0 c (entry fn.ntmps args []) (Back C fn r)) : CallF C f args [] r [] := by
  obtain ⟨o, h1, h2⟩ := h
  obtain ⟨n, h1⟩ := h1.bound
  refine ⟨n + 1, .inr (.inl ?_)⟩
  cases o with
  | exit id s => exact h2.elim
  | norm s =>
    obtain ⟨r0, h3, h4⟩ := h2
    refine ⟨fn, c, own, .norm s, s, s, r0, hf, hb, hn, h1, .inl rfl, .inl rfl, h3, ?_⟩
    rcases h4 with ⟨h5, h6⟩ | h5
    · exact .inl ⟨h5, h6.symm⟩
    · exact .inr ⟨rfl, rfl, h5⟩
  | ret s =>
    obtain ⟨r0, h3, h4⟩ := h2
    refine ⟨fn, c, own, .ret s, s, s, r0, hf, hb, hn, h1, .inr rfl, .inl rfl, h3, ?_⟩
    rcases h4 with ⟨h5, h6⟩ | h5
    · exact .inl ⟨h5, h6.symm⟩
    · exact .inr ⟨rfl, rfl, h5⟩

/-- A call of what is known. -/
theorem vcall {g : FuncId} {args : List AVal} {sto : List Blk} {K : AVal → List Blk → Prop} {r : AVal} (xs args' : List AVal) (hargs : args.map (view sto 4) = xs) (hno : norefL xs = true) (hle : PLeL xs args') (h : CallF C g args' [] r []) (hr : noref r = true)
    (hk : K r (if memless r = true then sto else gones sto ((args.map (refsOf sto 4)).flatten))) : VCall C g args sto K :=
  ⟨r, _, .pure xs args' hargs hno hle h hr, hk⟩

end
end Go.Proofs.YtaajfbcopafkaaaGreatDoor.Ai

namespace Go.Proofs.YtaajfbcopafkaaaGreatDoor.Ai
open Go
set_option linter.unusedVariables false

/-- A temporary: a value, or a value that is there only if something holds (else the operation was left out). -/
inductive SV where
  | v (x : AVal)
  | g (b : Bool) (x : AVal)
def SV.den : SV → AVal
  | .v x => x
  | .g b x => bif b then x else .undef

/-- The buffer that holds some rows: none is made as long as there are none. -/
def mkBuf (t sz : Nat) (rows : List (List AVal)) : Blk := if rows = [] then .nbuf t sz else .buf t sz rows none

inductive SB where
  | cells (t : TypeId) (cs : List AVal)
  | buf (t : TypeId) (sz : Nat) (rows : List (List AVal)) (cap : Option Nat)
  | mk (t : TypeId) (sz : Nat) (rows : List (List AVal))
  | iter (s : List UInt8) (pos : Nat)
  | map (es : List (AVal × AVal × Nat)) (clock : Nat)
  | arr (t : TypeId) (sz : Nat) (rows : List (List AVal))
  | gone
/-- What a map holds in a symbolic run: no references. -/
def hush (x : AVal) : AVal := if noref x = true then x else .undef
def hushE (es : List (AVal × AVal × Nat)) : List (AVal × AVal × Nat) := es.map fun p => (hush p.1, hush p.2.1, p.2.2)
def SB.den : SB → Blk
  | .cells t cs => .cells t cs
  | .buf t sz rows cap => .buf t sz rows cap
  | .mk t sz rows => mkBuf t sz rows
  | .iter s pos => .iter s pos
  | .map es clock => .map (hushE es) clock
  | .arr t sz rows => .arr t sz rows
  | .gone => .gone

/-- What the operations ask of a type. -/
structure TyI where
  agg : Bool
  size : Nat
  bytes : Nat
  str : Bool
  bool : Bool
  func : Bool
  intk : Option IntKind
  elem : Option Nat
  arr : Option (Nat × Nat)
  zero : List AVal
  parts : Option (List (Nat × Nat))
  flds : List (Nat × Nat)
  leaves : Option (List LK)

structure TyOK (P : Program) (t : TypeId) (i : TyI) : Prop where
  lay : lay P t = some (i.agg, i.size)
  size : szOf P t = i.size
  bytes : byOf P t = i.bytes
  str : strT P t = i.str
  bool : boolT P t = i.bool
  func : funcT P t = i.func
  intk : intT P t = i.intk
  elem : elemT P t = i.elem
  arr : arrT P t = i.arr
  ok : okT P t = true
  zok : zokT P t = true
  zero : zeroT P t = some i.zero
  parts : structT P t = i.parts
  flds : ∀ n x, i.flds[n]? = some x → fieldT P t n = some x
  leaves : ∀ l, i.leaves = some l → leavesT P 8 t = some l

def lvOK (P : Program) (t : TypeId) : Option (List LK) → Prop
  | none => True
  | some l => leavesT P 8 t = some l
theorem tyOf {P : Program} {t : TypeId} {i : TyI} (h1 : lay P t = some (i.agg, i.size) := by kernel_rfl) (h2 : szOf P t = i.size := by kernel_rfl) (h3 : byOf P t = i.bytes := by kernel_rfl) (h4 : strT P t = i.str := by kernel_rfl)
    (h5 : boolT P t = i.bool := by kernel_rfl) (h6 : funcT P t = i.func := by kernel_rfl) (h7 : intT P t = i.intk := by kernel_rfl) (h8 : elemT P t = i.elem := by kernel_rfl) (h9 : arrT P t = i.arr := by kernel_rfl)
    (h10 : okT P t = true := by kernel_rfl) (h11 : zokT P t = true := by kernel_rfl) (h12 : zeroT P t = some i.zero := by kernel_rfl) (h13 : structT P t = i.parts := by kernel_rfl)
    (hf : ((List.range i.flds.length).all fun n => decide (fieldT P t n = i.flds[n]?)) = true := by kernel_rfl) (hl : lvOK P t i.leaves := by exact trivial) : TyOK P t i :=
  ⟨h1, h2, h3, h4, h5, h6, h7, h8, h9, h10, h11, h12, h13, fun n x h => by
    have h0 := List.all_eq_true.1 hf n (List.mem_range.2 (List.getElem?_eq_some_iff.1 h).1)
    rw [of_decide_eq_true h0, h], fun l h => by rw [h] at hl; exact hl⟩

/-- A seat: what is fixed, and the table of its types. -/
structure Sx where
  C : Ctx
  TI : Nat → Option TyI
  ok : ∀ t i, TI t = some i → TyOK C.P t i

/-! Heads: here the reduction stands still, and a rule goes on. -/
def When : Option Bool → Prop
  | none => True
  | some b => b = true
def Ob : Option Bool → Prop → Prop
  | none, p => p
  | some b, p => b = true → p
@[irreducible] def Run (p : Prop) : Prop := p
@[irreducible] def HOb (rc : Option Bool) (p K : Prop) : Prop := Ob rc p ∧ K
@[irreducible] def HSplit (b : Bool) (p q : Prop) : Prop := (b = true → p) ∧ (b = false → q)
@[irreducible] def HPick (rc : Option Bool) (t : Bool) (x y : SV) (K : AVal → Prop) : Prop := ∃ v, Ob rc ((bif t then x.den else y.den) = v) ∧ K v
@[irreducible] def HWrap (rc : Option Bool) (k : IntKind) (e : Int) (K : Int → Prop) : Prop := ∃ n, Ob rc (k.wrap e = n) ∧ K n
@[irreducible] def HQuo (rc : Option Bool) (k : IntKind) (a b : Int) (K : Int → Prop) : Prop := ∃ n, Ob rc (b ≠ 0 ∧ k.wrap (a.tdiv b) = n) ∧ K n
@[irreducible] def HRem (rc : Option Bool) (a b : Int) (K : Int → Prop) : Prop := ∃ n, Ob rc (b ≠ 0 ∧ a.tmod b = n) ∧ K n
@[irreducible] def HBits (rc : Option Bool) (op : BinOp) (k : IntKind) (a b : Int) (K : Int → Prop) : Prop := ∃ n, Ob rc (bitsA op k a b = n) ∧ K n
@[irreducible] def HShl (rc : Option Bool) (k : IntKind) (x y : Int) (K : Int → Prop) : Prop := ∃ n, Ob rc (0 ≤ y ∧ k.wrap (x * 2 ^ (min y.toNat k.bits)) = n) ∧ K n
@[irreducible] def HShr (rc : Option Bool) (k : IntKind) (x y : Int) (K : Int → Prop) : Prop := ∃ n, Ob rc (0 ≤ y ∧ x.fdiv (2 ^ (min y.toNat k.bits)) = n) ∧ K n
@[irreducible] def HNat (rc : Option Bool) (n : Int) (K : Nat → Prop) : Prop := ∃ m, Ob rc (0 ≤ n ∧ n.toNat = m) ∧ K m
@[irreducible] def HLen (rows : List (List AVal)) (K : Nat → Prop) : Prop := ∃ n, rows.length = n ∧ K n
@[irreducible] def HRow (rc : Option Bool) (rows : List (List AVal)) (i : Nat) (K : List AVal → Prop) : Prop := ∃ r, Ob rc (rows[i]? = some r) ∧ K r
@[irreducible] def HSetR (rows : List (List AVal)) (i : Nat) (r : List AVal) (K : List (List AVal) → Prop) : Prop := ∃ rows', rows.set i r = rows' ∧ K rows'
@[irreducible] def HCut (rows : List (List AVal)) (l h : Nat) (K : List (List AVal) → Prop) : Prop := ∃ rows', (rows.take h).drop l = rows' ∧ K rows'
@[irreducible] def HCutS (s : List UInt8) (l h : Nat) (K : List UInt8 → Prop) : Prop := ∃ u, (s.take h).drop l = u ∧ K u
@[irreducible] def HBytes (rc : Option Bool) (rows : List (List AVal)) (K : List UInt8 → Prop) : Prop := ∃ s, Ob rc (bytesOfRows rows = some s) ∧ K s
@[irreducible] def HRunes (rc : Option Bool) (rows : List (List AVal)) (K : List Int → Prop) : Prop := ∃ s, Ob rc (runesOfRows rows = some s) ∧ K s
/-- A call from values that hold no reference. -/
@[irreducible] def HCallP (X : Sx) (rc : Option Bool) (g : FuncId) (args : List AVal) (K : AVal → Prop) : Prop :=
  ∃ args' r, Ob rc (PLeL args args' ∧ CallF X.C g args' [] r [] ∧ noref r = true) ∧ K r
@[irreducible] def HRet (v r : AVal) : Prop := PLe v r ∧ noref r = true
/-- Cells that are read one behind the other; an element of an array that is told by its cells. -/
@[irreducible] def HRd (rc : Option Bool) (n : Nat) (cs : List AVal) (K : List AVal → Prop) : Prop := ∃ ds, Ob rc (n ≤ cs.length ∧ cs.take n = ds) ∧ K ds
@[irreducible] def HArr (cs : List AVal) (s i : Nat) (K : List AVal → Prop) : Prop := ∃ ds, cs.drop (i * s) = ds ∧ K ds
/-- What a map of a type has at a key. -/
def lookE (P : Program) (t : TypeId) (es : List (AVal × AVal × Nat)) (k : AVal) (ok : Bool) : Option AVal :=
  match mapT P t with
  | some (kt, e) =>
    if keyK P kt k = true then
      (findK P kt k es).bind fun r =>
        (match r with
        | some (_, v, _) => some (if ok = true then .tup [v, .bool true] else v)
        | none => (zeroV P e).map fun z => if ok = true then .tup [z, .bool false] else z)
    else none
  | none => none
def updE (P : Program) (t : TypeId) (es : List (AVal × AVal × Nat)) (clock : Nat) (k v : AVal) : Option (List (AVal × AVal × Nat) × Nat) :=
  match mapT P t with
  | some (kt, _) =>
    if keyK P kt k = true then
      (findK P kt k es).map fun r =>
        (match r with
        | some (i, _, n) => (es.set i (k, v, n), clock)
        | none => (es ++ [(k, v, clock)], clock + 1))
    else none
  | none => none
@[irreducible] def HMkM (X : Sx) (t : TypeId) (K : Prop) : Prop := (mapT X.C.P t).isSome = true ∧ K
@[irreducible] def HLookM (X : Sx) (t : TypeId) (es : List (AVal × AVal × Nat)) (k : AVal) (ok : Bool) (K : AVal → Prop) : Prop := ∃ v, lookE X.C.P t (hushE es) k ok = some v ∧ K v
@[irreducible] def HUpdM (X : Sx) (t : TypeId) (es : List (AVal × AVal × Nat)) (clock : Nat) (k v : AVal) (K : List (AVal × AVal × Nat) → Nat → Prop) : Prop :=
  ∃ es' clock', updE X.C.P t (hushE es) clock k v = some (hushE es', clock') ∧ K es' clock'
/-- A slice of pointers: its literal, its length, its parts. -/
@[irreducible] def HPtrs (X : Sx) (t : TypeId) (len : Nat) (ps : List (Nat × AVal)) (K : TypeId → Nat → List (List AVal) → Prop) : Prop :=
  ∃ e sz rows, (elemT X.C.P t = some e ∧ sz = szOf X.C.P e ∧ 0 < sz ∧ len * sz ≤ 16777216 ∧ ∀ m, rowsA X.C.P m e len ps = some rows ∧ rows.all (fun r => r.all (solid m)) = true) ∧ K e sz rows
@[irreducible] def HALen (X : Sx) (ts : List TypeId) (K : Prop) : Prop := (∃ t, ts = [t] ∧ (elemT X.C.P t).isSome = true) ∧ K
@[irreducible] def HAIdx (X : Sx) (t : TypeId) (sz len : Nat) (k : Int) (K : Nat → Prop) : Prop := ∃ (e : TypeId) (m : Nat), (elemT X.C.P t = some e ∧ sz = szOf X.C.P e ∧ k = (m : Int) ∧ m < len) ∧ K m
def isPtr : AVal → Bool
  | .ptr _ _ => true
  | _ => false
/-- What is kept at a loop's head, or where ways meet. -/
@[irreducible] def HKeep (p : Prop) : Prop := p

/-- A list's element. -/
def nth {α : Type} [Inhabited α] (l : List α) (i : Nat) : α := l.getD i default

/-- What is true anyway. -/
@[irreducible] def HFact (p K : Prop) : Prop := p → K

/-! Lists, with what goes on behind. -/
def getK {α : Type} (d : α) : List α → Nat → (α → Prop) → Prop
  | [], _, K => K d
  | x :: _, 0, K => K x
  | _ :: xs, i + 1, K => getK d xs i K
def setK {α : Type} : List α → Nat → α → (List α → Prop) → Prop
  | [], _, _, K => K []
  | _ :: xs, 0, v, K => K (v :: xs)
  | x :: xs, i + 1, v, K => setK xs i v fun r => K (x :: r)
def appK {α : Type} : List α → List α → (List α → Prop) → Prop
  | [], ys, K => K ys
  | x :: xs, ys, K => appK xs ys fun r => K (x :: r)
def dropK {α : Type} : Nat → List α → (List α → Prop) → Prop
  | 0, xs, K => K xs
  | _ + 1, [], K => K []
  | n + 1, _ :: xs, K => dropK n xs K
/-- The first so many, if there are so many. -/
def takeK {α : Type} : Nat → List α → (List α → Prop) → Prop
  | 0, _, K => K []
  | _ + 1, [], _ => False
  | n + 1, x :: xs, K => takeK n xs fun r => K (x :: r)
def forceK {α : Type} : List α → (List α → Prop) → Prop
  | [], K => K []
  | x :: xs, K => forceK xs fun r => K (x :: r)
/-- Written over a list, from a place on. -/
def overK : List AVal → Nat → List AVal → (List AVal → Prop) → Prop
  | cs, 0, vs, K => (match vs with
    | [] => K cs
    | v :: vs => (match cs with
      | [] => False
      | _ :: cs => overK cs 0 vs fun r => K (v :: r)))
  | [], _ + 1, _, _ => False
  | c :: cs, n + 1, vs, K => overK cs n vs fun r => K (c :: r)
def succK (n : Nat) (K : Nat → Prop) : Prop :=
  match n with
  | 0 => K 1
  | 1 => K 2
  | 2 => K 3
  | 3 => K 4
  | 4 => K 5
  | 5 => K 6
  | 6 => K 7
  | 7 => K 8
  | 8 => K 9
  | 9 => K 10
  | 10 => K 11
  | 11 => K 12
  | 12 => K 13
  | 13 => K 14
  | 14 => K 15
  | 15 => K 16
  | 16 => K 17
  | 17 => K 18
  | 18 => K 19
  | 19 => K 20
  | 20 => K 21
  | 21 => K 22
  | 22 => K 23
  | 23 => K 24
  | 24 => K 25
  | 25 => K 26
  | 26 => K 27
  | 27 => K 28
  | 28 => K 29
  | 29 => K 30
  | n => K (n + 1)
def addK (a : Nat) : Nat → (Nat → Prop) → Prop
  | 0, K => K a
  | n + 1, K => succK a fun a' => addK a' n K
def lenK {α : Type} : List α → (Nat → Prop) → Prop
  | [], K => K 0
  | _ :: xs, K => lenK xs fun n => succK n K
def natK : Nat → (Nat → Prop) → Prop
  | 0, K => K 0
  | n + 1, K => natK n fun m => succK m K

def natsK : List Nat → (List Nat → Prop) → Prop
  | [], K => K []
  | x :: xs, K => natK x fun n => natsK xs fun r => K (n :: r)

/-! Operands. -/
def constK (v : Value) (K : AVal → Prop) : Prop :=
  match v with
  | .int k n => K (.int k n)
  | .bool b => K (.bool b)
  | .string s => forceK s.data.toList fun l => K (.str l)
  | .pointer none => K .nilptr
  | .slice none 0 0 => K (.slc 0 [] (some 0))
  | .nilFunc => K .nilfunc
  | .nilIface => K .nilif
  | .map none => K .nilmap
  | v => K (ofVal v)

def opdK (X : Sx) (rc : Option Bool) (tm : List SV) (x : Operand) (K : AVal → Prop) : Prop :=
  match x with
  | .tmp t => getK (.v .dead) tm t fun sv => (match sv with
    | .v x => K x
    | .g b x => HOb rc (b = true) (K x))
  | .const v => constK v K
  | .func f => K (.func f [] [])
  | .global g => K (X.C.glob g)
def svK (X : Sx) (tm : List SV) (x : Operand) (K : SV → Prop) : Prop :=
  match x with
  | .tmp t => getK (.v .dead) tm t K
  | .const v => constK v fun x => K (.v x)
  | .func f => K (.v (.func f [] []))
  | .global g => K (.v (X.C.glob g))
def opdsK (X : Sx) (rc : Option Bool) (tm : List SV) : List Operand → (List AVal → Prop) → Prop
  | [], K => K []
  | x :: xs, K => opdK X rc tm x fun v => opdsK X rc tm xs fun vs => K (v :: vs)
def optK (X : Sx) (rc : Option Bool) (tm : List SV) (x : Option Operand) (K : Option AVal → Prop) : Prop :=
  match x with
  | none => K none
  | some x => opdK X rc tm x fun v => K (some v)
def partsK (X : Sx) (rc : Option Bool) (tm : List SV) : List (Nat × Operand) → (List (Nat × AVal) → Prop) → Prop
  | [], K => K []
  | (f, x) :: xs, K => opdK X rc tm x fun v => partsK X rc tm xs fun vs => K ((f, v) :: vs)

/-! Values. -/
def cellsK (x : AVal) (K : List AVal → Prop) : Prop :=
  match x with
  | .agg cs => K cs
  | x => K [x]
def mkVK (agg : Bool) (cs : List AVal) (K : AVal → Prop) : Prop :=
  match agg with
  | true => K (.agg cs)
  | false => (match cs with
    | [x] => K x
    | _ => False)
def ifK (b : Bool) (K : Prop) : Prop := match b with | true => K | false => False
def layK (X : Sx) (t : TypeId) (K : Bool → Nat → Prop) : Prop := match X.TI t with | some i => (match i with | .mk a n _ _ _ _ _ _ _ _ _ _ _ => K a n) | none => False
def cellN (a : Bool) (n : Nat) : Nat := match a with | true => n | false => 1
def szK (X : Sx) (t : TypeId) (K : Nat → Prop) : Prop := layK X t fun _ n => K n
/-- The elements of a slice type: their type and size. -/
def elemK (X : Sx) (t : TypeId) (K : TypeId → Nat → Prop) : Prop :=
  match X.TI t with
  | some i => (match i.elem with
    | some e => (match X.TI e with
      | some j => (match j with | .mk _ n _ _ _ _ _ _ _ _ _ _ _ => K e n)
      | none => False)
    | none => False)
  | none => False
def zeroK (X : Sx) (t : TypeId) (K : List AVal → Prop) : Prop := match X.TI t with | some i => forceK i.zero K | none => False

def binIntK (rc : Option Bool) (op : BinOp) (k : IntKind) (a b : Int) (K : AVal → Prop) : Prop :=
  match op with
  | .add => HWrap rc k (a + b) fun n => K (.int k n)
  | .sub => HWrap rc k (a - b) fun n => K (.int k n)
  | .mul => HWrap rc k (a * b) fun n => K (.int k n)
  | .quo => HQuo rc k a b fun n => K (.int k n)
  | .rem => HRem rc a b fun n => K (.int k n)
  | .and => HBits rc .and k a b fun n => K (.int k n)
  | .or => HBits rc .or k a b fun n => K (.int k n)
  | .xor => HBits rc .xor k a b fun n => K (.int k n)
  | .andNot => HBits rc .andNot k a b fun n => K (.int k n)
  | .eql => K (.bool (decide (a = b)))
  | .neq => K (.bool (!decide (a = b)))
  | .lss => K (.bool (decide (a < b)))
  | .leq => K (.bool (decide (a ≤ b)))
  | .gtr => K (.bool (decide (b < a)))
  | .geq => K (.bool (decide (b ≤ a)))
  | _ => False
def kEq (k k' : IntKind) : Bool := Nat.beq k.ctorIdx k'.ctorIdx
def binStrK (rc : Option Bool) (op : BinOp) (a b : List UInt8) (K : AVal → Prop) : Prop :=
  match op with
  | .add => HOb rc (a.length + b.length ≤ 9223372036854775807) (K (.str (a ++ b)))
  | .eql => K (.bool (decide (a = b)))
  | .neq => K (.bool (!decide (a = b)))
  | .lss => K (.bool (Op.bytesLess a b))
  | .leq => K (.bool (Op.bytesLess a b || decide (a = b)))
  | .gtr => K (.bool (!(Op.bytesLess a b || decide (a = b))))
  | .geq => K (.bool (!(Op.bytesLess a b)))
  | _ => False
/-- '==' cell by cell. -/
def eqLK : List LK → List AVal → List AVal → (Bool → Prop) → Prop
  | [], [], [], K => K true
  | k :: ks, x :: xs, y :: ys, K =>
    (match k with
    | .i => (match x with
      | .int p a => (match y with
        | .int q b => ifK (kEq p q) (eqLK ks xs ys fun r => K (decide (a = b) && r))
        | _ => False)
      | _ => False)
    | .b => (match x with
      | .bool a => (match y with
        | .bool b => eqLK ks xs ys fun r => K (decide (a = b) && r)
        | _ => False)
      | _ => False)
    | .s => (match x with
      | .str a => (match y with
        | .str b => eqLK ks xs ys fun r => K (decide (a = b) && r)
        | _ => False)
      | _ => False))
  | _, _, _, _ => False
def eqK (X : Sx) (t : TypeId) (x y : AVal) (K : Bool → Prop) : Prop :=
  match x with
  | .bool a => (match y with
    | .bool b => (match X.TI t with
      | some i => ifK i.bool (K (decide (a = b)))
      | none => False)
    | _ => False)
  | .agg cs => (match y with
    | .agg ds => (match X.TI t with
      | some i => ifK i.agg (match i.leaves with
        | some ks => eqLK ks cs ds K
        | none => False)
      | none => False)
    | _ => False)
  | .func _ _ _ => (match y with
    | .nilfunc => (match X.TI t with
      | some i => ifK i.func (K false)
      | none => False)
    | _ => False)
  | .nilfunc => (match y with
    | .nilfunc => (match X.TI t with
      | some i => ifK i.func (K true)
      | none => False)
    | _ => False)
  | _ => False
def binK (X : Sx) (rc : Option Bool) (op : BinOp) (t : TypeId) (x y : AVal) (K : AVal → Prop) : Prop :=
  match x with
  | .int k a => (match y with
    | .int k' b => (match op with
      | .shl => HShl rc k a b fun n => K (.int k n)
      | .shr => HShr rc k a b fun n => K (.int k n)
      | op => ifK (kEq k k') (binIntK rc op k a b K))
    | _ => False)
  | .str a => (match y with
    | .str b => binStrK rc op a b K
    | _ => False)
  | x => (match op with
    | .eql => eqK X t x y fun r => K (.bool r)
    | .neq => eqK X t x y fun r => K (.bool (!r))
    | _ => False)
def unK (rc : Option Bool) (op : UnOp) (x : AVal) (K : AVal → Prop) : Prop :=
  match op with
  | .neg => (match x with
    | .int k n => HWrap rc k (0 - n) fun n => K (.int k n)
    | _ => False)
  | .xor => (match x with
    | .int k n => HBits rc .xor k (if k.signed then -1 else k.max) n fun n => K (.int k n)
    | _ => False)
  | .not => (match x with
    | .bool b => K (.bool (!b))
    | _ => False)
  | _ => False

/-! Memory. -/
def curSB : SB → Option Nat
  | .buf _ _ rows _ => some rows.length
  | .mk _ _ rows => some rows.length
  | .arr _ _ rows => some rows.length
  | _ => none
/-- The rows of a slice, read through the store. -/
def rowsK (rc : Option Bool) (sto : List SB) (x : AVal) (K : Nat → List (List AVal) → Prop) : Prop :=
  match x with
  | .slc sz rows _ => K sz rows
  | .bsl b n => getK .gone sto b fun B => (match B with
    | .buf _ sz rows _ => HOb rc (rows.length = n) (K sz rows)
    | .mk _ sz rows => HOb rc (rows.length = n) (K sz rows)
    | _ => False)
  | _ => False
def rdK (rc : Option Bool) (sto : List SB) (p : AVal) (n : Nat) (K : List AVal → Prop) : Prop :=
  match p with
  | .ptr b off => getK .gone sto b fun B => (match B with
    | .cells _ cs => dropK off cs fun ds => takeK n ds K
    | _ => False)
  | .rptr cs => HRd rc n cs K
  | .eptr b m i j => getK .gone sto b fun B => (match B with
    | .buf _ _ rows _ => HOb rc (rows.length = m) (HRow rc rows i fun r => dropK j r fun ds => takeK n ds K)
    | .mk _ _ rows => HOb rc (rows.length = m) (HRow rc rows i fun r => dropK j r fun ds => takeK n ds K)
    | .arr _ _ rows => HOb rc (rows.length = m) (HRow rc rows i fun r => dropK j r fun ds => takeK n ds K)
    | _ => False)
  | _ => False
def solidK (sto : List SB) (x : AVal) (K : Prop) : Prop :=
  match x with
  | .agg _ => False
  | .tup _ => False
  | .undef => False
  | .dead => False
  | .yld _ _ _ _ => False
  | .bsl b n => getK .gone sto b fun B => (match curSB B with
    | some m => HOb none (m = n) K
    | none => False)
  | .eptr b n _ _ => getK .gone sto b fun B => (match curSB B with
    | some m => HOb none (m = n) K
    | none => False)
  | .sub b n _ _ _ => getK .gone sto b fun B => (match curSB B with
    | some m => HOb none (m = n) K
    | none => False)
  | _ => K
def solidsK (sto : List SB) : List AVal → Prop → Prop
  | [], K => K
  | x :: xs, K => solidK sto x (solidsK sto xs K)
def wrK (sto : List SB) (p : AVal) (vs : List AVal) (K : Nat → SB → Prop) : Prop :=
  match p with
  | .ptr b off => getK .gone sto b fun B => (match B with
    | .cells t cs => overK cs off vs fun ds => K b (.cells t ds)
    | _ => False)
  | .eptr b m i j => ifK (vs.all fun x => cellish x && noref x) (getK .gone sto b fun B => (match B with
    | .buf t sz rows cap => HOb none (rows.length = m) (HRow none rows i fun r => overK r j vs fun r' => HSetR rows i r' fun rows' => K b (.buf t sz rows' cap))
    | .mk t sz rows => HOb none (rows.length = m) (HRow none rows i fun r => overK r j vs fun r' => HSetR rows i r' fun rows' => K b (.mk t sz rows'))
    | _ => False))
  | _ => False
def ptrAddK (rc : Option Bool) (sto : List SB) (p : AVal) (off : Nat) (K : AVal → Prop) : Prop :=
  match p with
  | .ptr b o => addK o off fun m => K (.ptr b m)
  | .eptr b n i j => getK .gone sto b fun B => (match curSB B with
    | some m => HOb rc (m = n) (addK j off fun j' => K (.eptr b n i j'))
    | none => False)
  | .rptr cs => dropK off cs fun ds => K (.rptr ds)
  | _ => False

def cellsOKK (sto : List SB) (x : AVal) (K : Prop) : Prop :=
  match x with
  | .dead => False
  | .bsl b n => getK .gone sto b fun B => (match curSB B with
    | some m => HOb none (m = n) K
    | none => False)
  | .eptr b n _ _ => getK .gone sto b fun B => (match curSB B with
    | some m => HOb none (m = n) K
    | none => False)
  | .sub b n _ _ _ => getK .gone sto b fun B => (match curSB B with
    | some m => HOb none (m = n) K
    | none => False)
  | _ => K
/-- Where a part of a struct or an array lies, and how many cells it has. -/
def partK (X : Sx) (t : TypeId) (f : Nat) (K : Nat → Nat → Prop) : Prop :=
  match X.TI t with
  | some i => (match i.parts with
    | some pl => (match pl[f]? with
      | some (off, n) => K off n
      | none => False)
    | none => (match i.arr with
      | some (_, e) => layK X e fun _ n => natK (f * n) fun off => K off n
      | none => False))
  | none => False
def lenIs {α : Type} : List α → Nat → Bool
  | [], 0 => true
  | _ :: xs, n + 1 => lenIs xs n
  | _, _ => false
def goBK (X : Sx) (sto : List SB) (t : TypeId) : List AVal → List (Nat × AVal) → (List AVal → Prop) → Prop
  | cs, [], K => K cs
  | cs, (f, v) :: rest, K => partK X t f fun off n => cellsOKK sto v (cellsK v fun vs => ifK (lenIs vs n) (overK cs off vs fun ds => goBK X sto t ds rest K))
def bldK (X : Sx) (t : TypeId) (K : Prop) : Prop :=
  match X.TI t with
  | some i => (match i.parts with
    | some _ => K
    | none => (match i.arr with
      | some (_, e) => layK X e fun _ _ => K
      | none => False))
  | none => False
def goRK (X : Sx) (sto : List SB) (n : Nat) : List (List AVal) → List (Nat × AVal) → (List (List AVal) → Prop) → Prop
  | rows, [], K => K rows
  | rows, (i, v) :: rest, K => cellsOKK sto v (cellsK v fun vs => ifK (lenIs vs n) (ifK (Nat.blt i rows.length) (setK rows i vs fun rows' => goRK X sto n rows' rest K)))
def repK {α : Type} (x : α) : Nat → (List α → Prop) → Prop
  | 0, K => K []
  | n + 1, K => repK x n fun r => K (x :: r)
def natOfK (rc : Option Bool) (x : AVal) (K : Nat → Prop) : Prop :=
  match x with
  | .int _ n => HNat rc n K
  | _ => False
def capLK (cap : Option Nat) (l : Nat) (K : Option Nat → Prop) : Prop := match cap with | some c => K (some (c - l)) | none => K none
/-- `x[lo:hi]`, `x[lo:hi:mx]`. -/
def cutK (rc : Option Bool) (sz : Nat) (rows : List (List AVal)) (capK : Nat → (Option Nat → Prop) → Prop) (lo hi mx : Option AVal) (K : AVal → Prop) : Prop :=
  loK fun l => hiK fun h => HOb rc (l ≤ h) (match mx with
    | none => HOb rc (h ≤ rows.length) (HCut rows l h fun rows' => capK l fun c => K (.slc sz rows' c))
    | some m => (match hi with
      | some _ => natOfK rc m fun m => HOb rc (h ≤ m) (HOb rc (m ≤ rows.length) (HCut rows l h fun rows' => K (.slc sz rows' (some (m - l)))))
      | none => False))
where
  loK (K : Nat → Prop) : Prop := match lo with | none => K 0 | some v => natOfK rc v K
  hiK (K : Nat → Prop) : Prop := match hi with | none => HLen rows K | some v => natOfK rc v K

def convK (X : Sx) (rc : Option Bool) (sto : List SB) (own : Bool) (src dst : TypeId) (x : AVal) (K : AVal → Prop) : Prop :=
  match X.TI src with
  | none => False
  | some si => (match X.TI dst with
    | none => False
    | some di => (match x with
      | .int _ n => (match di.intk with
        | some k => HWrap rc k n fun n => K (.int k n)
        | none => ifK di.str (K (.str (encRune n))))
      | .str s => (match di.str with
        | true => K (.str s)
        | false => (match own with
          | true => False
          | false => (match di.elem with
            | some e => (match X.TI e with
              | some ei => (match ei.intk with
                | some .u8 => HOb rc (s.length ≤ 9223372036854775807) (K (.slc 1 (s.map bytesRow) none))
                | some .i32 => HOb rc (s.length ≤ 9223372036854775807) (K (.slc 1 ((runesL s s.length 0).map runeRow) none))
                | _ => False)
              | none => False)
            | none => False)))
      | x => ifK di.str (match si.elem with
        | some e => (match X.TI e with
          | some ei => rowsK rc sto x fun sz rows => HOb rc (sz = 1 ∨ rows.length = 0) (match ei.intk with
            | some .u8 => HBytes rc rows fun s => K (.str s)
            | some .i32 => HRunes rc rows fun l => K (.str (l.map encRune).flatten)
            | _ => False)
          | none => False)
        | none => False)))

/-- A literal of bytes that came from a string: its buffer is given up. -/
def markK (X : Sx) (rc : Option Bool) (sto : List SB) (src : TypeId) (b n : Nat) (K : AVal → List (Nat × SB) → Prop) : Prop :=
  match X.TI src with
  | none => False
  | some si => (match si.elem with
    | none => False
    | some e => (match X.TI e with
      | none => False
      | some ei => (match ei.intk with
        | some .u8 => getK .gone sto b fun B => (match B with
          | .buf _ sz rows cap => HOb rc (rows.length = n) (K (.slc sz rows cap) [(b, .gone)])
          | _ => False)
        | _ => False)))
def maxLenN : Nat := 9223372036854775807
/-- What is appended. -/
def newK (X : Sx) (sto : List SB) (tx : TypeId) (x : AVal) (K : Nat → List (List AVal) → Prop) : Prop :=
  match X.TI tx with
  | none => False
  | some i => (match x with
    | .str s => ifK i.str (K 1 (s.map bytesRow))
    | x => (match i.elem with
      | some _ => rowsK none sto x K
      | none => False))
def appendK (X : Sx) (dr : Bool) (sto : List SB) (id : Nat) (t tx : TypeId) (s x : AVal) (K : AVal → List (Nat × SB) → Prop) : Prop :=
  elemK X t fun e n => newK X sto tx x fun sx new => HOb none (sx = n ∨ new.length = 0) (match s with
    | .bsl b m => getK .gone sto b fun B => (match B with
      | .buf te sz rows _ => ifK (Nat.beq te e) (ifK (Nat.beq sz n) (HOb none (rows.length = m) (roomK e rows new (HLen (rows ++ new) fun k => K (.bsl b k) [(b, .buf te sz (rows ++ new) none)]))))
      | .mk te sz rows => ifK (Nat.beq te e) (ifK (Nat.beq sz n) (HOb none (rows.length = m) (roomK e rows new (HLen (rows ++ new) fun k => drK dr new (K (.bsl b k) [(b, .mk te sz (rows ++ new))])))))
      | _ => False)
    | .slc sz rows (some c) => HOb none (sz = n ∨ rows.length = 0) (HOb none (c < rows.length + new.length) (HOb none (new ≠ []) (roomK e rows new (HLen (rows ++ new) fun k => K (.bsl id k) [(id, .mk e n (rows ++ new))]))))
    | _ => False)
where
  roomK (e : TypeId) (rows new : List (List AVal)) (K : Prop) : Prop :=
    (match X.TI e with
    | some i => (match i with | .mk _ n by' _ _ _ _ _ _ _ _ _ _ => ifK (Nat.blt 0 n) (HOb none ((rows.length + new.length) * by' ≤ 140737488355328 ∧ rows.length + new.length ≤ 9223372036854775807) K))
    | none => False)
  drK (dr : Bool) (new : List (List AVal)) (K : Prop) : Prop := match dr with | true => HOb none (new ≠ []) K | false => K
def lenSK (X : Sx) (rc : Option Bool) (sto : List SB) (t : TypeId) (x : AVal) (K : AVal → Prop) : Prop :=
  match X.TI t with
  | none => False
  | some i => (match x with
    | .str s => ifK i.str (K (.int .i64 s.length))
    | .slc _ rows _ => ifK i.elem.isSome (HLen rows fun n => K (.int .i64 n))
    | .agg _ => (match i.arr with
      | some (n, _) => K (.int .i64 n)
      | none => False)
    | .bsl b n => ifK i.elem.isSome (getK .gone sto b fun B => (match curSB B with
      | some m => HOb rc (m = n) (K (.int .i64 n))
      | none => False))
    | _ => False)
def capSK (X : Sx) (rc : Option Bool) (sto : List SB) (t : TypeId) (x : AVal) (K : AVal → Prop) : Prop :=
  match X.TI t with
  | none => False
  | some i => ifK i.elem.isSome (match x with
    | .slc _ _ (some c) => K (.int .i64 c)
    | .bsl b n => getK .gone sto b fun B => (match B with
      | .buf _ _ rows (some c) => HOb rc (rows.length = n) (K (.int .i64 c))
      | _ => False)
    | _ => False)
def makeK (X : Sx) (id : Nat) (t : TypeId) (l c : AVal) (K : AVal → List (Nat × SB) → Prop) : Prop :=
  elemK X t fun e n => natOfK none l fun l => natOfK none c fun c => (match X.TI e with
    | some i => (match i with | .mk _ _ by' _ _ _ _ _ _ z _ _ _ => ifK (Nat.blt 0 n) (HOb none (l ≤ c ∧ c ≤ 9223372036854775807 ∧ c * by' ≤ 140737488355328) (ifK (lenIs z n) (ifK (z.all fun x => cellish x && noref x)
        (K (.bsl id l) [(id, .buf e n (List.replicate l z) (some c))])))))
    | none => False)
def idxK (X : Sx) (rc : Option Bool) (sto : List SB) (t : TypeId) (x : AVal) (n : Int) (K : AVal → Prop) : Prop :=
  match x with
  | .slc sz rows _ => elemK X t fun _ m => ifK (Nat.beq sz m) (ifK (Nat.blt 0 sz) (HNat rc n fun i => HRow rc rows i fun r => K (.rptr r)))
  | .bsl b m => elemK X t fun _ k => getK .gone sto b fun B => (match B with
    | .buf _ sz rows _ => ifK (Nat.beq sz k) (HOb rc (rows.length = m) (HNat rc n fun i => HOb rc (i < m) (K (.eptr b m i 0))))
    | .mk _ sz rows => ifK (Nat.beq sz k) (HOb rc (rows.length = m) (HNat rc n fun i => HOb rc (i < m) (K (.eptr b m i 0))))
    | _ => False)
  | .rptr cs => (match X.TI t with
    | some i => (match i.arr with
      | some (k, e) => layK X e fun _ s => HNat rc n fun i => HOb rc (i < k) (HArr cs s i fun ds => K (.rptr ds))
      | none => False)
    | none => False)
  | x => (match X.TI t with
    | some i => (match i.arr with
      | some (k, e) => layK X e fun _ s => HNat rc n fun i => HOb rc (i < k) (natK (i * s) fun off => ptrAddK rc sto x off K)
      | none => False)
    | none => False)
def indexK (X : Sx) (rc : Option Bool) (t : TypeId) (x : AVal) (n : Int) (K : AVal → Prop) : Prop :=
  match X.TI t with
  | none => False
  | some ti => (match x with
    | .str s => ifK ti.str (HNat rc n fun i => HOb rc (i < s.length) (HFact ((nth s i).toNat < 256) (K (.int .u8 ((nth s i).toNat : Int)))))
    | .agg cs => (match ti.arr with
      | some (k, e) => layK X e fun a s => HNat rc n fun i => HOb rc (i < k) (natK (i * s) fun off => dropK off cs fun ds => takeK (cellN a s) ds fun es => mkVK a es K)
      | none => False)
    | _ => False)
def sliceK (X : Sx) (rc : Option Bool) (sto : List SB) (t : TypeId) (x : AVal) (lo hi mx : Option AVal) (K : AVal → List (Nat × SB) → Prop) : Prop :=
  match X.TI t with
  | none => False
  | some ti => (match x with
    | .str s => ifK ti.str (match mx with
      | some _ => False
      | none => loK fun l => hiK s fun h => HOb rc (l ≤ h ∧ h ≤ s.length) (HCutS s l h fun u => K (.str u) []))
    | .slc sz rows cap => elemK X t fun _ n => HOb rc (sz = n ∨ rows.length = 0) (cutK rc sz rows (capLK cap) lo hi mx fun v => K v [])
    | .bsl b n => elemK X t fun _ k => getK .gone sto b fun B => (match B with
      | .buf _ sz rows cap => ifK (Nat.beq sz k) (HOb rc (rows.length = n) (cutK rc sz rows (capLK cap) lo hi mx fun v => K v [(b, .gone)]))
      | .mk _ sz rows => ifK (Nat.beq sz k) (ifK (Nat.blt 0 sz) (HOb rc (rows.length = n) (cutK rc sz rows (fun l K => K ((if rows = [] then some 0 else none : Option Nat).map (· - l))) lo hi mx fun v => K v [(b, .gone)])))
      | _ => False)
    | .rptr cs => (match ti.arr with
      | some (n, e) => layK X e fun _ s => ifK (Nat.beq cs.length (n * s)) (ifK (Nat.blt 0 s) (ifK (Nat.ble n 16777216) (forceRowsK (chunks s n cs) fun rows => cutK rc s rows (capLK (some n)) lo hi mx fun v => K v [])))
      | none => False)
    | .ptr b off => getK .gone sto b fun B => (match B with
      | .cells _ cs => ifK (cs.all fun x => cellish x && noref x) (match ti.arr with
        | some (n, e) => layK X e fun _ s => dropK off cs fun ds => ifK (Nat.beq ds.length (n * s)) (ifK (Nat.blt 0 s) (ifK (Nat.ble n 16777216) (forceRowsK (chunks s n ds) fun rows => cutK rc s rows (capLK (some n)) lo hi mx fun v => K v [(b, .gone)])))
        | none => False)
      | _ => False)
    | _ => False)
where
  loK (K : Nat → Prop) : Prop := match lo with | none => K 0 | some v => natOfK rc v K
  hiK (s : List UInt8) (K : Nat → Prop) : Prop := match hi with | none => K s.length | some v => natOfK rc v K
  forceRowsK : List (List AVal) → (List (List AVal) → Prop) → Prop
    | [], K => K []
    | r :: rs, K => forceK r fun r' => forceRowsK rs fun rs' => K (r' :: rs')

/-! What the caller's references lead to. -/
def eachK {α β : Type} (f : α → (β → Prop) → Prop) : List α → (List β → Prop) → Prop
  | [], K => K []
  | x :: xs, K => f x fun y => eachK f xs fun ys => K (y :: ys)
def viewK (sto : List SB) : Nat → AVal → (AVal → Prop) → Prop
  | 0, _, _ => False
  | d + 1, x, K =>
    match x with
    | .bsl b n => getK .gone sto b fun B => (match B with
      | .buf _ sz rows cap => HOb none (rows.length = n) (K (.slc sz rows cap))
      | .mk _ sz rows => HOb none (rows.length = n) (K (.slc sz rows (if rows = [] then some 0 else none)))
      | _ => False)
    | .ptr b off => getK .gone sto b fun B => (match B with
      | .cells _ cs => eachK (viewK sto d) cs fun ds => ifK (ds.all fun x => cellish x && noref x) (dropK off ds fun es => K (.rptr es))
      | _ => False)
    | .eptr _ _ _ _ => False
    | .sub _ _ _ _ _ => False
    | .csl _ _ _ _ _ => False
    | .mapr _ => False
    | .yld _ _ _ _ => False
    | .dead => False
    | .agg cs => eachK (viewK sto d) cs fun ds => K (.agg ds)
    | .tup cs => eachK (viewK sto d) cs fun ds => K (.tup ds)
    | .func f first caps => eachK (viewK sto d) first fun a => eachK (viewK sto d) caps fun b => K (.func f a b)
    | .iface t v => viewK sto d v fun u => K (.iface t u)
    | x => K x
def goneK (sto : List SB) : List Nat → (List SB → Prop) → Prop
  | [], K => K sto
  | b :: bs, K => setK sto b .gone fun s => goneK s bs K
def refsSK (sto : List SB) (args : List AVal) : List Nat := (args.map (refsOf (sto.map SB.den) 4)).flatten
def wrsK : List SB → List (Nat × SB) → (List SB → Prop) → Prop
  | sto, [], K => K sto
  | sto, (b, B) :: rest, K => (match Nat.blt b sto.length with
    | true => setK sto b B fun s => wrsK s rest K
    | false => appK sto [B] fun s => wrsK s rest K)

/-! Operations. -/
def putK (tm : List SV) (d : Option Tmp) (x : SV) (K : List SV → Prop) : Prop :=
  match d with
  | none => K tm
  | some t => setK tm t x K

/-- A call from values: what is lent is taken back, or gone. -/
@[irreducible] def HCall (X : Sx) (sto : List SB) (g : FuncId) (args : List AVal) (K : AVal → List SB → Prop) : Prop :=
  ∃ r sto', CallStep (CallF X.C) (sto.map SB.den) g args r (sto'.map SB.den) ∧ K r sto'

/-- An operation that is no call of a function: its value and what it writes. `dr`: in a region whose order is open. -/
def denK (X : Sx) (own : Tmp → Bool) (dr : Bool) (rc : Option Bool) (id : Nat) (tm : List SV) (sto : List SB) (o : Oper) (K : AVal → List (Nat × SB) → Prop) : Prop :=
  match o.op with
  | .move x => opdK X rc tm x fun v => K v []
  | .assign x => opdK X rc tm x fun v => K v []
  | .pick c a b => opdK X rc tm c fun cv => (match cv with
    | .bool t => svK X tm a fun sa => svK X tm b fun sb => HPick rc t sa sb fun v => K v []
    | _ => False)
  | .alloc t => zeroK X t fun z => K (.ptr id 0) [(id, .cells t z)]
  | .box t x => opdK X none tm x fun v => cellsK v fun cs => solidsK sto cs (K (.ptr id 0) [(id, .cells t cs)])
  | .build t parts => partsK X rc tm parts.toList fun ps => bldK X t (zeroK X t fun z => goBK X sto t z ps fun cs => K (.agg cs) [])
  | .buildSlice t len parts => partsK X rc tm parts.toList fun ps => elemK X t fun e n => zeroK X e fun z => ifK (lenIs z n) (ifK (Nat.blt 0 n) (ifK (Nat.ble (len * n) 16777216)
      (repK z len fun rows0 => goRK X sto n rows0 ps fun rows => ifK (rows.all fun r => r.all cellish && norefL r) (match o.dst.elim false own with
        | true => K (.bsl id len) [(id, .buf e n rows (some len))]
        | false => K (.slc n rows (some len)) []))))
  | .load t a => opdK X rc tm a fun p => layK X t fun ag n => rdK rc sto p (cellN ag n) fun cs => mkVK ag cs fun v => K v []
  | .store t a x => opdK X none tm a fun p => opdK X none tm x fun v => layK X t fun _ n => cellsK v fun cs => ifK (lenIs cs n) (solidsK sto cs (wrK sto p cs fun b B => K .undef [(b, B)]))
  | .nilCheck x => opdK X rc tm x fun v => (match v with
    | .ptr b o => K (.ptr b o) []
    | .rptr cs => K (.rptr cs) []
    | .func f a b => K (.func f a b) []
    | _ => False)
  | .binOp op t x y _ => opdK X rc tm x fun a => opdK X rc tm y fun b => binK X rc op t a b fun v => K v []
  | .unOp op _ x => opdK X rc tm x fun a => unK rc op a fun v => K v []
  | .convert src dst x => opdK X rc tm x fun a => (match a with
    | .bsl b n => (match Nat.beq src dst with
      | true => markK X rc sto src b n K
      | false => convK X rc sto (o.dst.elim false own) src dst (.bsl b n) fun v => K v [])
    | a => convK X rc sto (o.dst.elim false own) src dst a fun v => K v [])
  | .makeFunc fn first caps => (match fn with
    | .func f => opdsK X rc tm first.toList fun a => opdsK X rc tm caps.toList fun b => K (.func f a b) []
    | _ => False)
  | .makeSlice t l c => opdK X none tm l fun a => opdK X none tm c fun b => makeK X id t a b K
  | .slice t x lo hi mx => opdK X rc tm x fun a => optK X rc tm lo fun l => optK X rc tm hi fun h => optK X rc tm mx fun m => sliceK X rc sto t a l h m K
  | .fieldAddr t x f => opdK X rc tm x fun a => (match X.TI t with
    | some i => (match i.flds[f]? with
      | some (off, ft) => szK X ft fun n => ifK (Nat.blt 0 n) (ptrAddK rc sto a off fun v => K v [])
      | none => False)
    | none => False)
  | .field t x f => opdK X rc tm x fun a => (match X.TI t with
    | some i => (match i.flds[f]? with
      | some (off, ft) => layK X ft fun ag n => (match a with
        | .agg cs => dropK off cs fun ds => takeK (cellN ag n) ds fun es => mkVK ag es fun v => K v []
        | _ => False)
      | none => False)
    | none => False)
  | .indexAddr t x i => opdK X rc tm x fun a => opdK X rc tm i fun b => (match b with
    | .int _ n => idxK X rc sto t a n fun v => K v []
    | _ => False)
  | .index t x i => opdK X rc tm x fun a => opdK X rc tm i fun b => (match b with
    | .int _ n => indexK X rc t a n fun v => K v []
    | _ => False)
  | .range t x => opdK X none tm x fun a => (match a with
    | .str s => (match X.TI t with
      | some i => ifK i.str (K (.ptr id 0) [(id, .iter s 0)])
      | none => False)
    | _ => False)
  | .next it true => opdK X none tm it fun a => (match a with
    | .ptr b 0 => getK .gone sto b fun B => (match B with
      | .iter s pos => HSplit (decide (pos < s.length)) (K (.tup [.bool true, .int .i64 pos, .int .i32 (decodeL s pos).1]) [(b, .iter s (pos + (decodeL s pos).2))]) (K (.tup [.bool false]) [])
      | _ => False)
    | _ => False)
  | .extract x i => opdK X rc tm x fun a => (match a with
    | .tup vs => (match vs[i]? with
      | some v => K v []
      | none => False)
    | _ => False)
  | .call c => (match c.callee with
    | .builtin .len => (match c.argTypes.toList with
      | [t] => opdsK X rc tm c.args.toList fun as => (match as with
        | [x] => lenSK X rc sto t x fun v => K v []
        | _ => False)
      | _ => False)
    | .builtin .cap => (match c.argTypes.toList with
      | [t] => opdsK X rc tm c.args.toList fun as => (match as with
        | [x] => capSK X rc sto t x fun v => K v []
        | _ => False)
      | _ => False)
    | .builtin .append => (match c.argTypes.toList with
      | [t, tx] => opdsK X none tm c.args.toList fun as => (match as with
        | [s, x] => appendK X dr sto id t tx s x K
        | _ => False)
      | _ => False)
    | .builtin .min => opdsK X rc tm c.args.toList fun as => (match as with
      | [.int k a, .int k' b] => ifK (kEq k k') (K (.int k (if b < a then b else a)) [])
      | _ => False)
    | .builtin .max => opdsK X rc tm c.args.toList fun as => (match as with
      | [.int k a, .int k' b] => ifK (kEq k k') (K (.int k (if a < b then b else a)) [])
      | _ => False)
    | _ => False)
  | _ => False

/-- Operations that write nothing: they may be looked at before it is known whether they run. -/
def mild : Op → Bool
  | .move _ => true
  | .assign _ => true
  | .pick _ _ _ => true
  | .load _ _ => true
  | .nilCheck _ => true
  | .binOp _ _ _ _ _ => true
  | .unOp _ _ _ => true
  | .convert _ _ _ => true
  | .slice _ _ _ _ _ => true
  | .fieldAddr _ _ _ => true
  | .field _ _ _ => true
  | .indexAddr _ _ _ => true
  | .index _ _ _ => true
  | .extract _ _ => true
  | .build _ _ => true
  | .buildSlice _ _ _ => true
  | .makeFunc _ _ _ => true
  | .call c => (match c.callee with
    | .builtin .len => true
    | .builtin .cap => true
    | .builtin .min => true
    | .builtin .max => true
    | .value f => (match f with | .tmp _ => false | _ => true)
    | _ => false)
  | _ => false

def guardK (ops : Array Oper) (tm : List SV) (j : Nat) (want : Bool) (K : Bool → Prop) : Prop :=
  match ops[j]? with
  | some p => (match p.dst with
    | some d => getK (.v .dead) tm d fun sv => (match sv with
      | .v x => (match x with
        | .bool b => (match want with | true => K b | false => K (!b))
        | .undef => K false
        | _ => False)
      | .g r x => (match x with
        | .bool b => (match want with | true => K (r && b) | false => K (r && !b))
        | .undef => K false
        | _ => False))
    | none => False)
  | none => False

/-- One operation that is not guarded: its value, and the store behind it. -/
def opK (X : Sx) (own : Tmp → Bool) (tm : List SV) (sto : List SB) (o : Oper) (K : AVal → List SB → Prop) : Prop :=
  match o.op with
  | .call c => (match c.callee with
    | .value f => opdK X none tm f fun fv => (match fv with
      | .func g first caps => opdsK X none tm c.args.toList fun as => appK as caps fun bs => appK first bs fun all => HCall X sto g all K
      | _ => False)
    | .builtin .len => opdsK X none tm c.args.toList fun as => (match as with
      | [.sub b n _ len _] => getK .gone sto b fun B => (match curSB B with
        | some m => HOb none (m = n) (HALen X c.argTypes.toList (K (.int .i64 len) sto))
        | none => False)
      | _ => lenK sto fun id => denK X own false none id tm sto o fun v ws => wrsK sto ws (K v))
    | _ => lenK sto fun id => denK X own false none id tm sto o fun v ws => wrsK sto ws (K v))
  | .buildSlice t len parts => opdsK X none tm (parts.toList.map (·.2)) fun vs => (match vs.any isPtr with
    | true => lenK sto fun id => HPtrs X t len ((parts.toList.map (·.1)).zip vs) fun e sz rows => wrsK sto [(id, .arr e sz rows)] (K (.sub id len 0 len (some len)))
    | false => lenK sto fun id => denK X own false none id tm sto o fun v ws => wrsK sto ws (K v))
  | .indexAddr t x i => opdK X none tm x fun xv => (match xv with
    | .sub b n lo len _ => opdK X none tm i fun iv => (match iv with
      | .int _ k => getK .gone sto b fun B => (match B with
        | .arr _ sz rows => HOb none (rows.length = n) (HAIdx X t sz len k fun m => addK lo m fun q => K (.eptr b n q 0) sto)
        | _ => False)
      | _ => False)
    | _ => lenK sto fun id => denK X own false none id tm sto o fun v ws => wrsK sto ws (K v))
  | .makeMap t r => optK X none tm r fun h => (match (match h with | none => true | some (.int _ _) => true | _ => false) with
    | true => lenK sto fun id => HMkM X t (wrsK sto [(id, .map [] 0)] (K (.mapr id)))
    | false => False)
  | .lookup t m k ok => opdK X none tm m fun mv => opdK X none tm k fun kv => (match mv with
    | .mapr b => getK .gone sto b fun B => (match B with
      | .map es _ => HLookM X t es kv ok fun v => K v sto
      | _ => False)
    | _ => False)
  | .mapUpdate t m k v => opdK X none tm m fun mv => opdK X none tm k fun kv => opdK X none tm v fun vv => (match mv with
    | .mapr b => getK .gone sto b fun B => (match B with
      | .map es clock => HUpdM X t es clock kv vv fun es' clock' => wrsK sto [(b, .map es' clock')] (K .undef)
      | _ => False)
    | _ => False)
  | _ => lenK sto fun id => denK X own false none id tm sto o fun v ws => wrsK sto ws (K v)
/-- One operation that writes nothing, under a guard. -/
def opGK (X : Sx) (own : Tmp → Bool) (r : Bool) (tm : List SV) (sto : List SB) (o : Oper) (K : AVal → Prop) : Prop :=
  match o.op with
  | .call c => (match c.callee with
    | .value f => opdK X (some r) tm f fun fv => (match fv with
      | .func g first caps => opdsK X (some r) tm c.args.toList fun as => appK as caps fun bs => appK first bs fun all =>
          eachK (viewK sto 4) all fun vs => ifK (norefL vs) (HCallP X (some r) g vs fun u => (match memless u with | true => K u | false => (match refsSK sto all with | [] => K u | _ => False)))
      | _ => False)
    | _ => lenK sto fun id => denK X own false (some r) id tm sto o fun v ws => (match ws with | [] => K v | _ => False))
  | _ => lenK sto fun id => denK X own false (some r) id tm sto o fun v ws => (match ws with | [] => K v | _ => False)

def syOps (X : Sx) (own : Tmp → Bool) (ops : Array Oper) : List Oper → List SV → List SB → (List SV → List SB → Prop) → Prop
  | [], tm, sto, K => K tm sto
  | o :: rest, tm, sto, K => (match o.guard with
    | none => opK X own tm sto o fun v sto' => putK tm o.dst (.v v) fun tm' => syOps X own ops rest tm' sto' K
    | some (j, want) => guardK ops tm j want fun r => (match mild o.op with
      | true => opGK X own r tm sto o fun v => putK tm o.dst (.g r v) fun tm' => syOps X own ops rest tm' sto K
      | false => HSplit r (opK X own tm sto o fun v sto' => putK tm o.dst (.v v) fun tm' => syOps X own ops rest tm' sto' K)
          (putK tm o.dst (.v .undef) fun tm' => syOps X own ops rest tm' sto K)))

/-! Regions whose order is open. -/
def looks : Op → Bool
  | .move _ => false
  | .assign _ => false
  | .pick _ _ _ => false
  | .binOp _ _ _ _ _ => false
  | .unOp _ _ _ => false
  | .extract _ _ => false
  | .field _ _ _ => false
  | .nilCheck _ => false
  | .makeFunc _ _ _ => false
  | _ => true
def SV.val : SV → AVal
  | .v x => x
  | .g _ x => x
/-- What an operation reads of the store. -/
def rdsD (X : Sx) (tm : List SV) (sto : List SB) (o : Oper) : List Nat :=
  match looks o.op with
  | true => (o.op.operands.toList.map fun x => refsOf (sto.map SB.den) 4 (tmpEval X.C (tm.map SV.val) x)).flatten
  | false => []
def maskSK (rd : List Nat) : Nat → List SB → (List SB → Prop) → Prop
  | _, [], K => K []
  | k, B :: bs, K => (match rd.contains k with
    | true => maskSK rd (k + 1) bs fun r => K (B :: r)
    | false => maskSK rd (k + 1) bs fun r => K (.gone :: r))
def opDK (X : Sx) (own : Tmp → Bool) (rc : Option Bool) (id : Nat) (rd : List Nat) (tm : List SV) (sto : List SB) (o : Oper) (K : AVal → List (Nat × SB) → Prop) : Prop :=
  maskSK rd 0 sto fun msto => (match o.op with
  | .call c => (match c.callee with
    | .value f => opdK X rc tm f fun fv => (match fv with
      | .func g first caps => opdsK X rc tm c.args.toList fun as => appK as caps fun bs => appK first bs fun all =>
          eachK (viewK msto 4) all fun vs => ifK (norefL vs) (HCallP X rc g vs fun u => (match memless u with
            | true => K u []
            | false => (match rc with
              | none => K u ((refsSK msto all).map fun b => (b, .gone))
              | some _ => (match refsSK msto all with | [] => K u [] | _ => False))))
      | _ => False)
    | _ => denK X own true rc id tm msto o K)
  | _ => denK X own true rc id tm msto o K)
@[irreducible] def HOpen (ops : Array Oper) (il : List (Nat × Lab)) (K : Prop) : Prop := openOK ops il = true ∧ K
/-- In a region whose order is open: a call by what is known of it, or one that runs over the whole store, all else being over. -/
@[irreducible] def HSel {β : Type} (g : FuncId) (P Q : β → Prop) (N : β) : Prop := P N ∨ Q N
@[irreducible] def HCallT (X : Sx) (sto : List SB) (g : FuncId) (args : List AVal) (K : AVal → List SB → Prop) : Prop :=
  ∃ r sto', CallF X.C g args (sto.map SB.den) r (sto'.map SB.den) ∧ K r sto'
def wholeK {β : Type} (o : Oper) (P : β → Prop) (Q : FuncId → Call → β → Prop) (N : β) : Prop :=
  match o.op with
  | .call c => (match c.callee with
    | .value f => (match f with | .func g => HSel g P (Q g c) N | _ => P N)
    | _ => P N)
  | _ => P N
/-- One operation of a region whose order is open; N: what goes on behind (it stands here once, so that the kernel looks at it once). -/
def stepD (X : Sx) (own : Tmp → Bool) (ops : Array Oper) (base k : Nat) (o : Oper) (tm : List SV) (sto : List SB) (N : Nat × Lab → List SV → List SB → Prop) : Prop :=
  natK (idD ops base k o) fun id => (match o.guard with
    | none => wholeK o (fun N => natsK (rdsD X tm sto o) fun rd => opDK X own none id rd tm sto o fun v ws => ifK (ws.all fun p => Nat.blt p.1 sto.length) (putK tm o.dst (.v v) fun tm' => wrsK sto ws fun sto' => natsK (ws.map (·.1)) fun wr => N (k, ⟨rd, wr, none, false⟩) tm' sto'))
        (fun g c N => opdsK X none tm c.args.toList fun as => HCallT X sto g as fun u sto' => ifK (Nat.ble sto.length sto'.length) (putK tm o.dst (.v u) fun tm' => N (k, ⟨[], [], none, true⟩) tm' sto')) N
    | some (j, want) => guardK ops tm j want fun r => (match mild o.op with
      | true => natsK (rdsD X tm sto o) fun rd => opDK X own (some r) id rd tm sto o fun v ws => (match ws with
        | [] => putK tm o.dst (.g r v) fun tm' => N (k, ⟨rd, [], none, false⟩) tm' sto
        | _ => False)
      | false => HSplit r (natsK (rdsD X tm sto o) fun rd => opDK X own none id rd tm sto o fun v ws => ifK (ws.all fun p => Nat.blt p.1 sto.length) (putK tm o.dst (.v v) fun tm' => wrsK sto ws fun sto' => natsK (ws.map (·.1)) fun wr => N (k, ⟨rd, wr, none, false⟩) tm' sto'))
          (putK tm o.dst (.v .undef) fun tm' => N (k, ⟨[], [], none, false⟩) tm' sto)))
def syOpsD (X : Sx) (own : Tmp → Bool) (ops : Array Oper) (base : Nat) : Nat → List Oper → List (Nat × Lab) → List SV → List SB → (List (Nat × Lab) → List SV → List SB → Prop) → Prop
  | _, [], il, tm, sto, K => K il tm sto
  | k, o :: rest, il, tm, sto, K => stepD X own ops base k o tm sto fun l tm' sto' => syOpsD X own ops base (k + 1) rest (il ++ [l]) tm' sto' K

/-! Code. -/
inductive SOut where
  | norm (tm : List SV) (sto : List SB)
  | exit (id : Nat) (tm : List SV) (sto : List SB)
  | ret (tm : List SV) (sto : List SB)
def stD (tm : List SV) (sto : List SB) : St := ⟨tm.map SV.den, sto.map SB.den⟩
def SOut.den : SOut → Out
  | .norm tm sto => .norm (stD tm sto)
  | .exit id tm sto => .exit id (stD tm sto)
  | .ret tm sto => .ret (stD tm sto)
/-- Code runs, and behind it something holds. -/
@[irreducible] def HCode (X : Sx) (own : Tmp → Bool) (m0 : Nat) (st : List Nat) (gr : List (Nat × Nat × Nat)) (tm : List SV) (sto : List SB) (c : Code) (K : SOut → Prop) : Prop :=
  Vx X.C own m0 c (stD tm sto) fun o => ∃ so, so.den = o ∧ K so
/-- Slices that are nil become buffers that may grow. -/
def growK : List (Nat × Nat × Nat) → List SV → List SB → (List SV → List SB → Prop) → Prop
  | [], tm, sto, K => K tm sto
  | (i, t, sz) :: rest, tm, sto, K => getK (.v .dead) tm i fun sv => (match sv with
    | .v (.slc 0 rows cap) => (match rows with
      | [] => (match cap with
        | some 0 => lenK sto fun n => setK tm i (.v (.bsl n 0)) fun tm' => appK sto [.mk t sz []] fun sto' => growK rest tm' sto' K
        | _ => growK rest tm sto K)
      | _ => growK rest tm sto K)
    | _ => growK rest tm sto K)
def sy (X : Sx) (own : Tmp → Bool) (m0 : Nat) (st : List Nat) (gr : List (Nat × Nat × Nat)) : Code → List SV → List SB → (SOut → Prop) → Prop
  | .skip, tm, sto, K => K (.norm tm sto)
  | .label _, tm, sto, K => K (.norm tm sto)
  | .exit id, tm, sto, K => K (.exit id tm sto)
  | .ret, tm, sto, K => K (.ret tm sto)
  | .region _ ops d, tm, sto, K => (match d with
    | false => syOps X own ops ops.toList tm sto fun tm' sto' => K (.norm tm' sto')
    | true => lenK sto fun base => natK (rank ops.toList ops.size) fun n => repK SB.gone n fun gs => appK sto gs fun sto1 =>
        syOpsD X own ops base 0 ops.toList [] tm sto1 fun il tm' sto' => HOpen ops il (K (.norm tm' sto')))
  | .seq a b, tm, sto, K => sy X own m0 st gr a tm sto fun o => (match o with
    | .norm tm' sto' => growK gr tm' sto' fun tm'' sto'' => sy X own m0 st gr b tm'' sto'' K
    | .exit id tm' sto' => K (.exit id tm' sto')
    | .ret tm' sto' => K (.ret tm' sto'))
  | .block id b, tm, sto, K => (match st.contains (1000 + id) with
    | true => HCode X own m0 st gr tm sto (.block id b) K
    | false => sy X own m0 st gr b tm sto fun o => (match o with
      | .norm tm' sto' => K (.norm tm' sto')
      | .exit id' tm' sto' => (match Nat.beq id' id with
        | true => K (.norm tm' sto')
        | false => K (.exit id' tm' sto'))
      | .ret tm' sto' => K (.ret tm' sto')))
  | .cond c a b, tm, sto, K => (match (match c with | .tmp t => st.contains t | _ => false) with
    | true => HCode X own m0 st gr tm sto (.cond c a b) K
    | false => opdK X none tm c fun v => (match v with
      | .bool t => HSplit t (sy X own m0 st gr a tm sto K) (sy X own m0 st gr b tm sto K)
      | _ => False))
  | .scope b, tm, sto, K => sy X own m0 st gr b tm sto K
  | c, tm, sto, K => HCode X own m0 st gr tm sto c K

/-- The temporaries that code writes. -/
def asgOps : List Oper → List Nat
  | [] => []
  | o :: rest => (match o.dst with | some d => d :: asgOps rest | none => asgOps rest)
def asg : Code → List Nat
  | .region _ ops _ => asgOps ops.toList
  | .seq a b => asg a ++ asg b
  | .cond _ a b => asg a ++ asg b
  | .block _ b => asg b
  | .loop b => asg b
  | .scope b => asg b
  | _ => []
def marksK : List Nat → List Bool → (List Bool → Prop) → Prop
  | [], m, K => K m
  | i :: is, m, K => setK m i true fun m' => marksK is m' K
def falsesK : List SV → (List Bool → Prop) → Prop
  | [], K => K []
  | _ :: xs, K => falsesK xs fun r => K (false :: r)
/-- What is marked is forgotten. -/
def forgetK : List Bool → List SV → (List SV → Prop) → Prop
  | true :: ms, _ :: xs, K => forgetK ms xs fun r => K (.v .dead :: r)
  | false :: ms, x :: xs, K => forgetK ms xs fun r => K (x :: r)
  | [], xs, K => K xs
  | _, [], K => K []
def setsK : List Nat → List AVal → List SV → (List SV → Prop) → Prop
  | i :: is, v :: vs, tm, K => setK tm i (.v v) fun tm' => setsK is vs tm' K
  | _, _, tm, K => K tm
def getsK : List Nat → List SV → (List SV → Prop) → Prop
  | [], _, K => K []
  | i :: is, tm, K => getK (.v .dead) tm i fun x => getsK is tm fun r => K (x :: r)

def lowSV (n : Nat) : SV → Bool
  | .v x => lowR n x
  | .g _ x => lowR n x
def lowSB (n : Nat) : SB → Bool
  | .cells _ cs => lowRL n cs
  | .arr _ _ rows => rows.all (lowRL n)
  | _ => true
@[irreducible] def HUn (un' un : List SV) (K : Prop) : Prop := un' = un ∧ K
/-- A value serves for another of which less is known. -/
def Fit (v l : AVal) : Prop := v = l ∨ (noref v = true ∧ PLe v l)
def FitL : List SV → List AVal → Prop
  | [], [] => True
  | .v v :: vs, l :: ls => Fit v l ∧ FitL vs ls
  | _, _ => False
/-- A store serves for another: block by block the same, or forgotten. -/
def StoFit : List SB → List SB → Prop
  | _, [] => True
  | A :: as, B :: bs => (B = .gone ∨ A = B) ∧ StoFit as bs
  | [], _ :: _ => False
@[irreducible] def HMeet {α : Type} (n : Nat) (L : α → List AVal) (T : α → List SB) (Q : α → Prop) (vs : List SV) (sto : List SB) : Prop :=
  ∃ x, Q x ∧ FitL vs (L x) ∧ StoFit sto (T x)
@[irreducible] def HGoal {α : Type} (p : Prop) (Q : α → Prop) (q : α → Prop) : Prop := p ∧ ∀ x, Q x → q x
def marks2K (c : Code) (ks : List Nat) (tm : List SV) (K : List Bool → Prop) : Prop := falsesK tm fun m => marksK (asg c) m fun m1 => marksK ks m1 K
def stateK {α : Type} (ks : List Nat) (n : Nat) (L : α → List AVal) (T : α → List SB) (un : List SV) (x : α) (K : List SV → List SB → Prop) : Prop :=
  ifK (lowRL n (L x)) (ifK ((T x).all (lowSB n)) (setsK ks (L x) un fun tm1 => forceK (T x) fun sto1 => K tm1 sto1))
/-- Own buffers are given up: they become slices that are told by what they hold. -/
def giveK : List Nat → List SV → List SB → (List SV → List SB → Prop) → Prop
  | [], tm, sto, K => K tm sto
  | i :: is, tm, sto, K => getK (.v .dead) tm i fun sv => (match sv with
    | .v (.bsl b n) => viewK sto 4 (.bsl b n) fun v => ifK (noref v) (setK tm i (.v v) fun tm' => setK sto b .gone fun sto' => giveK is tm' sto' K)
    | _ => giveK is tm sto K)
/-- The end of a piece whose ways meet. -/
def meetOutK {α : Type} (mk : List Bool) (un : List SV) (ks : List Nat) (n : Nat) (L : α → List AVal) (T : α → List SB) (Q : α → Prop) (K : SOut → Prop) : SOut → Prop
  | .norm tm' sto' => forgetK mk tm' fun un' => HUn un' un (getsK ks tm' fun vs => HMeet n L T Q vs sto')
  | .exit id tm' sto' => K (.exit id tm' sto')
  | .ret tm' sto' => K (.ret tm' sto')
def loopK {α : Type} (X : Sx) (own : Tmp → Bool) (m0 : Nat) (st : List Nat) (gr : List (Nat × Nat × Nat)) (ks : List Nat) (n : Nat) (L : α → List AVal) (T : α → List SB) (I : α → Prop) (μ : α → Nat) (x0 : α) (b : Code) (tm : List SV) (sto : List SB) (K : SOut → Prop) : Prop :=
  marks2K b ks tm fun mk => forgetK mk tm fun un => ifK (un.all (lowSV n)) (getsK ks tm fun vs =>
    HGoal (I x0 ∧ FitL vs (L x0) ∧ StoFit sto (T x0)) I fun x => stateK ks n L T un x fun tm1 sto1 => sy X own m0 st gr b tm1 sto1 (meetOutK mk un ks n L T (fun y => I y ∧ μ y < μ x) K))
def noStop (c : Code) (st : List Nat) : List Nat :=
  match c with
  | .cond (.tmp t) _ _ => st.filter fun i => !Nat.beq i t
  | .block id _ => st.filter fun i => !Nat.beq i (1000 + id)
  | _ => st
def joinOutK {α : Type} (gv : List Nat) (mk : List Bool) (un : List SV) (ks : List Nat) (n : Nat) (L : α → List AVal) (T : α → List SB) (Q : α → Prop) (K : SOut → Prop) : SOut → Prop
  | .norm tm' sto' => giveK gv tm' sto' fun tm1 sto1 => meetOutK mk un ks n L T Q K (.norm tm1 sto1)
  | .exit id tm' sto' => K (.exit id tm' sto')
  | .ret tm' sto' => K (.ret tm' sto')
def joinK {α : Type} (gv : List Nat) (X : Sx) (own : Tmp → Bool) (m0 : Nat) (st : List Nat) (gr : List (Nat × Nat × Nat)) (ks : List Nat) (n : Nat) (L : α → List AVal) (T : α → List SB) (Q : α → Prop) (c : Code) (tm : List SV) (sto : List SB) (K : SOut → Prop) : Prop :=
  marks2K c ks tm fun mk => forgetK mk tm fun un => ifK (un.all (lowSV n))
    (HGoal (sy X own m0 (noStop c st) gr c tm sto (joinOutK gv mk un ks n L T Q K)) Q fun x => stateK ks n L T un x fun tm1 sto1 => K (.norm tm1 sto1))

/-- What the results read as. -/
def resK (X : Sx) (tm : List SV) (sto : List SB) : List ResultVar → (List AVal → Prop) → Prop
  | [], K => K []
  | .tmp t :: rest, K => getK (.v .dead) tm t fun sv => (match sv with
    | .v x => resK X tm sto rest fun r => K (x :: r)
    | _ => False)
  | .cell a t :: rest, K => getK (.v .dead) tm a fun sv => (match sv with
    | .v p => layK X t fun ag n => rdK none sto p (cellN ag n) fun cs => mkVK ag cs fun x => resK X tm sto rest fun r => K (x :: r)
    | _ => False)
def res1K (vs : List AVal) (K : AVal → Prop) : Prop := match vs with | [v] => K v | vs => K (.tup vs)
/-- A function's end. -/
def backK (X : Sx) (rs : List ResultVar) (r : AVal) : SOut → Prop
  | .norm tm sto => resK X tm sto rs fun vs => res1K vs fun r0 => viewK sto 4 r0 fun v => ifK (noref v) (HRet v r)
  | .ret tm sto => resK X tm sto rs fun vs => res1K vs fun r0 => viewK sto 4 r0 fun v => ifK (noref v) (HRet v r)
  | .exit _ _ _ => False
/-- The end of a function that was entered with the caller's store. -/
def backSK (X : Sx) (rs : List ResultVar) (K : AVal → List SB → Prop) : SOut → Prop
  | .norm tm sto => resK X tm sto rs fun vs => res1K vs fun r0 => K r0 sto
  | .ret tm sto => resK X tm sto rs fun vs => res1K vs fun r0 => K r0 sto
  | .exit _ _ _ => False
def liftK : List AVal → (List SV → Prop) → Prop
  | [], K => K []
  | x :: xs, K => liftK xs fun r => K (.v x :: r)
def fnK (X : Sx) (own : Tmp → Bool) (st : List Nat) (gr : List (Nat × Nat × Nat)) (c : Code) (rs : List ResultVar) (n : Nat) (args : List AVal) (r : AVal) : Prop :=
  repK (SV.v .undef) n fun us => liftK args fun as => appK as us fun tm => sy X own 0 st gr c tm [] (backK X rs r)
def fnSK (X : Sx) (c : Code) (rs : List ResultVar) (n : Nat) (args : List AVal) (sto : List SB) (K : AVal → List SB → Prop) : Prop :=
  repK (SV.v .undef) n fun us => liftK args fun as => appK as us fun tm => lenK sto fun m0 => sy X (fun _ => false) m0 [] [] c tm sto (backSK X rs K)
end Go.Proofs.YtaajfbcopafkaaaGreatDoor.Ai
