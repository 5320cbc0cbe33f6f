/- Symbolic runs: the rules. Own work of this seat. -/
import Derived.Test.YtaajfbcopafkaaaGreatDoorAiLg
namespace Go.Proofs.YtaajfbcopafkaaaGreatDoor.Ai
open Go
universe u
set_option linter.unusedVariables false
set_option linter.unusedSimpArgs false
set_option linter.unusedSectionVars false

section
variable {X : Sx} {own : Tmp → Bool} {ops : Array Oper} {tm : List SV} {sto : List SB} {m0 : Nat} {st : List Nat} {gr : List (Nat × Nat × Nat)}

/-! Functions. -/
theorem resK_sound : ∀ {rs : List ResultVar} {K : List AVal → Prop}, resK X tm sto rs K → ∃ vs, resL X.C.P (stD tm sto) rs = some vs ∧ K vs := by
  intro rs
  induction rs with
  | nil => intro K h; exact ⟨[], rfl, h⟩
  | cons r rs ih =>
    intro K h
    cases r with
    | tmp t =>
      simp only [resK, getK_eq] at h
      split at h
      · rename_i x hx
        obtain ⟨vs, h1, h2⟩ := ih h
        have e : (tm.map SV.den).getD t .dead = x := by rw [den_getD, hx]; rfl
        exact ⟨_, by simp only [resL, resV, stD, e, Option.bind_some]; simp only [stD] at h1; rw [h1]; rfl, h2⟩
      · exact h.elim
    | cell a t =>
      simp only [resK, getK_eq] at h
      split at h
      · rename_i p hp
        obtain ⟨ag, n, h1, _, h2⟩ := layK_sound h
        obtain ⟨cs, h3, h4⟩ := rdK_sound h2
        obtain ⟨v, h5, h6⟩ := mkVK_sound h4
        obtain ⟨vs, h7, h8⟩ := ih h6
        have e : (tm.map SV.den).getD a .dead = p := by rw [den_getD, hp]; rfl
        have h3 := h3 trivial
        exact ⟨_, by simp only [resL, resV, stD, e, h1, Option.bind_some, ← cellN_eq, h3, h5]; simp only [stD] at h7; rw [h7]; rfl, h8⟩
      · exact h.elim
def res1 : List AVal → AVal
  | [v] => v
  | vs => .tup vs
theorem res1K_sound {vs : List AVal} {K : AVal → Prop} (h : res1K vs K) : K (res1 vs) := by
  match vs, h with
  | [], h => exact h
  | [v], h => exact h
  | v :: w :: r, h => exact h
theorem resA_of {s : St} {rs : List ResultVar} {vs : List AVal} (h : resL X.C.P s rs = some vs) : resA X.C.P s rs = some (res1 vs) := by
  unfold resA
  rw [h]
  match vs with
  | [] => rfl
  | [v] => rfl
  | v :: w :: r => rfl
theorem backK_sound {fn : Func} {rs : List ResultVar} {r : AVal} {so : SOut} (hr : fn.results.toList = rs) (h : backK X rs r so) : Back X.C fn r so.den := by
  have key : ∀ {tm : List SV} {sto : List SB}, (resK X tm sto rs fun vs => res1K vs fun r0 => viewK sto 4 r0 fun v => ifK (noref v) (HRet v r)) →
      ∃ r0, resA X.C.P (stD tm sto) fn.results.toList = some r0 ∧ ((r = r0 ∧ (stD tm sto).sto = []) ∨ (noref (view (stD tm sto).sto 4 r0) = true ∧ PLe (view (stD tm sto).sto 4 r0) r ∧ noref r = true)) := by
    intro tm sto h
    obtain ⟨vs, h1, h2⟩ := resK_sound h
    obtain ⟨h3, h4⟩ := ifK_iff.1 (viewK_sound _ _ (res1K_sound h2))
    unfold HRet at h4
    exact ⟨_, by rw [hr]; exact resA_of h1, .inr ⟨h3, h4⟩⟩
  cases so with
  | norm tm sto => exact key h
  | ret tm sto => exact key h
  | exit id tm sto => exact h.elim
theorem liftK_eq : ∀ {xs : List AVal} {K : List SV → Prop}, liftK xs K = K (xs.map SV.v) := by
  intro xs
  induction xs with
  | nil => intro K; rfl
  | cons x xs ih => intro K; simp only [liftK, ih]; rfl
theorem map_den_v (xs : List AVal) : (xs.map SV.v).map SV.den = xs := by
  rw [List.map_map]
  exact List.map_id _
theorem map_comp_v (xs : List AVal) : xs.map (SV.den ∘ SV.v) = xs := List.map_id _
theorem sy_call (own : Tmp → Bool) (st : List Nat) (gr : List (Nat × Nat × Nat)) {f : FuncId} {fn : Func} {c : Code} {rs : List ResultVar} {n : Nat} {args : List AVal} {r : AVal} (hf : X.C.P.funcs[f]? = some fn) (hb : fn.body = some c)
    (hn : fn.name ≠ "runtime.NumGoroutine") (hr : fn.results.toList = rs) (hnt : fn.ntmps - args.length = n) (h : Run (fnK X own st gr c rs n args r)) : CallF X.C f args [] r [] := by
  unfold Run at h
  simp only [fnK, repK_eq, liftK_eq, appK_eq] at h
  obtain ⟨o, h1, so, rfl, h2⟩ := sy_sound c h
  refine callF_of_vc own hf hb hn ⟨_, ?_, backK_sound hr h2⟩
  have e : entry fn.ntmps args [] = stD (args.map SV.v ++ List.replicate n (.v .undef)) [] := by
    simp [entry, stD, hnt, map_comp_v, SV.den]
  rw [e]; exact h1

/-- A function's contract, for the runs of others. -/
class Con (X : Sx) (g : FuncId) (args : List AVal) (Pre : outParam Prop) (r : outParam AVal) : Prop where
  call : Pre → ∃ args', PLeL args args' ∧ CallF X.C g args' [] r []
theorem con {X : Sx} {g : FuncId} {args : List AVal} {Pre : Prop} {r : AVal} (h : Pre → CallF X.C g args [] r []) : Con X g args Pre r := ⟨fun hp => ⟨args, .refl _, h hp⟩⟩
theorem con0 {X : Sx} {g : FuncId} {args : List AVal} {r : AVal} (h : CallF X.C g args [] r []) : Con X g args True r := con fun _ => h
theorem callP_con {rc : Option Bool} {g : FuncId} {args : List AVal} {Pre : Prop} {r : AVal} {K : AVal → Prop} [i : Con X g args Pre r] (hn : noref r = true) (hp : Ob rc Pre) (hk : Run (K r)) : HCallP X rc g args K := by
  unfold HCallP; unfold Run at hk
  by_cases hw : When rc
  · obtain ⟨args', h1, h2⟩ := i.call (ob_mk hp hw)
    exact ⟨args', r, ob_iff.2 fun _ => ⟨h1, h2, hn⟩, hk⟩
  · exact ⟨[], r, ob_iff.2 fun h => (hw h).elim, hk⟩
theorem bool_tf {b : Bool} (h : b = true) (h' : b = false) : False := by rw [h] at h'; cases h'
theorem bool_ft {b : Bool} (h : b = false) (h' : b = true) : False := by rw [h] at h'; cases h'
/-- A call that is left out. -/
theorem callP_skip {b : Bool} {g : FuncId} {args : List AVal} {K : AVal → Prop} (hb : b = false) (hk : Run (K (.bool false))) : HCallP X (some b) g args K := by
  unfold HCallP; unfold Run at hk
  exact ⟨[], _, fun h => (by rw [hb] at h; cases h), hk⟩
theorem call_p {g : FuncId} {args : List AVal} {K : AVal → List SB → Prop}
    (h : Run (eachK (viewK sto 4) args fun vs => ifK (norefL vs) (HCallP X none g vs fun r => (match memless r with | true => K r sto | false => goneK sto (refsSK sto args) (K r))))) : HCall X sto g args K := by
  unfold Run at h
  obtain ⟨h1, h2⟩ := ifK_iff.1 (eachK_sound viewK_sound h)
  unfold HCallP at h2
  obtain ⟨args', r, h3, h4⟩ := h2
  obtain ⟨h5, h6, h7⟩ := h3
  unfold HCall
  have hc := CallStep.pure (CF := CallF X.C) (sto := sto.map SB.den) (args := args) _ args' rfl h1 h5 h6 h7
  split at h4
  · rename_i hm
    rw [if_pos hm] at hc
    exact ⟨r, sto, hc, h4⟩
  · rename_i hm
    obtain ⟨s', h8, h9⟩ := goneK_eq h4
    rw [if_neg (by rw [hm]; decide)] at hc
    exact ⟨r, s', by rw [h8]; exact hc, h9⟩
/-- A function that is run where it is called. -/
class Inl (X : Sx) (g : FuncId) (c : outParam Code) (rs : outParam (List ResultVar)) (n : outParam Nat) : Prop where
  fn : ∃ fn : Func, X.C.P.funcs[g]? = some fn ∧ fn.body = some c ∧ fn.name ≠ "runtime.NumGoroutine" ∧ fn.results.toList = rs ∧ fn.ntmps = n
theorem inl {g : FuncId} {fn : Func} {c : Code} {rs : List ResultVar} {n : Nat} (hf : X.C.P.funcs[g]? = some fn) (hb : fn.body = some c) (hn : fn.name ≠ "runtime.NumGoroutine") (hr : fn.results.toList = rs) (hnt : fn.ntmps = n) : Inl X g c rs n := ⟨fn, hf, hb, hn, hr, hnt⟩
theorem call_inl {g : FuncId} {args : List AVal} {K : AVal → List SB → Prop} {c : Code} {rs : List ResultVar} {n : Nat} [i : Inl X g c rs n] (h : Run (natK (n - args.length) fun k => fnSK X c rs k args sto K)) : HCall X sto g args K := by
  unfold Run at h
  simp only [fnSK, natK_eq, repK_eq, liftK_eq, appK_eq, lenK_eq] at h
  obtain ⟨fn, hf, hb, hn, hr, hnt⟩ := i.fn
  obtain ⟨o, h1, so, rfl, h2⟩ := sy_sound c h
  obtain ⟨k, h1⟩ := h1.bound
  have e : entry fn.ntmps args (sto.map SB.den) = stD (args.map SV.v ++ List.replicate (n - args.length) (.v .undef)) sto := by
    simp [entry, stD, hnt, map_comp_v, SV.den]
  have key : ∀ {tm' : List SV} {sto' : List SB} {o : Out}, (o = .norm (stD tm' sto') ∨ o = .ret (stD tm' sto')) → Exec X.C (CallN X.C k) (fun _ => false) sto.length c (stD (args.map SV.v ++ List.replicate (n - args.length) (.v .undef)) sto) o →
      (resK X tm' sto' rs fun vs => res1K vs fun r0 => K r0 sto') → HCall X sto g args K := by
    intro tm' sto' o ho hx h
    obtain ⟨vs, h3, h4⟩ := resK_sound h
    have h4 := res1K_sound h4
    unfold HCall
    refine ⟨_, sto', .full ⟨k + 1, .inr <| .inl ⟨fn, c, fun _ => false, o, stD tm' sto', stD tm' sto', _, hf, hb, hn, ?_, ho, .inl rfl, ?_, .inl ⟨rfl, rfl⟩⟩⟩, h4⟩
    · rw [e, List.length_map]; exact hx
    · rw [hr]; exact resA_of h3
  cases so with
  | norm tm' sto' => exact key (.inl rfl) h1 h2
  | ret tm' sto' => exact key (.inr rfl) h1 h2
  | exit id tm' sto' => exact h2.elim

/-- Functions that are run where they are called, in a region whose order is open too. -/
class Whole (g : FuncId) : Prop where
  t : True
theorem sel_l {β : Type} {g : FuncId} {P Q : β → Prop} {N : β} (h : Run (P N)) : HSel g P Q N := by unfold Run at h; unfold HSel; exact .inl h
theorem sel_r {β : Type} {g : FuncId} {P Q : β → Prop} {N : β} (h : Run (Q N)) : HSel g P Q N := by unfold Run at h; unfold HSel; exact .inr h
theorem callT_inl {g : FuncId} {args : List AVal} {K : AVal → List SB → Prop} {c : Code} {rs : List ResultVar} {n : Nat} [i : Inl X g c rs n] (h : Run (natK (n - args.length) fun k => fnSK X c rs k args sto K)) : HCallT X sto g args K := by
  unfold Run at h
  simp only [fnSK, natK_eq, repK_eq, liftK_eq, appK_eq, lenK_eq] at h
  obtain ⟨fn, hf, hb, hn, hr, hnt⟩ := i.fn
  obtain ⟨o, h1, so, rfl, h2⟩ := sy_sound c h
  obtain ⟨k, h1⟩ := h1.bound
  have e : entry fn.ntmps args (sto.map SB.den) = stD (args.map SV.v ++ List.replicate (n - args.length) (.v .undef)) sto := by
    simp [entry, stD, hnt, map_comp_v, SV.den]
  have key : ∀ {tm' : List SV} {sto' : List SB} {o : Out}, (o = .norm (stD tm' sto') ∨ o = .ret (stD tm' sto')) → Exec X.C (CallN X.C k) (fun _ => false) sto.length c (stD (args.map SV.v ++ List.replicate (n - args.length) (.v .undef)) sto) o →
      (resK X tm' sto' rs fun vs => res1K vs fun r0 => K r0 sto') → HCallT X sto g args K := by
    intro tm' sto' o ho hx h
    obtain ⟨vs, h3, h4⟩ := resK_sound h
    have h4 := res1K_sound h4
    unfold HCallT
    refine ⟨_, sto', ⟨k + 1, .inr <| .inl ⟨fn, c, fun _ => false, o, stD tm' sto', stD tm' sto', _, hf, hb, hn, ?_, ho, .inl rfl, ?_, .inl ⟨rfl, rfl⟩⟩⟩, h4⟩
    · rw [e, List.length_map]; exact hx
    · rw [hr]; exact resA_of h3
  cases so with
  | norm tm' sto' => exact key (.inl rfl) h1 h2
  | ret tm' sto' => exact key (.inr rfl) h1 h2
  | exit id tm' sto' => exact h2.elim

/-! Loops; where ways meet. -/
def forget : List Bool → List SV → List SV
  | m :: ms, x :: xs => (bif m then .v .dead else x) :: forget ms xs
  | [], xs => xs
  | _, [] => []
theorem forgetK_eq : ∀ {ms : List Bool} {xs : List SV} {K : List SV → Prop}, forgetK ms xs K = K (forget ms xs) := by
  intro ms
  induction ms with
  | nil => intro xs K; cases xs <;> rfl
  | cons m ms ih =>
    intro xs K
    cases xs with
    | nil => cases m <;> rfl
    | cons x xs => cases m <;> simp only [forgetK, ih] <;> rfl
def gets : List Nat → List SV → List SV
  | [], _ => []
  | i :: is, tm => tm.getD i (.v .dead) :: gets is tm
theorem getsK_eq : ∀ {ks : List Nat} {tm : List SV} {K : List SV → Prop}, getsK ks tm K = K (gets ks tm) := by
  intro ks
  induction ks with
  | nil => intro tm K; rfl
  | cons i is ih => intro tm K; simp only [getsK, getK_eq, ih]; rfl
def sets : List Nat → List AVal → List SV → List SV
  | i :: is, v :: vs, tm => sets is vs (tm.set i (.v v))
  | _, _, tm => tm
theorem setsK_eq : ∀ {ks : List Nat} {vs : List AVal} {tm : List SV} {K : List SV → Prop}, setsK ks vs tm K = K (sets ks vs tm) := by
  intro ks
  induction ks with
  | nil => intro vs tm K; cases vs <;> rfl
  | cons i is ih =>
    intro vs tm K
    cases vs with
    | nil => rfl
    | cons v vs => simp only [setsK, setK_eq, ih]; rfl
theorem marksK_sound : ∀ {is : List Nat} {m : List Bool} {K : List Bool → Prop}, marksK is m K → ∃ m', K m' := by
  intro is
  induction is with
  | nil => intro m K h; exact ⟨m, h⟩
  | cons i is ih => intro m K h; simp only [marksK, setK_eq] at h; exact ih h
theorem falsesK_sound : ∀ {tm : List SV} {K : List Bool → Prop}, falsesK tm K → ∃ m', K m' := by
  intro tm
  induction tm with
  | nil => intro K h; exact ⟨[], h⟩
  | cons x xs ih => intro K h; obtain ⟨m, h⟩ := ih h; exact ⟨_, h⟩
theorem marks2K_sound {c : Code} {ks : List Nat} {K : List Bool → Prop} (h : marks2K c ks tm K) : ∃ m, K m := by
  obtain ⟨m, h⟩ := falsesK_sound h
  obtain ⟨m, h⟩ := marksK_sound h
  exact marksK_sound h
def lowB (L : Nat) : Blk → Bool
  | .cells _ cs => lowRL L cs
  | .arr _ _ rows => rows.all (lowRL L)
  | .map es _ => es.all fun p => lowR L p.1 && lowR L p.2.1
  | .miter mv _ _ _ => lowR L mv
  | _ => true
theorem wl_refl {L : Nat} : ∀ {xs : List AVal}, lowRL L xs = true → WL L xs xs := by
  intro xs
  induction xs with
  | nil => intro _; exact .nil
  | cons x xs ih =>
    intro h
    simp only [lowRL, Bool.and_eq_true] at h
    exact .cons (.refl h.1) (ih h.2)
theorem wb_refl {L : Nat} {B : Blk} (h : lowB L B = true) : WB L B B := by
  cases B with
  | cells t cs => exact .cells (wl_refl h)
  | buf t sz rows cap => exact .buf
  | nbuf t sz => exact .nbuf
  | iter s pos => exact .iter
  | arr t sz rows => exact .arr (fun r hr => List.all_eq_true.1 h r hr)
  | map es clock => exact .map (fun p hp => by have := List.all_eq_true.1 h p hp; simpa using this)
  | miter mv s se l => exact .miter h
  | gone => exact .gone _
theorem lowSV_den {n : Nat} {x : SV} (h : lowSV n x = true) : lowR n x.den = true := by
  cases x with
  | v x => exact h
  | g b x => cases b with
    | true => exact h
    | false => rfl
mutual
theorem lowR_noref {n : Nat} : ∀ {x : AVal}, noref x = true → lowR n x = true
  | .func _ a c, h => by
    simp only [noref, Bool.and_eq_true] at h
    simp only [lowR, Bool.and_eq_true]
    exact ⟨lowRL_noref h.1, lowRL_noref h.2⟩
  | .agg cs, h => by simp only [noref] at h; simp only [lowR]; exact lowRL_noref h
  | .tup cs, h => by simp only [noref] at h; simp only [lowR]; exact lowRL_noref h
  | .iface _ v, h => by simp only [noref] at h; simp only [lowR]; exact lowR_noref h
  | .ptr _ _, h => by cases h
  | .eptr _ _ _ _, h => by cases h
  | .bsl _ _, h => by cases h
  | .sub _ _ _ _ _, h => by cases h
  | .csl _ _ _ _ _, h => by cases h
  | .mapr _, h => by cases h
  | .yld _ _ _ _, h => by cases h
  | .dead, h => by cases h
  | .int _ _, _ => rfl
  | .bool _, _ => rfl
  | .str _, _ => rfl
  | .nilptr, _ => rfl
  | .nilfunc, _ => rfl
  | .nilif, _ => rfl
  | .nilmap, _ => rfl
  | .undef, _ => rfl
  | .slc _ _ _, _ => rfl
  | .rptr _, _ => rfl
theorem lowRL_noref {n : Nat} : ∀ {xs : List AVal}, norefL xs = true → lowRL n xs = true
  | [], _ => rfl
  | x :: xs, h => by
    simp only [norefL, Bool.and_eq_true] at h
    simp only [lowRL, Bool.and_eq_true]
    exact ⟨lowR_noref h.1, lowRL_noref h.2⟩
end
theorem noref_hush (x : AVal) : noref (hush x) = true := by
  unfold hush
  split
  · assumption
  · rfl
theorem hush_eq {x : AVal} (h : noref x = true) : hush x = x := if_pos h
theorem lowSB_den {n : Nat} {B : SB} (h : lowSB n B = true) : lowB n B.den = true := by
  cases B with
  | cells t cs => exact h
  | mk t sz rows => simp only [SB.den, mkBuf]; split <;> rfl
  | map es clock =>
    simp only [SB.den, lowB, hushE, List.all_map, List.all_eq_true]
    intro p _
    simp only [Function.comp_apply, Bool.and_eq_true]
    exact ⟨lowR_noref (noref_hush _), lowR_noref (noref_hush _)⟩
  | arr t sz rows => exact h
  | _ => rfl
theorem wl_forget {n : Nat} : ∀ {ms : List Bool} {xs : List SV}, (forget ms xs).all (lowSV n) = true → WL n (xs.map SV.den) ((forget ms xs).map SV.den) := by
  have same : ∀ {xs : List SV}, xs.all (lowSV n) = true → WL n (xs.map SV.den) (xs.map SV.den) := by
    intro xs
    induction xs with
    | nil => intro _; exact .nil
    | cons x xs ih => intro h; simp only [List.all_cons, Bool.and_eq_true] at h; exact .cons (.refl (lowSV_den h.1)) (ih h.2)
  intro ms
  induction ms with
  | nil => intro xs h; have e : forget [] xs = xs := by cases xs <;> rfl
           rw [e] at h ⊢; exact same h
  | cons m ms ih =>
    intro xs h
    cases xs with
    | nil => exact .nil
    | cons x xs =>
      simp only [forget, List.all_cons, Bool.and_eq_true] at h ⊢
      cases m with
      | true => exact .cons (.dead _) (ih h.2)
      | false => exact .cons (.refl (lowSV_den h.1)) (ih h.2)
theorem wl_set' {L : Nat} {xs ys : List AVal} (h : WL L xs ys) : ∀ {i : Nat} {v : AVal}, (∀ x, xs[i]? = some x → WV L x v) → WL L xs (ys.set i v) := by
  induction h with
  | nil => intro i v _; exact .nil
  | @cons x y xs ys h t ih =>
    intro i v hx
    cases i with
    | zero => exact .cons (hx x rfl) t
    | succ i => exact .cons h (ih fun x h => hx x h)
theorem wl_sets {n : Nat} : ∀ {ks : List Nat} {ls : List AVal} {xs ys : List SV}, WL n (xs.map SV.den) (ys.map SV.den) → FitL (gets ks xs) ls → lowRL n ls = true → WL n (xs.map SV.den) ((sets ks ls ys).map SV.den) := by
  intro ks
  induction ks with
  | nil => intro ls xs ys h _ _; exact h
  | cons i is ih =>
    intro ls xs ys h hf hl
    cases ls with
    | nil => exact h
    | cons l ls =>
      simp only [lowRL, Bool.and_eq_true] at hl
      simp only [gets] at hf
      cases hx : xs.getD i (.v .dead) with
      | g b x => rw [hx] at hf; exact hf.elim
      | v x =>
        rw [hx] at hf
        refine ih ?_ hf.2 hl.2
        rw [List.map_set]
        refine wl_set' h fun y hy => ?_
        have : y = x := by
          rw [List.getElem?_map] at hy
          rw [List.getD_eq_getElem?_getD] at hx
          cases ht : xs[i]? with
          | none => rw [ht] at hy; cases hy
          | some z => rw [ht] at hy hx; simp at hy hx; subst hy; rw [hx]; rfl
        subst this
        rcases hf.1 with rfl | ⟨h1, h2⟩
        · exact .refl hl.1
        · exact .pw h1 h2
theorem ws_fit {n : Nat} : ∀ {sto T : List SB}, StoFit sto T → T.all (lowSB n) = true → WS n (sto.map SB.den) (T.map SB.den) := by
  intro sto T
  induction T generalizing sto with
  | nil => intro _ _; exact .nil _
  | cons B T ih =>
    intro h hl
    cases sto with
    | nil => exact h.elim
    | cons A sto =>
      simp only [List.all_cons, Bool.and_eq_true] at hl
      obtain ⟨h1, h⟩ := h
      refine .cons ?_ (ih h hl.2)
      rcases h1 with rfl | rfl
      · exact .gone _
      · exact wb_refl (lowSB_den hl.1)
theorem sto_take : ∀ {n : Nat} {sto T : List SB}, n ≤ sto.length → sto.take n = T → StoFit sto T := by
  intro n
  induction n with
  | zero => intro sto T _ h; simp at h; subst h; cases sto <;> trivial
  | succ n ih =>
    intro sto T hn h
    cases sto with
    | nil => simp at hn
    | cons A sto =>
      simp only [List.take_succ_cons] at h
      subst h
      exact ⟨.inr rfl, ih (by simpa using hn) rfl⟩
theorem fit_weak {n : Nat} {ks : List Nat} {ls : List AVal} {T : List SB} {mk : List Bool} (hm : m0 ≤ n) (hT : T.length = n) (hu : (forget mk tm).all (lowSV n) = true) (hf : FitL (gets ks tm) ls) (hl : lowRL n ls = true) (hs : StoFit sto T) (hlT : T.all (lowSB n) = true) :
    Weak m0 (stD tm sto) (stD (sets ks ls (forget mk tm)) T) := by
  have e : (stD (sets ks ls (forget mk tm)) T).sto.length = n := by simp [stD, hT]
  refine ⟨by rw [e]; exact hm, ?_, ?_⟩
  · rw [e]; exact wl_sets (wl_forget hu) hf hl
  · rw [e]; exact ws_fit hs hlT
theorem stateK_sound {α : Type} {ks : List Nat} {n : Nat} {L : α → List AVal} {T : α → List SB} {un : List SV} {x : α} {K : List SV → List SB → Prop} (h : stateK ks n L T un x K) : lowRL n (L x) = true ∧ (T x).all (lowSB n) = true ∧ K (sets ks (L x) un) (T x) := by
  unfold stateK at h
  obtain ⟨h1, h⟩ := ifK_iff.1 h
  obtain ⟨h2, h⟩ := ifK_iff.1 h
  rw [setsK_eq, forceK_eq] at h
  exact ⟨h1, h2, h⟩
theorem hgoal {α : Type} {p : Prop} {Q q : α → Prop} (h : HGoal p Q q) : p ∧ ∀ x, Q x → q x := by unfold HGoal at h; exact h
theorem meetOut_norm {α : Type} {mk : List Bool} {un : List SV} {ks : List Nat} {n : Nat} {L : α → List AVal} {T : α → List SB} {Q : α → Prop} {K : SOut → Prop} {tm' : List SV} {sto' : List SB} (h : meetOutK mk un ks n L T Q K (.norm tm' sto')) :
    forget mk tm' = un ∧ ∃ x, Q x ∧ FitL (gets ks tm') (L x) ∧ StoFit sto' (T x) := by
  simp only [meetOutK, forgetK_eq, getsK_eq] at h
  unfold HUn at h
  obtain ⟨h1, h2⟩ := h
  unfold HMeet at h2
  exact ⟨h1, h2⟩

theorem loop_rule {α : Type} (ks : List Nat) (n : Nat) (L : α → List AVal) (T : α → List SB) (I : α → Prop) (μ : α → Nat) (x0 : α) {b : Code} {K : SOut → Prop} (hT : ∀ x, (T x).length = n) (hm : m0 ≤ n)
    (h : Run (loopK X own m0 st gr ks n L T I μ x0 b tm sto K)) : HCode X own m0 st gr tm sto (.loop b) K := by
  unfold Run at h
  unfold loopK at h
  obtain ⟨mk, h⟩ := marks2K_sound h
  rw [forgetK_eq] at h
  obtain ⟨hu, h⟩ := ifK_iff.1 h
  rw [getsK_eq] at h
  obtain ⟨⟨hI0, hf0, hs0⟩, hround⟩ := hgoal h
  have key : ∀ k x, μ x = k → I x → Vx X.C own m0 (.loop b) (stD (sets ks (L x) (forget mk tm)) (T x)) fun o => ∃ so, SOut.den so = o ∧ K so := by
    intro k
    induction k using Nat.strongRecOn with
    | _ k ih =>
      intro x hk hI
      obtain ⟨h1, h2, h3⟩ := stateK_sound (hround x hI)
      obtain ⟨o, h4, so, rfl, h5⟩ := sy_sound b h3
      cases so with
      | exit id tm' sto' => exact ⟨_, .loopX h4, _, rfl, h5⟩
      | ret tm' sto' => exact ⟨_, .loopR h4, _, rfl, h5⟩
      | norm tm' sto' =>
        obtain ⟨e1, y, ⟨hIy, hμ⟩, hf, hs⟩ := meetOut_norm h5
        obtain ⟨g1, g2, _⟩ := stateK_sound (hround y hIy)
        obtain ⟨o, h6, h7⟩ := ih (μ y) (hk ▸ hμ) y rfl hIy
        have hw := fit_weak (mk := mk) hm (hT y) (by rw [e1]; exact hu) hf g1 hs g2
        rw [e1] at hw
        exact ⟨o, .loopN h4 (.weak hw h6), h7⟩
  obtain ⟨g1, g2, _⟩ := stateK_sound (hround x0 hI0)
  obtain ⟨o, h6, h7⟩ := key _ x0 rfl hI0
  unfold HCode
  exact ⟨o, .weak (fit_weak hm (hT x0) hu hf0 g1 hs0 g2) h6, h7⟩

/-- A loop's round, as it stands. -/
def roundK (X : Sx) (own : Tmp → Bool) (m0 : Nat) (st : List Nat) (gr : List (Nat × Nat × Nat)) (b : Code) (K : SOut → Prop) : SOut → Prop
  | .norm tm' sto' => HCode X own m0 st gr tm' sto' (.loop b) K
  | .exit id tm' sto' => K (.exit id tm' sto')
  | .ret tm' sto' => K (.ret tm' sto')
theorem loop_round {b : Code} {K : SOut → Prop} (h : Run (sy X own m0 st gr b tm sto (roundK X own m0 st gr b K))) : HCode X own m0 st gr tm sto (.loop b) K := by
  unfold Run at h
  obtain ⟨o, h4, so, rfl, h5⟩ := sy_sound b h
  unfold HCode
  cases so with
  | exit id tm' sto' => exact ⟨_, .loopX h4, _, rfl, h5⟩
  | ret tm' sto' => exact ⟨_, .loopR h4, _, rfl, h5⟩
  | norm tm' sto' =>
    simp only [roundK] at h5
    unfold HCode at h5
    obtain ⟨o, h6, h7⟩ := h5
    exact ⟨o, .loopN h4 h6, h7⟩

theorem giveK_sound {c : Code} {s : St} : ∀ {gv : List Nat} {tm : List SV} {sto : List SB} {K : List SV → List SB → Prop}, giveK gv tm sto K → Exec X.C (CallF X.C) own m0 c s (.norm (stD tm sto)) →
    ∃ tm1 sto1, Exec X.C (CallF X.C) own m0 c s (.norm (stD tm1 sto1)) ∧ K tm1 sto1 := by
  intro gv
  induction gv with
  | nil => intro tm sto K h hx; exact ⟨tm, sto, hx, h⟩
  | cons i is ih =>
    intro tm sto K h hx
    simp only [giveK, getK_eq] at h
    split at h
    · rename_i b n hb
      have h1 := viewK_sound _ _ h
      obtain ⟨h2, h3⟩ := ifK_iff.1 h1
      simp only [setK_eq] at h3
      refine ih h3 ?_
      have hb' : tm[i]? = some (.v (.bsl b n)) := by
        rw [List.getD_eq_getElem?_getD] at hb
        cases ht : tm[i]? with
        | none => rw [ht] at hb; cases hb
        | some x => rw [ht] at hb; simp at hb; rw [hb]
      have := Exec.giveN (i := i) (b := b) (n := n) hx (by simp only [stD, List.getElem?_map, hb', Option.map_some]; rfl) h2
      have e : (⟨(stD tm sto).tmps.set i (view (stD tm sto).sto 4 (.bsl b n)), (stD tm sto).sto.set b .gone⟩ : St) = stD (tm.set i (.v (view (sto.map SB.den) 4 (.bsl b n)))) (sto.set b .gone) := by
        simp [stD, List.map_set, SV.den, SB.den]
      rw [e] at this
      exact this
    · exact ih h hx
theorem join_rule {α : Type} (gv ks : List Nat) (n : Nat) (L : α → List AVal) (T : α → List SB) (Q : α → Prop) {c : Code} {K : SOut → Prop} (hT : ∀ x, (T x).length = n) (hm : m0 ≤ n)
    (h : Run (joinK gv X own m0 st gr ks n L T Q c tm sto K)) : HCode X own m0 st gr tm sto c K := by
  unfold Run at h
  unfold joinK at h
  obtain ⟨mk, h⟩ := marks2K_sound h
  rw [forgetK_eq] at h
  obtain ⟨hu, h⟩ := ifK_iff.1 h
  obtain ⟨h1, h2⟩ := hgoal h
  obtain ⟨o, h3, so, rfl, h4⟩ := sy_sound c h1
  unfold HCode
  cases so with
  | exit id tm' sto' => exact ⟨_, h3, _, rfl, h4⟩
  | ret tm' sto' => exact ⟨_, h3, _, rfl, h4⟩
  | norm tm0 sto0 =>
    obtain ⟨tm', sto', h3, h4⟩ := giveK_sound h4 h3
    obtain ⟨e1, y, hQ, hf, hs⟩ := meetOut_norm h4
    obtain ⟨g1, g2, g3⟩ := stateK_sound (h2 y hQ)
    have hw := fit_weak (mk := mk) hm (hT y) (by rw [e1]; exact hu) hf g1 hs g2
    rw [e1] at hw
    exact ⟨_, .weakN h3 hw, .norm (sets ks (L y) (forget mk tm)) (T y), rfl, g3⟩
end

/-! Heads. -/
section
variable {rc : Option Bool} {K : Int → Prop}
theorem run {p : Prop} (h : p) : Run p := by unfold Run; exact h
theorem run' {p : Prop} (h : Run p) : p := by unfold Run at h; exact h
theorem ob_in {p q : Prop} (h : Ob rc p) (hk : Run q) : HOb rc p q := by unfold HOb; exact ⟨h, run' hk⟩
theorem harr_in {X : Sx} {t : TypeId} {len : Nat} {ps : List (Nat × AVal)} {K : TypeId → Nat → List (List AVal) → Prop} (e sz : Nat) (rows : List (List AVal)) (h : elemT X.C.P t = some e ∧ sz = szOf X.C.P e ∧ 0 < sz ∧ len * sz ≤ 16777216 ∧ ∀ m, rowsA X.C.P m e len ps = some rows ∧ rows.all (fun r => r.all (solid m)) = true) (hk : Run (K e sz rows)) : HPtrs X t len ps K := by unfold HPtrs; exact ⟨e, sz, rows, h, run' hk⟩
theorem halen_in {X : Sx} {t : TypeId} {K : Prop} (h : (elemT X.C.P t).isSome = true) (hk : Run K) : HALen X [t] K := by unfold HALen; exact ⟨⟨t, rfl, h⟩, run' hk⟩
theorem haidx_in {X : Sx} {t : TypeId} {sz len : Nat} {k : Int} {K : Nat → Prop} (e m : Nat) (h : elemT X.C.P t = some e ∧ sz = szOf X.C.P e ∧ k = (m : Int) ∧ m < len) (hk : Run (K m)) : HAIdx X t sz len k K := by unfold HAIdx; exact ⟨e, m, h, run' hk⟩
theorem mkm_in {X : Sx} {t : TypeId} {p : Prop} (h : (mapT X.C.P t).isSome = true) (hk : Run p) : HMkM X t p := by unfold HMkM; exact ⟨h, run' hk⟩
theorem lookm_in {X : Sx} {t : TypeId} {es : List (AVal × AVal × Nat)} {k v : AVal} {ok : Bool} {K : AVal → Prop} (h : lookE X.C.P t (hushE es) k ok = some v) (hk : Run (K v)) : HLookM X t es k ok K := by unfold HLookM; exact ⟨v, h, run' hk⟩
theorem updm_in {X : Sx} {t : TypeId} {es es' : List (AVal × AVal × Nat)} {clock clock' : Nat} {k v : AVal} {K : List (AVal × AVal × Nat) → Nat → Prop} (h : updE X.C.P t (hushE es) clock k v = some (hushE es', clock')) (hk : Run (K es' clock')) : HUpdM X t es clock k v K := by unfold HUpdM; exact ⟨es', clock', h, run' hk⟩
theorem split {b : Bool} {p q : Prop} (h1 : b = true → Run p) (h2 : b = false → Run q) : HSplit b p q := by unfold HSplit; exact ⟨fun h => run' (h1 h), fun h => run' (h2 h)⟩
theorem split_neg {b : Bool} {p q : Prop} (h1 : b = false → Run p) (h2 : b = true → Run q) : HSplit (!b) p q := by
  cases b with
  | true => exact split (fun h => by cases h) (fun _ => h2 rfl)
  | false => exact split (fun _ => h1 rfl) (fun h => by cases h)
theorem split_nt {b : Bool} {p q : Prop} (h : b = false) (hk : Run p) : HSplit (!b) p q := split_neg (fun _ => hk) (fun h' => by rw [h] at h'; cases h')
theorem split_nf {b : Bool} {p q : Prop} (h : b = true) (hk : Run q) : HSplit (!b) p q := split_neg (fun h' => by rw [h] at h'; cases h') (fun _ => hk)
theorem split_ht {b : Bool} {p q : Prop} (h : b = true) (hk : Run p) : HSplit b p q := split (fun _ => hk) (fun h' => by rw [h] at h'; cases h')
theorem split_hf {b : Bool} {p q : Prop} (h : b = false) (hk : Run q) : HSplit b p q := split (fun h' => by rw [h] at h'; cases h') (fun _ => hk)
theorem split_t {p q : Prop} (h : Run p) : HSplit true p q := split (fun _ => h) (fun h => by cases h)
theorem split_f {p q : Prop} (h : Run q) : HSplit false p q := split (fun h => by cases h) (fun _ => h)
theorem goal_in {α : Type} {p : Prop} {Q q : α → Prop} (h1 : p) (h2 : ∀ x, Q x → Run (q x)) : HGoal p Q q := by unfold HGoal; exact ⟨h1, fun x h => run' (h2 x h)⟩
theorem goal_run {α : Type} {p : Prop} {Q q : α → Prop} (h1 : Run p) (h2 : ∀ x, Q x → Run (q x)) : HGoal p Q q := goal_in (run' h1) h2
theorem un_rfl {u : List SV} {p : Prop} (h : Run p) : HUn u u p := by unfold HUn; exact ⟨rfl, run' h⟩
theorem meet_in {α : Type} {n : Nat} {L : α → List AVal} {T : α → List SB} {Q : α → Prop} {vs : List SV} {sto : List SB} (x : α) (h1 : Q x) (h2 : FitL vs (L x)) (h3 : StoFit sto (T x)) : HMeet n L T Q vs sto := by unfold HMeet; exact ⟨x, h1, h2, h3⟩
theorem fit_eq : ∀ {vs : List SV} {ls : List AVal}, vs = ls.map SV.v → FitL vs ls := by
  intro vs ls h
  subst h
  induction ls with
  | nil => trivial
  | cons l ls ih => exact ⟨.inl rfl, ih⟩
theorem meet_eq {α : Type} {n : Nat} {L : α → List AVal} {T : α → List SB} {Q : α → Prop} {vs : List SV} {sto : List SB} (x : α) (h1 : Q x) (h2 : vs = (L x).map SV.v) (h3 : n ≤ sto.length) (h4 : sto.take n = T x) : HMeet n L T Q vs sto := meet_in x h1 (fit_eq h2) (sto_take h3 h4)
theorem open_in {ops : Array Oper} {il : List (Nat × Lab)} {p : Prop} (h : openOK ops il = true) (hk : Run p) : HOpen ops il p := by unfold HOpen; exact ⟨h, run' hk⟩
theorem ret_eq {v r : AVal} (h : v = r) (hn : noref r = true) : HRet v r := by unfold HRet; exact ⟨h ▸ .refl v, hn⟩
theorem ret_le {v r : AVal} (h : PLe v r) (hn : noref r = true) : HRet v r := by unfold HRet; exact ⟨h, hn⟩

theorem pick_or {t b y : Bool} {K : AVal → Prop} (h : Ob rc (t = false → b = true)) (hk : Run (K (.bool (t || y)))) : HPick rc t (.v (.bool true)) (.g b (.bool y)) K := by
  unfold HPick
  refine ⟨_, ob_iff.2 fun hw => ?_, run' hk⟩
  cases t with
  | true => rfl
  | false => simp [SV.den, ob_mk h hw rfl]
theorem pick_and {t b y : Bool} {K : AVal → Prop} (h : Ob rc (t = true → b = true)) (hk : Run (K (.bool (t && y)))) : HPick rc t (.g b (.bool y)) (.v (.bool false)) K := by
  unfold HPick
  refine ⟨_, ob_iff.2 fun hw => ?_, run' hk⟩
  cases t with
  | false => rfl
  | true => simp [SV.den, ob_mk h hw rfl]
theorem pick_or0 {t y : Bool} {K : AVal → Prop} (hk : Run (K (.bool (t || y)))) : HPick rc t (.v (.bool true)) (.v (.bool y)) K := by
  unfold HPick
  exact ⟨_, ob_iff.2 fun hw => by cases t <;> rfl, run' hk⟩
theorem pick_and0 {t y : Bool} {K : AVal → Prop} (hk : Run (K (.bool (t && y)))) : HPick rc t (.v (.bool y)) (.v (.bool false)) K := by
  unfold HPick
  exact ⟨_, ob_iff.2 fun hw => by cases t <;> rfl, run' hk⟩
/-- What was left out on one way. -/
theorem pick_skip_or {t : Bool} {K : AVal → Prop} {x : AVal} (h : Ob rc (t = true)) (hk : Run (K x)) : HPick rc t (.v x) (.v .undef) K := by
  unfold HPick
  exact ⟨_, ob_iff.2 fun hw => by rw [ob_mk h hw]; rfl, run' hk⟩
theorem pick_skip_and {t : Bool} {K : AVal → Prop} {x : AVal} (h : Ob rc (t = false)) (hk : Run (K x)) : HPick rc t (.v .undef) (.v x) K := by
  unfold HPick
  exact ⟨_, ob_iff.2 fun hw => by rw [ob_mk h hw]; rfl, run' hk⟩

def kLo : IntKind → Int
  | .i8 => -128
  | .i16 => -32768
  | .i32 => -2147483648
  | .i64 => -9223372036854775808
  | _ => 0
def kHi : IntKind → Int
  | .i8 => 127
  | .i16 => 32767
  | .i32 => 2147483647
  | .i64 => 9223372036854775807
  | .u8 => 255
  | .u16 => 65535
  | .u32 => 4294967295
  | .u64 => 18446744073709551615
theorem wrap_range {k : IntKind} {x : Int} (h : kLo k ≤ x ∧ x ≤ kHi k) : k.wrap x = x := by
  cases k <;> simp only [kLo, kHi] at h <;> simp [IntKind.wrap, IntKind.bits, IntKind.signed] <;> omega
theorem wrap_in {k : IntKind} {e e' : Int} (he : e = e') (h : Ob rc (kLo k ≤ e' ∧ e' ≤ kHi k)) (hk : Run (K e')) : HWrap rc k e K := by
  subst he
  unfold HWrap
  exact ⟨_, ob_iff.2 fun hw => wrap_range (ob_mk h hw), run' hk⟩
theorem wrap_b {k : IntKind} {b : UInt8} (h : Ob none (kLo k ≤ 0 ∧ 255 ≤ kHi k)) (hk : Run (K (b.toNat : Int))) : HWrap rc k (b.toNat : Int) K := by
  unfold HWrap
  have h : kLo k ≤ 0 ∧ 255 ≤ kHi k := h
  exact ⟨_, ob_iff.2 fun hw => wrap_range (by have := b.toNat_lt; omega), run' hk⟩
theorem wrap_u8 {e : Int} (hk : Run (K (e % 256))) : HWrap rc .u8 e K := by
  unfold HWrap
  exact ⟨_, ob_iff.2 fun hw => by simp [IntKind.wrap, IntKind.bits, IntKind.signed], run' hk⟩
theorem wrap_u32 {e : Int} (hk : Run (K (e % 4294967296))) : HWrap rc .u32 e K := by
  unfold HWrap
  exact ⟨_, ob_iff.2 fun hw => by simp [IntKind.wrap, IntKind.bits, IntKind.signed], run' hk⟩
theorem wrap_u64 {e : Int} (hk : Run (K (e % 18446744073709551616))) : HWrap rc .u64 e K := by
  unfold HWrap
  exact ⟨_, ob_iff.2 fun hw => by simp [IntKind.wrap, IntKind.bits, IntKind.signed], run' hk⟩
theorem quo_nn {k : IntKind} {a b e : Int} (he : a / b = e) (h : Ob rc (0 ≤ a ∧ 0 < b ∧ a ≤ kHi k)) (hk : Run (K e)) : HQuo rc k a b K := by
  subst he
  unfold HQuo
  refine ⟨_, ob_iff.2 fun hw => ?_, run' hk⟩
  obtain ⟨h1, h2, h3⟩ := ob_mk h hw
  refine ⟨by omega, ?_⟩
  rw [Int.tdiv_eq_ediv_of_nonneg h1]
  have h4 : 0 ≤ a / b := Int.ediv_nonneg h1 (by omega)
  have h5 : a / b ≤ a := Int.ediv_le_self b h1
  have h6 : kLo k ≤ 0 := by cases k <;> decide
  exact wrap_range ⟨by omega, by omega⟩
theorem rem_nn {a b e : Int} (he : a % b = e) (h : Ob rc (0 ≤ a ∧ 0 < b)) (hk : Run (K e)) : HRem rc a b K := by
  subst he
  unfold HRem
  refine ⟨_, ob_iff.2 fun hw => ?_, run' hk⟩
  obtain ⟨h1, h2⟩ := ob_mk h hw
  exact ⟨by omega, Int.tmod_eq_emod_of_nonneg h1⟩
theorem bits_in {op : BinOp} {k : IntKind} {a b e : Int} (he : bitsA op k a b = e) (hk : Run (K e)) : HBits rc op k a b K := by
  unfold HBits; exact ⟨_, ob_iff.2 fun _ => he, run' hk⟩
theorem shl_in {k : IntKind} {x y e : Int} (he : x * 2 ^ (min y.toNat k.bits) = e) (h : Ob rc (0 ≤ y ∧ kLo k ≤ e ∧ e ≤ kHi k)) (hk : Run (K e)) : HShl rc k x y K := by
  subst he
  unfold HShl
  exact ⟨_, ob_iff.2 fun hw => ⟨(ob_mk h hw).1, wrap_range (ob_mk h hw).2⟩, run' hk⟩
theorem shr_in {k : IntKind} {x y e : Int} (he : x / 2 ^ (min y.toNat k.bits) = e) (h : Ob rc (0 ≤ y)) (hk : Run (K e)) : HShr rc k x y K := by
  subst he
  unfold HShr
  refine ⟨_, ob_iff.2 fun hw => ⟨ob_mk h hw, ?_⟩, run' hk⟩
  exact Int.fdiv_eq_ediv_of_nonneg _ (Int.le_of_lt (Int.pow_pos (by decide)))
end
section
variable {rc : Option Bool}
theorem nat_in {n : Int} {m : Nat} {K : Nat → Prop} (hm : n.toNat = m) (h : Ob rc (0 ≤ n)) (hk : Run (K m)) : HNat rc n K := by
  unfold HNat
  exact ⟨m, ob_iff.2 fun hw => ⟨ob_mk h hw, hm⟩, run' hk⟩
theorem len_in {rows : List (List AVal)} {n : Nat} {K : Nat → Prop} (h : rows.length = n) (hk : Run (K n)) : HLen rows K := by
  unfold HLen; exact ⟨n, h, run' hk⟩
theorem row_map {α : Type} [Inhabited α] {l : List α} {f : α → List AVal} {i : Nat} {K : List AVal → Prop} (h : Ob rc (i < l.length)) (hk : Run (K (f (nth l i)))) : HRow rc (l.map f) i K := by
  unfold nth at hk
  unfold HRow
  refine ⟨_, ob_iff.2 fun hw => ?_, run' hk⟩
  have := ob_mk h hw
  rw [List.getElem?_map, List.getElem?_eq_getElem this, List.getD_eq_getElem?_getD, List.getElem?_eq_getElem this]; rfl
theorem rd_list {n : Nat} {cs : List AVal} {K : List AVal → Prop} (hk : Run (takeK n cs K)) : HRd rc n cs K := by
  unfold HRd
  obtain ⟨h1, h2⟩ := takeK_sound (run' hk)
  exact ⟨_, ob_iff.2 fun _ => ⟨h1, rfl⟩, h2⟩
/-- A table, row by row. -/
@[irreducible] def flatRows {α : Type} (f : α → List AVal) (l : List α) : List AVal := (l.map f).flatten
theorem flatRows_drop {α : Type} {f : α → List AVal} {s : Nat} (hf : ∀ a, (f a).length = s) : ∀ (l : List α) (i : Nat), (flatRows f l).drop (i * s) = flatRows f (l.drop i) := by
  unfold flatRows
  intro l
  induction l with
  | nil => intro i; simp
  | cons a l ih =>
    intro i
    cases i with
    | zero => simp
    | succ i =>
      have e : (i + 1) * s = (f a).length + i * s := by rw [hf, Nat.succ_mul]; omega
      simp only [List.map_cons, List.flatten_cons, List.drop_succ_cons]
      rw [e, List.drop_length_add_append, ih]
theorem arr_flat {α : Type} {f : α → List AVal} {tbl : List α} {s i : Nat} {K : List AVal → Prop} (hf : ∀ a, (f a).length = s) (hk : Run (K (flatRows f (tbl.drop i)))) : HArr (flatRows f tbl) s i K := by
  unfold HArr; exact ⟨_, flatRows_drop hf tbl i, run' hk⟩
theorem arr_list {cs : List AVal} {s i : Nat} {K : List AVal → Prop} (hk : Run (natK (i * s) fun off => dropK off cs K)) : HArr cs s i K := by
  unfold HArr
  have := run' hk
  rw [natK_eq, dropK_eq] at this
  exact ⟨_, rfl, this⟩
theorem rd_flat {α : Type} [Inhabited α] {f : α → List AVal} {tbl : List α} {n i : Nat} {K : List AVal → Prop} (hn : (f (nth tbl i)).length = n) (h : Ob rc (i < tbl.length)) (hk : Run (K (f (nth tbl i)))) : HRd rc n (flatRows f (tbl.drop i)) K := by
  unfold HRd
  refine ⟨_, ob_iff.2 fun hw => ?_, run' hk⟩
  have hlt := ob_mk h hw
  unfold flatRows
  have e : tbl.drop i = nth tbl i :: tbl.drop (i + 1) := by
    unfold nth
    rw [List.getD_eq_getElem?_getD, List.getElem?_eq_getElem hlt]; exact List.drop_eq_getElem_cons hlt
  rw [e]
  simp only [List.map_cons, List.flatten_cons, List.length_append]
  exact ⟨by omega, by rw [← hn]; exact List.take_left⟩
theorem fact_in {p q : Prop} (h : p → Run q) : HFact p q := by unfold HFact; exact fun hp => run' (h hp)
theorem row_byte {l : List UInt8} {i : Nat} {K : List AVal → Prop} (h : Ob rc (i < l.length)) (hk : HFact ((nth l i).toNat < 256) (K (bytesRow (nth l i)))) : HRow rc (l.map bytesRow) i K := by
  unfold HFact at hk
  exact row_map h (run (hk (nth l i).toNat_lt))
theorem row_eq {rows : List (List AVal)} {i : Nat} {r : List AVal} {K : List AVal → Prop} (h : Ob rc (rows[i]? = some r)) (hk : Run (K r)) : HRow rc rows i K := by
  unfold HRow; exact ⟨r, h, run' hk⟩
theorem cut_all {rows : List (List AVal)} {h : Nat} {K : List (List AVal) → Prop} (he : rows.length ≤ h) (hk : Run (K rows)) : HCut rows 0 h K := by
  unfold HCut; exact ⟨rows, by rw [List.take_of_length_le he]; rfl, run' hk⟩
theorem cut_map {α : Type} {l : List α} {f : α → List AVal} {a h : Nat} {K : List (List AVal) → Prop} (hk : Run (K (((l.take h).drop a).map f))) : HCut (l.map f) a h K := by
  unfold HCut; exact ⟨_, by rw [List.map_drop, List.map_take], run' hk⟩
theorem cut_raw {rows : List (List AVal)} {a h : Nat} {K : List (List AVal) → Prop} (hk : Run (K ((rows.take h).drop a))) : HCut rows a h K := by
  unfold HCut; exact ⟨_, rfl, run' hk⟩
theorem set_raw {rows : List (List AVal)} {i : Nat} {r : List AVal} {K : List (List AVal) → Prop} (hk : Run (K (rows.set i r))) : HSetR rows i r K := by
  unfold HSetR; exact ⟨_, rfl, run' hk⟩
theorem cut_drop {α : Type} {l : List α} {f : α → List AVal} {a h : Nat} {K : List (List AVal) → Prop} (he : Ob none (l.length ≤ h)) (hk : Run (K ((l.drop a).map f))) : HCut (l.map f) a h K := by
  unfold HCut; exact ⟨_, by rw [List.take_of_length_le (by rw [List.length_map]; exact he), List.map_drop], run' hk⟩
theorem cuts_end {s : List UInt8} {h : Nat} {K : List UInt8 → Prop} (he : Ob none (s.length ≤ h)) (hk : Run (K s)) : HCutS s 0 h K := by
  unfold HCutS; exact ⟨s, by rw [List.take_of_length_le he]; rfl, run' hk⟩
theorem cuts_drop {s : List UInt8} {a h : Nat} {K : List UInt8 → Prop} (he : Ob none (s.length ≤ h)) (hk : Run (K (s.drop a))) : HCutS s a h K := by
  unfold HCutS; exact ⟨_, by rw [List.take_of_length_le he], run' hk⟩
theorem cuts_take {s : List UInt8} {h : Nat} {K : List UInt8 → Prop} (hk : Run (K (s.take h))) : HCutS s 0 h K := by
  unfold HCutS; exact ⟨_, rfl, run' hk⟩
theorem cuts_raw {s : List UInt8} {a h : Nat} {K : List UInt8 → Prop} (hk : Run (K ((s.take h).drop a))) : HCutS s a h K := by
  unfold HCutS; exact ⟨_, rfl, run' hk⟩
theorem bytes_in {rows : List (List AVal)} {s : List UInt8} {K : List UInt8 → Prop} (h : bytesOfRows rows = some s) (hk : Run (K s)) : HBytes rc rows K := by
  unfold HBytes; exact ⟨s, ob_iff.2 fun _ => h, run' hk⟩
theorem bytesOfRows_bytes (bs : List UInt8) : bytesOfRows (bs.map bytesRow) = some bs := by
  induction bs with
  | nil => rfl
  | cons b bs ih => simp [bytesRow, bytesOfRows] at ih ⊢; exact ih
theorem runesOfRows_runes (l : List Int) : runesOfRows (l.map runeRow) = some l := by
  induction l with
  | nil => rfl
  | cons b bs ih => simp [runeRow, runesOfRows] at ih ⊢; exact ih
theorem bytes_map {s : List UInt8} {K : List UInt8 → Prop} (hk : Run (K s)) : HBytes rc (s.map bytesRow) K := bytes_in (bytesOfRows_bytes s) hk
theorem runes_map {l : List Int} {K : List Int → Prop} (hk : Run (K l)) : HRunes rc (l.map runeRow) K := by
  unfold HRunes; exact ⟨l, ob_iff.2 fun _ => runesOfRows_runes l, run' hk⟩
end
/-! Less is known. -/
def PLs : List AVal → List AVal → Prop
  | [], [] => True
  | x :: xs, y :: ys => PLe x y ∧ PLs xs ys
  | _, _ => False
theorem PLs.get : ∀ {xs ys : List AVal}, PLs xs ys → xs.length = ys.length ∧ ∀ (i : Nat) x y, xs[i]? = some x → ys[i]? = some y → PLe x y := by
  intro xs
  induction xs with
  | nil => intro ys h; cases ys with
    | nil => exact ⟨rfl, fun i x y h => by cases h⟩
    | cons y ys => exact h.elim
  | cons x xs ih => intro ys h; cases ys with
    | nil => exact h.elim
    | cons y ys =>
      obtain ⟨h1, h2⟩ := ih h.2
      refine ⟨by simp [h1], fun i a b ha hb => ?_⟩
      cases i with
      | zero => simp at ha hb; subst ha; subst hb; exact h.1
      | succ i => exact h2 i a b (by simpa using ha) (by simpa using hb)
theorem PLs.list {xs ys : List AVal} (h : PLs xs ys) : PLeL xs ys := h.get
theorem ple_tup {xs ys : List AVal} (h : PLs xs ys) : PLe (.tup xs) (.tup ys) := by
  intro w ok v hv
  obtain ⟨h1, h2⟩ := h.get
  cases hv with
  | tup _ vs h3 h4 =>
    refine .tup _ _ (by omega) fun i y v hy hvv => ?_
    have hlt : i < xs.length := by have := (List.getElem?_eq_some_iff.1 hy).1; omega
    exact h2 i _ y (List.getElem?_eq_getElem hlt) hy w ok v (h4 i _ v (List.getElem?_eq_getElem hlt) hvv)
theorem ple_agg {xs ys : List AVal} (h : PLs xs ys) : PLe (.agg xs) (.agg ys) := by
  intro w ok v hv
  obtain ⟨h1, h2⟩ := h.get
  cases hv with
  | agg _ vs h3 h4 =>
    refine .agg _ _ (by omega) fun i y v hy hvv => ?_
    have hlt : i < xs.length := by have := (List.getElem?_eq_some_iff.1 hy).1; omega
    exact h2 i _ y (List.getElem?_eq_getElem hlt) hy w ok v (h4 i _ v (List.getElem?_eq_getElem hlt) hvv)
/-- A slice of which the capacity is forgotten; one that holds nothing, whatever its elements' size. -/
theorem ple_slc {sz sz' : Nat} {rows rows' : List (List AVal)} {cap cap' : Option Nat} (hs : rows = [] ∨ sz = sz') (hr : rows = rows') (hc : cap' = none ∨ cap = cap') : PLe (.slc sz rows cap) (.slc sz' rows' cap') := by
  intro w ok v hv
  subst hr
  cases hv with
  | slc _ _ _ A c val h1 h2 h3 h4 h5 h6 h7 h8 =>
    have h4' : ∀ k, cap' = some k → c = k := by
      intro k hk
      rcases hc with h | h
      · rw [h] at hk; cases hk
      · exact h4 k (h ▸ hk)
    rcases hs with rfl | rfl
    · exact .slc _ [] _ A c val (fun r hr => by cases hr) (fun r hr => by cases hr) h3 h4' h5 h6 (fun i r j x hi => by cases hi) (fun i r j x hi => by cases hi)
    · exact .slc _ _ _ A c val h1 h2 h3 h4' h5 h6 h7 h8
theorem ple_cap {sz : Nat} {rows : List (List AVal)} {cap : Option Nat} : PLe (.slc sz rows cap) (.slc sz rows none) := ple_slc (.inr rfl) rfl (.inl rfl)
theorem ple_nil {sz sz' : Nat} {cap cap' : Option Nat} (hc : cap' = none ∨ cap = cap') : PLe (.slc sz [] cap) (.slc sz' [] cap') := ple_slc (.inl rfl) rfl hc
theorem ple_eq {x y : AVal} (h : x = y) : PLe x y := h ▸ .refl x

/-! Elements. -/
section
variable {α : Type} [Inhabited α] {l : List α} {i : Nat}
theorem nth_eq (h : i < l.length) : nth l i = l[i] := by unfold nth; rw [List.getD_eq_getElem?_getD, List.getElem?_eq_getElem h]; rfl
theorem nth_some (h : i < l.length) : l[i]? = some (nth l i) := by rw [nth_eq h]; exact List.getElem?_eq_getElem h
theorem nth_of {a : α} (h : l[i]? = some a) : nth l i = a := by unfold nth; rw [List.getD_eq_getElem?_getD, h]; rfl
theorem nth_mem (h : i < l.length) : nth l i ∈ l := by rw [nth_eq h]; exact List.getElem_mem h
theorem take_nth (h : i < l.length) : l.take (i + 1) = l.take i ++ [nth l i] := by rw [List.take_add_one, nth_some h]; rfl
theorem drop_nth (h : i < l.length) : l.drop i = nth l i :: l.drop (i + 1) := by rw [nth_eq h]; exact List.drop_eq_getElem_cons h
theorem nth_append_left {m : List α} (h : i < l.length) : nth (l ++ m) i = nth l i := nth_of (by rw [List.getElem?_append_left h]; exact nth_some h)
theorem nth_map {β : Type} [Inhabited β] {f : β → α} {m : List β} (h : i < m.length) : nth (m.map f) i = f (nth m i) := nth_of (by rw [List.getElem?_map, nth_some h]; rfl)
theorem any_of_nth {p : α → Bool} (hi : i < l.length) (h : p (nth l i) = true) : l.any p = true := List.any_eq_true.2 ⟨_, nth_mem hi, h⟩
theorem any_false_nth {p : α → Bool} (h : ∀ i, i < l.length → p (nth l i) = false) : l.any p = false := by
  rw [List.any_eq_false]
  intro x hx
  obtain ⟨i, hi, rfl⟩ := List.getElem_of_mem hx
  have := h i hi
  rw [nth_eq hi] at this
  rw [this]; decide
theorem all_nth {p : α → Bool} (h : ∀ i, i < l.length → p (nth l i) = true) : l.all p = true := by
  rw [List.all_eq_true]
  intro x hx
  obtain ⟨i, hi, rfl⟩ := List.getElem_of_mem hx
  have := h i hi
  rwa [nth_eq hi] at this
theorem all_false_nth {p : α → Bool} (hi : i < l.length) (h : p (nth l i) = false) : l.all p = false := by
  cases hh : l.all p with
  | false => rfl
  | true => have := List.all_eq_true.1 hh _ (nth_mem hi); rw [h] at this; cases this
end
/-! What the steps rewrite with, in bundles. -/
theorem bsl : (∀ a b : Bool, ((a || b) = true) = (a = true ∨ b = true)) ∧ (∀ a b : Bool, ((a && b) = true) = (a = true ∧ b = true)) ∧ (∀ a b : Bool, ((a || b) = false) = (a = false ∧ b = false)) ∧ (∀ a b : Bool, ((a && b) = false) = (a = true → b = false)) ∧
    (∀ b : Bool, ((!b) = true) = (b = false)) ∧ (∀ b : Bool, ((!b) = false) = (b = true)) ∧ (∀ b : Bool, (!!b) = b) ∧ (∀ (p : Prop) [Decidable p], (decide p = true) = p) ∧ (∀ (p : Prop) [Decidable p], (decide p = false) = ¬ p) ∧
    ((true = false) = False) ∧ ((false = true) = False) ∧ (∀ b : Bool, (true && b) = b) ∧ (∀ b : Bool, (b && true) = b) ∧ (∀ b : Bool, (false || b) = b) ∧ (∀ b : Bool, (b || false) = b) ∧ ((¬ True) = False) ∧ ((¬ False) = True) ∧
    (∀ p : Prop, (p ∧ True) = p) ∧ (∀ p : Prop, (True ∧ p) = p) ∧ (∀ p : Prop, (False ∧ p) = False) ∧ (∀ p : Prop, (p ∧ False) = False) ∧ (∀ p : Prop, (p ∨ True) = True) ∧ (∀ p : Prop, (True ∨ p) = True) ∧ (∀ p : Prop, (p ∨ False) = p) ∧ (∀ p : Prop, (False ∨ p) = p) := by
  refine ⟨?_, ?_, ?_, ?_, ?_, ?_, ?_, ?_, ?_, ?_, ?_, ?_, ?_, ?_, ?_, ?_, ?_, ?_, ?_, ?_, ?_, ?_, ?_, ?_, ?_⟩
  all_goals first | (intro a b; cases a <;> cases b <;> simp; done) | (intro b; cases b <;> simp; done) | (intro p i; simp; done) | (intro p; simp; done) | simp
theorem nml : (∀ a : Int, a + 0 = a) ∧ (∀ a : Int, 0 + a = a) ∧ (∀ a : Int, a - 0 = a) ∧ (∀ a b : Int, a + b - b = a) ∧ (∀ n : Nat, ((n : Int)).toNat = n) ∧ (∀ n : Nat, ((n : Int) + 1).toNat = n + 1) ∧ (∀ a : Nat, 0 + a = a) ∧ (∀ a : Nat, a + 0 = a) ∧ (((0 : Nat) : Int) = 0) ∧
    (∀ (α β : Type) (f : α → β) (l : List α), (l.map f).length = l.length) ∧ (∀ (α : Type) (a : α) (l : List α), (a :: l).length = l.length + 1) ∧ (∀ (α : Type), ([] : List α).length = 0) ∧ (∀ (α : Type) (l m : List α), (l ++ m).length = l.length + m.length) := by
  refine ⟨?_, ?_, ?_, ?_, ?_, ?_, ?_, ?_, ?_, ?_, ?_, ?_, ?_⟩
  all_goals first | (intros; simp; done) | (intros; omega)
theorem ob_side {rc : Option Bool} {p : Prop} (h : Ob rc p) : Ob rc p := h
theorem eq_side {α : Sort u} {a b : α} (h : a = b) : a = b := h
theorem cut_end {rows : List (List AVal)} {h : Nat} {K : List (List AVal) → Prop} (he : Ob none (rows.length ≤ h)) (hk : Run (K rows)) : HCut rows 0 h K := cut_all he hk

/-! A seat's table. -/
def tyAt : List (Option TyI) → Nat → Option TyI
  | [], _ => none
  | x :: _, 0 => x
  | _ :: xs, n + 1 => tyAt xs n
def TyOKs (P : Program) : Nat → List (Option TyI) → Prop
  | _, [] => True
  | k, none :: r => TyOKs P (k + 1) r
  | k, some i :: r => TyOK P k i ∧ TyOKs P (k + 1) r
theorem tyAt_ok {P : Program} : ∀ {l : List (Option TyI)} {k : Nat}, TyOKs P k l → ∀ t i, tyAt l t = some i → TyOK P (k + t) i := by
  intro l
  induction l with
  | nil => intro k _ t i h; cases h
  | cons x xs ih =>
    intro k hk t i h
    cases t with
    | zero =>
      simp only [tyAt] at h
      subst h
      exact hk.1
    | succ t =>
      have := ih (k := k + 1) (by cases x with | none => exact hk | some j => exact hk.2) t i h
      rw [show k + (t + 1) = k + 1 + t by omega]; exact this
theorem tyL_TI {P : Program} {l : List (Option TyI)} (h : TyOKs P 0 l) : ∀ t i, tyAt l t = some i → TyOK P t i := by
  intro t i hi
  have := tyAt_ok h t i hi
  rwa [Nat.zero_add] at this

/-! The rules, found by the goal's head. -/
class Stp (g : Prop) (n : outParam Prop) : Prop where
  imp : n → g
theorem stp {g n : Prop} [i : Stp g n] (h : n) : g := i.imp h
/-- Rules that are tried last. -/
class Stq (g : Prop) (n : outParam Prop) : Prop where
  imp : n → g
theorem stq {g n : Prop} [i : Stq g n] (h : n) : g := i.imp h
/-- A value, brought into a short form. -/
@[irreducible] def Nrm {α : Type} (a : α) (F : α → Prop) : Prop := F a
theorem eqs {α : Sort u} {a b : α} (h : a = b := by first | ((simp only [nml, Int.reduceAdd, Int.reduceSub, Int.reduceMul, Int.reduceNeg, Int.reduceDiv, Int.reduceMod, Int.reducePow, Int.reduceToNat, Nat.reduceAdd, Nat.min_def, Nat.reduceLeDiff, IntKind.bits, if_true, if_false, Int.cast_ofNat_Int]) <;> rfl) | rfl | assumption | omega) : a = b := h
theorem nrm {α : Type} {a e : α} {F : α → Prop} (h : F e) (he : a = e := by exact eqs) : Nrm a F := by subst he; unfold Nrm; exact h
theorem obs {rc : Option Bool} {p : Prop} (h : Ob rc p := by first | with_reducible assumption | exact rfl | (simp only [Ob, kLo, kHi]; first | with_reducible assumption | omega) | (simp only [Ob, kLo, kHi, bsl, nml] <;> (try intros) <;> omega) | (intro h; simp_all; done) | (simp [Ob, *]; done) | (simp [Ob, *]; omega)) : Ob rc p := h
section
variable {X : Sx} {rc : Option Bool} {sto : List SB}
instance {t b y : Bool} {K : AVal → Prop} : Stp (HPick rc t (.v (.bool true)) (.g b (.bool y)) K) (Ob rc (t = false → b = true) ∧ Run (K (.bool (t || y)))) := ⟨fun h => pick_or h.1 h.2⟩
instance {t b y : Bool} {K : AVal → Prop} : Stp (HPick rc t (.g b (.bool y)) (.v (.bool false)) K) (Ob rc (t = true → b = true) ∧ Run (K (.bool (t && y)))) := ⟨fun h => pick_and h.1 h.2⟩
instance {t y : Bool} {K : AVal → Prop} : Stp (HPick rc t (.v (.bool true)) (.v (.bool y)) K) (Run (K (.bool (t || y)))) := ⟨pick_or0⟩
instance {t y : Bool} {K : AVal → Prop} : Stp (HPick rc t (.v (.bool y)) (.v (.bool false)) K) (Run (K (.bool (t && y)))) := ⟨pick_and0⟩
instance {t : Bool} {K : AVal → Prop} {x : AVal} : Stp (HPick rc t (.v x) (.v .undef) K) (Ob rc (t = true) ∧ Run (K x)) := ⟨fun h => pick_skip_or h.1 h.2⟩
instance {t : Bool} {K : AVal → Prop} {x : AVal} : Stp (HPick rc t (.v .undef) (.v x) K) (Ob rc (t = false) ∧ Run (K x)) := ⟨fun h => pick_skip_and h.1 h.2⟩
instance {p q : Prop} : Stp (HSplit true p q) (Run p) := ⟨split_t⟩
instance {p q : Prop} : Stp (HSplit false p q) (Run q) := ⟨split_f⟩
instance {s : List UInt8} {K : List UInt8 → Prop} : Stp (HBytes rc (s.map bytesRow) K) (Run (K s)) := ⟨bytes_map⟩
instance {l : List Int} {K : List Int → Prop} : Stp (HRunes rc (l.map runeRow) K) (Run (K l)) := ⟨runes_map⟩
instance {p q : Prop} : Stp (HOb rc p q) (Ob rc p ∧ Run q) := ⟨fun h => ob_in h.1 h.2⟩
instance {n : Int} {K : Nat → Prop} : Stp (HNat rc n K) (Ob rc (0 ≤ n) ∧ Nrm n.toNat fun m => Run (K m)) := ⟨fun h => nat_in rfl h.1 (by have := h.2; unfold Nrm at this; exact this)⟩
instance {k : IntKind} {b : UInt8} {K : Int → Prop} : Stp (HWrap rc k (b.toNat : Int) K) (Ob none (kLo k ≤ 0 ∧ 255 ≤ kHi k) ∧ Run (K (b.toNat : Int))) := ⟨fun h => wrap_b h.1 h.2⟩
instance {rows : List (List AVal)} {K : Nat → Prop} : Stp (HLen rows K) (Nrm rows.length fun n => Run (K n)) := ⟨fun h => len_in rfl (by unfold Nrm at h; exact h)⟩
instance (priority := high) {l : List UInt8} {i : Nat} {K : List AVal → Prop} : Stp (HRow rc (l.map bytesRow) i K) (Ob rc (i < l.length) ∧ HFact ((nth l i).toNat < 256) (K (bytesRow (nth l i)))) := ⟨fun h => row_byte h.1 h.2⟩
instance {α : Type} [Inhabited α] {l : List α} {f : α → List AVal} {i : Nat} {K : List AVal → Prop} : Stp (HRow rc (l.map f) i K) (Ob rc (i < l.length) ∧ Run (K (f (nth l i)))) := ⟨fun h => row_map h.1 h.2⟩
instance {k : IntKind} {a b : Int} {K : Int → Prop} : Stp (HQuo rc k a b K) (Ob rc (0 ≤ a ∧ 0 < b ∧ a ≤ kHi k) ∧ Nrm (a / b) fun e => Run (K e)) := ⟨fun h => quo_nn rfl h.1 (by have := h.2; unfold Nrm at this; exact this)⟩
instance {a b : Int} {K : Int → Prop} : Stp (HRem rc a b K) (Ob rc (0 ≤ a ∧ 0 < b) ∧ Nrm (a % b) fun e => Run (K e)) := ⟨fun h => rem_nn rfl h.1 (by have := h.2; unfold Nrm at this; exact this)⟩
instance {k : IntKind} {x y : Int} {K : Int → Prop} : Stp (HShr rc k x y K) (Ob rc (0 ≤ y) ∧ Nrm (x / 2 ^ (min y.toNat k.bits)) fun e => Run (K e)) := ⟨fun h => shr_in rfl h.1 (by have := h.2; unfold Nrm at this; exact this)⟩
instance {k : IntKind} {x y : Int} {K : Int → Prop} : Stp (HShl rc k x y K) (Nrm (x * 2 ^ (min y.toNat k.bits)) fun e => Ob rc (0 ≤ y ∧ kLo k ≤ e ∧ e ≤ kHi k) ∧ Run (K e)) := ⟨fun h => by unfold Nrm at h; exact shl_in rfl h.1 h.2⟩
instance (priority := high) {α : Type} [Inhabited α] {f : α → List AVal} {tbl : List α} {n i : Nat} {K : List AVal → Prop} : Stp (HRd rc n (flatRows f (tbl.drop i)) K) ((f (nth tbl i)).length = n ∧ Ob rc (i < tbl.length) ∧ Run (K (f (nth tbl i)))) := ⟨fun h => rd_flat h.1 h.2.1 h.2.2⟩
instance {n : Nat} {cs : List AVal} {K : List AVal → Prop} : Stp (HRd rc n cs K) (Run (takeK n cs K)) := ⟨rd_list⟩
instance (priority := high) {α : Type} {f : α → List AVal} {tbl : List α} {s i : Nat} {K : List AVal → Prop} : Stp (HArr (flatRows f tbl) s i K) ((∀ a, (f a).length = s) ∧ Run (K (flatRows f (tbl.drop i)))) := ⟨fun h => arr_flat h.1 h.2⟩
instance {cs : List AVal} {s i : Nat} {K : List AVal → Prop} : Stp (HArr cs s i K) (Run (natK (i * s) fun off => dropK off cs K)) := ⟨arr_list⟩
instance {g : FuncId} {args : List AVal} {Pre : Prop} {r : AVal} {K : AVal → Prop} [i : Con X g args Pre r] : Stp (HCallP X rc g args K) (noref r = true ∧ Ob rc Pre ∧ Run (K r)) := ⟨fun h => callP_con h.1 h.2.1 h.2.2⟩
instance (priority := high) {β : Type} {g : FuncId} {P Q : β → Prop} {N : β} [Whole g] : Stp (HSel g P Q N) (Run (Q N)) := ⟨sel_r⟩
instance {β : Type} {g : FuncId} {P Q : β → Prop} {N : β} : Stp (HSel g P Q N) (Run (P N)) := ⟨sel_l⟩
instance {g : FuncId} {args : List AVal} {K : AVal → List SB → Prop} {c : Code} {rs : List ResultVar} {n : Nat} [i : Inl X g c rs n] : Stp (HCallT X sto g args K) (Run (natK (n - args.length) fun k => fnSK X c rs k args sto K)) := ⟨callT_inl⟩
instance (priority := high) {g : FuncId} {args : List AVal} {K : AVal → List SB → Prop} {c : Code} {rs : List ResultVar} {n : Nat} [i : Inl X g c rs n] : Stp (HCall X sto g args K) (Run (natK (n - args.length) fun k => fnSK X c rs k args sto K)) := ⟨call_inl⟩
instance {g : FuncId} {args : List AVal} {K : AVal → List SB → Prop} : Stp (HCall X sto g args K) (Run (eachK (viewK sto 4) args fun vs => ifK (norefL vs) (HCallP X none g vs fun r => (match memless r with | true => K r sto | false => goneK sto (refsSK sto args) (K r))))) := ⟨call_p⟩
instance {e : Int} {K : Int → Prop} : Stq (HWrap rc .u8 e K) (Run (K (e % 256))) := ⟨wrap_u8⟩
instance {e : Int} {K : Int → Prop} : Stq (HWrap rc .u32 e K) (Run (K (e % 4294967296))) := ⟨wrap_u32⟩
instance {e : Int} {K : Int → Prop} : Stq (HWrap rc .u64 e K) (Run (K (e % 18446744073709551616))) := ⟨wrap_u64⟩
instance {α : Type} {l : List α} {f : α → List AVal} {a h : Nat} {K : List (List AVal) → Prop} : Stq (HCut (l.map f) a h K) (Run (K (((l.take h).drop a).map f))) := ⟨cut_map⟩
instance (priority := high) {s : List UInt8} {h : Nat} {K : List UInt8 → Prop} : Stq (HCutS s 0 h K) (Run (K (s.take h))) := ⟨cuts_take⟩
instance {s : List UInt8} {a h : Nat} {K : List UInt8 → Prop} : Stq (HCutS s a h K) (Run (K ((s.take h).drop a))) := ⟨cuts_raw⟩
end

/-! Rules with their side conditions. -/
theorem snt {b : Bool} {p q : Prop} (hk : Run p) (h : b = false := by assumption) : HSplit (!b) p q := split_nt h hk
theorem snf {b : Bool} {p q : Prop} (hk : Run q) (h : b = true := by assumption) : HSplit (!b) p q := split_nf h hk
theorem sht {b : Bool} {p q : Prop} (hk : Run p) (h : b = true := by assumption) : HSplit b p q := split_ht h hk
theorem shf {b : Bool} {p q : Prop} (hk : Run q) (h : b = false := by assumption) : HSplit b p q := split_hf h hk
theorem btf {p : Prop} {b : Bool} (h : b = true) (h' : b = false := by assumption) : p := (bool_tf h h').elim
theorem bft {p : Prop} {b : Bool} (h : b = false) (h' : b = true := by assumption) : p := (bool_ft h h').elim
theorem cte {rows : List (List AVal)} {h : Nat} {K : List (List AVal) → Prop} (hk : Run (K rows)) (he : Ob none (rows.length ≤ h) := by exact obs) : HCut rows 0 h K := cut_end he hk
theorem ctd {α : Type} {l : List α} {f : α → List AVal} {a h : Nat} {K : List (List AVal) → Prop} (hk : Run (K ((l.drop a).map f))) (he : Ob none (l.length ≤ h) := by exact obs) : HCut (l.map f) a h K := cut_drop he hk
theorem cse {s : List UInt8} {h : Nat} {K : List UInt8 → Prop} (hk : Run (K s)) (he : Ob none (s.length ≤ h) := by exact obs) : HCutS s 0 h K := cuts_end he hk
theorem csd {s : List UInt8} {a h : Nat} {K : List UInt8 → Prop} (hk : Run (K (s.drop a))) (he : Ob none (s.length ≤ h) := by exact obs) : HCutS s a h K := cuts_drop he hk
theorem wrp {rc : Option Bool} {k : IntKind} {e e' : Int} {K : Int → Prop} (hk : Run (K e')) (he : e = e' := by exact eqs) (h : Ob rc (kLo k ≤ e' ∧ e' ≤ kHi k) := by exact obs) : HWrap rc k e K := wrap_in he h hk
theorem cps {X : Sx} {b : Bool} {g : FuncId} {args : List AVal} {K : AVal → Prop} (hk : Run (K (.bool false))) (hb : b = false := by first | assumption | (simp only [bsl, *]; done) | (simp [*]; done)) : HCallP X (some b) g args K := callP_skip hb hk
theorem opn {ops : Array Oper} {il : List (Nat × Lab)} {p : Prop} (hk : Run p) (h : openOK ops il = true := by kernel_rfl) : HOpen ops il p := open_in h hk
end Go.Proofs.YtaajfbcopafkaaaGreatDoor.Ai
