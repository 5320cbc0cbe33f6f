/- Symbolic runs: one operation. Symbolic runs: regions, code, functions. Symbolic runs: code, functions, loops. Own work of this seat. -/
import Derived.Test.YtaajfbcopafkaaaGreatDoorAiLf
namespace Go.Proofs.YtaajfbcopafkaaaGreatDoor.Ai
open Go
set_option linter.unusedVariables false
set_option linter.unusedSimpArgs false
set_option linter.unusedSectionVars false

variable {X : Sx} {rc : Option Bool} {tm : List SV} {sto : List SB}

theorem hpick {t : Bool} {x y : SV} {K : AVal → Prop} (h : HPick rc t x y K) : ∃ v, (When rc → (bif t then x.den else y.den) = v) ∧ K v := by
  unfold HPick at h; obtain ⟨v, h1, h2⟩ := h; exact ⟨v, ob_mk h1, h2⟩

def DenOK (X : Sx) (dr : Bool) (rc : Option Bool) (ρ : Operand → AVal) (sto : List SB) (id : Nat) (own : Bool) (op : Op) (K : AVal → List (Nat × SB) → Prop) : Prop :=
  ∃ v ws ws', (When rc → den X.C ρ (sto.map SB.den) id own op = some (v, ws')) ∧ WsRel dr sto ws' ws ∧ K v ws

theorem DenOK.pure {dr : Bool} {ρ : Operand → AVal} {id : Nat} {own : Bool} {op : Op} {K : AVal → List (Nat × SB) → Prop} {v : AVal} (h : When rc → den X.C ρ (sto.map SB.den) id own op = some (v, [])) (hk : K v []) : DenOK X dr rc ρ sto id own op K :=
  ⟨v, [], [], h, wsRel dr sto [], hk⟩
theorem DenOK.wr {dr : Bool} {ρ : Operand → AVal} {id : Nat} {own : Bool} {op : Op} {K : AVal → List (Nat × SB) → Prop} {v : AVal} {ws : List (Nat × SB)} (h : When rc → den X.C ρ (sto.map SB.den) id own op = some (v, wsD ws)) (hk : K v ws) : DenOK X dr rc ρ sto id own op K :=
  ⟨v, ws, _, h, wsRel dr sto ws, hk⟩

theorem fld_sound {t f : Nat} {off ft : Nat} {i : TyI} (hi : X.TI t = some i) (hf : i.flds[f]? = some (off, ft)) : fieldT X.C.P t f = some (off, ft) := (X.ok _ _ hi).flds _ _ hf

theorem goR_length {P : Program} {sto : List Blk} {e : Nat} : ∀ {parts : List (Nat × AVal)} {rows r : List (List AVal)}, goR P sto e rows parts = some r → r.length = rows.length := by
  intro parts
  induction parts with
  | nil => intro rows r h; simp only [goR, Option.some.injEq] at h; rw [h]
  | cons p rest ih =>
    obtain ⟨i, v⟩ := p
    intro rows r h
    simp only [goR] at h
    split at h
    · split at h
      · split at h
        · have := ih h; simpa using this
        · cases h
      · cases h
    · cases h

theorem denK_sound {own : Tmp → Bool} {dr : Bool} {id : Nat} {o : Oper} {K : AVal → List (Nat × SB) → Prop} (h : denK X own dr rc id tm sto o K) : DenOK X dr rc (tmpEval X.C (tm.map SV.den)) sto id (o.dst.elim false own) o.op K := by
  generalize hρ : tmpEval X.C (tm.map SV.den) = ρ
  unfold denK at h
  cases hop : o.op <;> rw [hop] at h <;> simp only at h <;> try exact h.elim
  case move x => obtain ⟨v, h1, h2⟩ := opdK_sound h; rw [hρ] at h1; exact .pure (fun hw => by simp only [den, h1 hw]) h2
  case assign x => obtain ⟨v, h1, h2⟩ := opdK_sound h; rw [hρ] at h1; exact .pure (fun hw => by simp only [den, h1 hw]) h2
  case pick c a b =>
    obtain ⟨v, h1, h2⟩ := opdK_sound h
    cases v <;> simp only at h2 <;> try exact h2.elim
    rename_i t
    obtain ⟨sa, h3, h4⟩ := svK_sound h2
    obtain ⟨sb, h5, h6⟩ := svK_sound h4
    obtain ⟨v, h7, h8⟩ := hpick h6
    rw [hρ] at h1 h3 h5
    refine .pure (fun hw => ?_) h8
    have := h7 hw
    simp only [den, h1 hw, h3, h5]
    cases t <;> simpa using this
  case alloc t =>
    obtain ⟨z, h1, h2⟩ := zeroK_sound h
    exact .wr (fun hw => by simp only [den, h1, Option.map_some]; rfl) h2
  case box t x =>
    obtain ⟨v, h1, h2⟩ := opdK_none h
    rw [cellsK_eq] at h2
    obtain ⟨h3, h4⟩ := solidsK_sound h2
    rw [hρ] at h1
    exact .wr (fun hw => by simp only [den, h1, if_pos h3]; rfl) h4
  case build t parts =>
    obtain ⟨ps, h1, h2⟩ := partsK_sound h
    obtain ⟨h3, h4⟩ := bldK_sound h2
    obtain ⟨z, h5, h6⟩ := zeroK_sound h4
    obtain ⟨cs, h7, h8⟩ := goBK_sound h6
    rw [hρ] at h1
    exact .pure (fun hw => by simp only [den, h1 hw, buildA, if_pos h3, h5, Option.bind_some, h7, Option.map_some]) h8
  case buildSlice t len parts =>
    obtain ⟨ps, h1, h2⟩ := partsK_sound h
    obtain ⟨e, n, h3, rfl, _, h4⟩ := elemK_sound h2
    obtain ⟨z, h5, h6⟩ := zeroK_sound h4
    obtain ⟨h7, h8⟩ := ifK_iff.1 h6
    obtain ⟨h9, h10⟩ := ifK_iff.1 h8
    obtain ⟨h11, h12⟩ := ifK_iff.1 h10
    rw [repK_eq] at h12
    obtain ⟨rows, h13, h14⟩ := goRK_sound rfl h12
    obtain ⟨h15, h16⟩ := ifK_iff.1 h14
    rw [hρ] at h1
    have e7 := lenIs_iff.1 h7
    have e9 : 0 < szOf X.C.P e := by simpa using h9
    have e11 : len * szOf X.C.P e ≤ 16777216 := by simpa using h11
    split at h16
    · rename_i ho
      have hl : rows.length = len := by have := goR_length h13; simpa using this
      exact .wr (fun hw => by simp only [den, h3, h1 hw, rowsA, h5, Option.bind_some, if_pos e7, h13, if_pos e9, if_pos e11, if_pos h15, place, ho, if_true, hl]; rfl) h16
    · rename_i ho
      exact .pure (fun hw => by simp only [den, h3, h1 hw, rowsA, h5, Option.bind_some, if_pos e7, h13, if_pos e9, if_pos e11, if_pos h15, place, ho, Bool.false_eq_true, if_false]) h16
  case load t a =>
    obtain ⟨p, h1, h2⟩ := opdK_sound h
    obtain ⟨ag, n, h3, _, h4⟩ := layK_sound h2
    obtain ⟨cs, h5, h6⟩ := rdK_sound h4
    obtain ⟨v, h7, h8⟩ := mkVK_sound h6
    rw [hρ] at h1
    exact .pure (fun hw => by simp only [den, h3, Option.bind_some, h1 hw, ← cellN_eq, h5 hw, h7, Option.map_some]) h8
  case store t a x =>
    obtain ⟨p, h1, h2⟩ := opdK_none h
    obtain ⟨v, h3, h4⟩ := opdK_none h2
    obtain ⟨ag, n, h5, _, h6⟩ := layK_sound h4
    rw [cellsK_eq] at h6
    obtain ⟨h7, h8⟩ := ifK_iff.1 h6
    obtain ⟨h9, h10⟩ := solidsK_sound h8
    obtain ⟨b, B, h11, h12⟩ := wrK_sound h10
    rw [hρ] at h1 h3
    exact .wr (fun hw => by simp only [den, h5, Option.bind_some, h3, if_pos (lenIs_iff.1 h7), if_pos h9, h1, h11, Option.map_some]; rfl) h12
  case nilCheck x =>
    obtain ⟨v, h1, h2⟩ := opdK_sound h
    rw [hρ] at h1
    cases v <;> simp only at h2 <;> try exact h2.elim
    all_goals exact .pure (fun hw => by simp only [den, h1 hw]) h2
  case binOp op t x y yt =>
    obtain ⟨a, h1, h2⟩ := opdK_sound h
    obtain ⟨b, h3, h4⟩ := opdK_sound h2
    obtain ⟨v, h5, h6⟩ := binK_sound h4
    rw [hρ] at h1 h3
    exact .pure (fun hw => by simp only [den, h1 hw, h3 hw, nil_of_bin (h5 hw), Option.none_or, h5 hw, Option.map_some]) h6
  case unOp op t x =>
    obtain ⟨a, h1, h2⟩ := opdK_sound h
    obtain ⟨v, h5, h6⟩ := unK_sound h2
    rw [hρ] at h1
    exact .pure (fun hw => by simp only [den, h1 hw, h5 hw, Option.map_some]) h6
  case convert src dst x =>
    obtain ⟨a, h1, h2⟩ := opdK_sound h
    rw [hρ] at h1
    have slow : (convK X rc sto (o.dst.elim false own) src dst a fun v => K v []) → DenOK X dr rc ρ sto id (o.dst.elim false own) (.convert src dst x) K := by
      intro h2
      obtain ⟨v, h5, h6⟩ := convK_sound h2
      exact .pure (fun hw => by simp only [den, h1 hw, markA_conv (h5 hw), h5 hw, Option.map_some]) h6
    cases a <;> simp only at h2 <;> try exact slow h2
    rename_i b n
    split at h2
    · rename_i hsd
      have hsd := Nat.eq_of_beq_eq_true hsd
      subst hsd
      unfold markK at h2
      split at h2
      · exact h2.elim
      · rename_i si hs
        split at h2
        · exact h2.elim
        · rename_i e he
          split at h2
          · exact h2.elim
          · rename_i ei hei
            split at h2
            · rename_i hk
              rw [getK_eq] at h2
              split at h2
              · rename_i te sz rows cap hB
                obtain ⟨h5, h6⟩ := hob h2
                have hel : (elemT X.C.P src).bind (intT X.C.P) = some .u8 := by rw [(X.ok _ _ hs).elem, he, Option.bind_some, (X.ok _ _ hei).intk, hk]
                exact .wr (fun hw => by
                  have e1 : markA X.C.P (sto.map SB.den) src src (.bsl b n) = some (.slc sz rows cap, [(b, .gone)]) := by
                    simp only [markA, sden_getD hB (by intro e; cases e), SB.den]
                    rw [if_pos ⟨trivial, hel, h5 hw⟩]
                  simp only [den, h1 hw, e1]; rfl) h6
              · exact h2.elim
            · exact h2.elim
    · exact slow h2
  case makeFunc fn first caps =>
    cases fn <;> simp only at h <;> try exact h.elim
    obtain ⟨a, h1, h2⟩ := opdsK_sound h
    obtain ⟨b, h3, h4⟩ := opdsK_sound h2
    rw [hρ] at h1 h3
    exact .pure (fun hw => by simp only [den, h1 hw, h3 hw]) h4
  case makeSlice t l c =>
    obtain ⟨a, h1, h2⟩ := opdK_none h
    obtain ⟨b, h3, h4⟩ := opdK_none h2
    obtain ⟨v, ws, h5, h6⟩ := makeK_sound h4
    rw [hρ] at h1 h3
    exact .wr (fun hw => by simp only [den, h1, h3, h5]) h6
  case slice t x lo hi mx =>
    obtain ⟨a, h1, h2⟩ := opdK_sound h
    obtain ⟨l, h3, h4⟩ := optK_sound h2
    obtain ⟨u, h5, h6⟩ := optK_sound h4
    obtain ⟨m, h7, h8⟩ := optK_sound h6
    obtain ⟨v, ws, h9, h10⟩ := sliceK_sound h8
    rw [hρ] at h1 h3 h5 h7
    exact .wr (fun hw => by simp only [den, h1 hw, h3 hw, h5 hw, h7 hw, h9 hw]) h10
  case fieldAddr t x f =>
    obtain ⟨a, h1, h2⟩ := opdK_sound h
    rw [hρ] at h1
    split at h2
    · rename_i i hi
      split at h2
      · rename_i off ft hf
        obtain ⟨_, n, _, h3, h4⟩ := layK_sound h2
        obtain ⟨h5, h6⟩ := ifK_iff.1 h4
        obtain ⟨v, h7, h8⟩ := ptrAddK_sound h6
        have e5 : ¬ szOf X.C.P ft = 0 := by rw [h3]; have : 0 < n := by simpa using h5
                                            omega
        exact .pure (fun hw => by simp only [den, fld_sound hi hf, if_neg e5, h1 hw, h7 hw, Option.map_some]) h8
      · exact h2.elim
    · exact h2.elim
  case field t x f =>
    obtain ⟨a, h1, h2⟩ := opdK_sound h
    rw [hρ] at h1
    split at h2
    · rename_i i hi
      split at h2
      · rename_i off ft hf
        obtain ⟨ag, n, h3, _, h4⟩ := layK_sound h2
        cases a <;> simp only [dropK_eq] at h4 <;> try exact h4.elim
        obtain ⟨h5, h6⟩ := takeK_sound h4
        obtain ⟨v, h7, h8⟩ := mkVK_sound h6
        exact .pure (fun hw => by simp only [den, fld_sound hi hf, h1 hw, h3, Option.bind_some, ← cellN_eq, takeN_of h5, h7, Option.map_some]) h8
      · exact h2.elim
    · exact h2.elim
  case indexAddr t x i =>
    obtain ⟨a, h1, h2⟩ := opdK_sound h
    obtain ⟨b, h3, h4⟩ := opdK_sound h2
    rw [hρ] at h1 h3
    cases b <;> simp only at h4 <;> try exact h4.elim
    obtain ⟨v, h5, h6⟩ := idxK_sound h4
    exact .pure (fun hw => by simp only [den, h1 hw, h3 hw, h5 hw, Option.map_some]) h6
  case index t x i =>
    obtain ⟨a, h1, h2⟩ := opdK_sound h
    obtain ⟨b, h3, h4⟩ := opdK_sound h2
    rw [hρ] at h1 h3
    cases b <;> simp only at h4 <;> try exact h4.elim
    obtain ⟨v, h5, h6⟩ := indexK_sound h4
    exact .pure (fun hw => by simp only [den, h1 hw, h3 hw, h5 hw, Option.map_some]) h6
  case range t x =>
    obtain ⟨a, h1, h2⟩ := opdK_none h
    rw [hρ] at h1
    cases a <;> simp only at h2 <;> try exact h2.elim
    split at h2
    · rename_i i hi
      obtain ⟨h3, h4⟩ := ifK_iff.1 h2
      have e : strT X.C.P t = true := by rw [(X.ok _ _ hi).str]; exact h3
      exact .wr (fun hw => by simp only [den, h1, if_pos e]; rfl) h4
    · exact h2.elim
  case next it b =>
    cases b with
    | false => exact h.elim
    | true =>
    obtain ⟨a, h1, h2⟩ := opdK_none h
    rw [hρ] at h1
    split at h2
    · rename_i b
      rw [getK_eq] at h2
      split at h2
      · rename_i s pos hB
        unfold HSplit at h2
        have hs := sden_getD (sto := sto) hB (by intro e; cases e)
        by_cases hp : pos < s.length
        · have h3 := h2.1 (by simpa using hp)
          exact .wr (fun hw => by simp only [den, h1, hs, SB.den, if_pos hp]; rfl) h3
        · have h3 := h2.2 (by simpa using hp)
          exact .pure (fun hw => by simp only [den, h1, hs, SB.den, if_neg hp]) h3
      · exact h2.elim
    · exact h2.elim
  case extract x i =>
    obtain ⟨a, h1, h2⟩ := opdK_sound h
    rw [hρ] at h1
    cases a <;> simp only at h2 <;> try exact h2.elim
    split at h2
    · rename_i v hv
      exact .pure (fun hw => by simp only [den, h1 hw, hv, Option.map_some]) h2
    · exact h2.elim
  case call c =>
    have key : ∀ as, (When rc → c.args.toList.map ρ = as) → ∀ b, c.callee = .builtin b → ∀ r, (When rc → builtinA X.C.P (sto.map SB.den) id b c.argTypes.toList as = some r) → When rc → den X.C ρ (sto.map SB.den) id (o.dst.elim false own) (.call c) = some r := by
      intro as h1 b hb r h2 hw
      simp only [den, hb, h1 hw, h2 hw]
    split at h
    · rename_i hb
      split at h
      · rename_i t ht
        obtain ⟨as, h1, h2⟩ := opdsK_sound h
        rw [hρ] at h1
        split at h2
        · rename_i x
          obtain ⟨v, h3, h4⟩ := lenSK_sound h2
          exact .pure (key _ h1 _ hb _ (fun hw => by simp only [builtinA, ht, h3 hw, Option.map_some])) h4
        · exact h2.elim
      · exact h.elim
    · rename_i hb
      split at h
      · rename_i t ht
        obtain ⟨as, h1, h2⟩ := opdsK_sound h
        rw [hρ] at h1
        split at h2
        · rename_i x
          obtain ⟨v, h3, h4⟩ := capSK_sound h2
          exact .pure (key _ h1 _ hb _ (fun hw => by simp only [builtinA, ht, h3 hw, Option.map_some])) h4
        · exact h2.elim
      · exact h.elim
    · rename_i hb
      split at h
      · rename_i t tx ht
        obtain ⟨as, h1, h2⟩ := opdsK_sound h
        rw [hρ] at h1
        split at h2
        · rename_i s x
          obtain ⟨v, ws, ws', h3, h4, h5⟩ := appendK_sound h2
          exact ⟨v, ws, ws', key _ (fun _ => h1 trivial) _ hb _ (fun hw => by simp only [builtinA, ht]; exact h3), h4, h5⟩
        · exact h2.elim
      · exact h.elim
    · rename_i hb
      obtain ⟨as, h1, h2⟩ := opdsK_sound h
      rw [hρ] at h1
      split at h2
      · rename_i k a k' b
        obtain ⟨h3, h4⟩ := ifK_iff.1 h2
        exact .pure (key _ h1 _ hb _ (fun hw => by simp only [builtinA, minA, if_pos (kEq_iff.1 h3), Option.map_some])) h4
      · exact h2.elim
    · rename_i hb
      obtain ⟨as, h1, h2⟩ := opdsK_sound h
      rw [hρ] at h1
      split at h2
      · rename_i k a k' b
        obtain ⟨h3, h4⟩ := ifK_iff.1 h2
        exact .pure (key _ h1 _ hb _ (fun hw => by simp only [builtinA, maxA, if_pos (kEq_iff.1 h3), Option.map_some])) h4
      · exact h2.elim
    · exact h.elim
end Go.Proofs.YtaajfbcopafkaaaGreatDoor.Ai

namespace Go.Proofs.YtaajfbcopafkaaaGreatDoor.Ai
open Go
set_option linter.unusedVariables false
set_option linter.unusedSimpArgs false
set_option linter.unusedSectionVars false

variable {X : Sx} {own : Tmp → Bool} {ops : Array Oper} {tm : List SV} {sto : List SB}

theorem eval_tmp (tm : List SV) (sto : List Blk) : tmpEval X.C (tm.map SV.den) = St.eval X.C ⟨tm.map SV.den, sto⟩ := tmpEval_eq ⟨tm.map SV.den, sto⟩
theorem putK_sound {d : Option Tmp} {x : SV} {K : List SV → Prop} (h : putK tm d x K) : ∃ tm', tm'.map SV.den = put (tm.map SV.den) d x.den ∧ K tm' := by
  cases d with
  | none => exact ⟨tm, rfl, h⟩
  | some t => simp only [putK, setK_eq] at h; exact ⟨_, by simp only [put, List.map_set], h⟩
theorem put_den {d : Option Tmp} {x y : SV} (h : x.den = y.den) : put (tm.map SV.den) d x.den = put (tm.map SV.den) d y.den := by rw [h]

theorem den_op {o : Oper} {v : AVal} {ws' : List (Nat × Blk)} {ws : List (Nat × SB)} (hg : guardOf ops (tm.map SV.den) o = .run)
    (h1 : den X.C (tmpEval X.C (tm.map SV.den)) (sto.map SB.den) (sto.map SB.den).length (o.dst.elim false own) o.op = some (v, ws')) (h2 : WsRel false sto ws' ws) :
    OpStep X.C (CallF X.C) own ops (sto.map SB.den).length o ⟨tm.map SV.den, sto.map SB.den⟩ ⟨put (tm.map SV.den) o.dst v, wrs (sto.map SB.den) (wsD ws)⟩ := by
  have := OpStep.den (CF := CallF X.C) (s := ⟨tm.map SV.den, sto.map SB.den⟩) hg (by rw [← eval_tmp]; exact h1)
  rcases h2 with rfl | ⟨_, rfl, h3⟩
  · exact this
  · rw [h3]; exact this

theorem hcall {g : FuncId} {args : List AVal} {K : AVal → List SB → Prop} (h : HCall X sto g args K) : ∃ r sto', CallStep (CallF X.C) (sto.map SB.den) g args r (sto'.map SB.den) ∧ K r sto' := by
  unfold HCall at h; exact h
theorem ext_op {o : Oper} {v : AVal} {ws : List (Nat × SB)} (hg : guardOf ops (tm.map SV.den) o = .run)
    (h1 : denx X.C (tmpEval X.C (tm.map SV.den)) (sto.map SB.den) (sto.map SB.den).length o.op = some (v, wsD ws)) :
    OpStep X.C (CallF X.C) own ops (sto.map SB.den).length o ⟨tm.map SV.den, sto.map SB.den⟩ ⟨put (tm.map SV.den) o.dst v, wrs (sto.map SB.den) (wsD ws)⟩ :=
  OpStep.ext (CF := CallF X.C) (s := ⟨tm.map SV.den, sto.map SB.den⟩) hg (by rw [← eval_tmp]; exact h1)
theorem lookE_eq {P : Program} {t : TypeId} {es : List (AVal × AVal × Nat)} {k : AVal} {ok : Bool} {m : List Blk} {b clock : Nat} (hb : m[b]? = some (.map es clock)) : lookX P m t (.mapr b) k ok = lookE P t es k ok := by
  unfold lookX lookE
  simp only [lookM, hb]
  cases mapT P t <;> rfl
theorem updE_eq {P : Program} {t : TypeId} {es es' : List (AVal × AVal × Nat)} {k v : AVal} {m : List Blk} {b clock clock' : Nat} (hb : m[b]? = some (.map es clock)) (h : updE P t es clock k v = some (es', clock')) : updX P m t (.mapr b) k v = some [(b, .map es' clock')] := by
  unfold updE at h
  unfold updX
  cases hm : mapT P t with
  | none => rw [hm] at h; cases h
  | some p =>
    rw [hm] at h
    obtain ⟨kt, e⟩ := p
    simp only at h ⊢
    split at h
    · rename_i hk
      rw [if_pos hk]
      simp only [hb]
      cases hf : findK P kt k es with
      | none => rw [hf] at h; cases h
      | some r =>
        rw [hf] at h
        simp only [Option.map_some, Option.some.injEq] at h ⊢
        cases r with
        | none => simp only [Prod.mk.injEq] at h; rw [← h.1, ← h.2]
        | some q => simp only [Prod.mk.injEq] at h; rw [← h.1, ← h.2]
    · cases h
theorem opK_sound {o : Oper} {K : AVal → List SB → Prop} (hg : guardOf ops (tm.map SV.den) o = .run) (h : opK X own tm sto o K) :
    ∃ v sto', OpStep X.C (CallF X.C) own ops (sto.map SB.den).length o ⟨tm.map SV.den, sto.map SB.den⟩ ⟨put (tm.map SV.den) o.dst v, sto'.map SB.den⟩ ∧ K v sto' := by
  have dn : (lenK sto fun id => denK X own false none id tm sto o fun v ws => wrsK sto ws (K v)) → ∃ v sto', OpStep X.C (CallF X.C) own ops (sto.map SB.den).length o ⟨tm.map SV.den, sto.map SB.den⟩ ⟨put (tm.map SV.den) o.dst v, sto'.map SB.den⟩ ∧ K v sto' := by
    intro h
    rw [lenK_eq] at h
    obtain ⟨v, ws, ws', h1, h2, h3⟩ := denK_sound h
    obtain ⟨s', h4, h5⟩ := wrsK_sound h3
    refine ⟨v, s', ?_, h5⟩
    rw [h4]
    exact den_op hg (by rw [List.length_map]; exact h1 trivial) h2
  unfold opK at h
  cases hop : o.op <;> rw [hop] at h <;> simp only at h <;> try exact dn h
  case makeMap t r =>
    obtain ⟨hv, h1, h2⟩ := optK_sound h
    have h1 := h1 trivial
    split at h2
    · rename_i hr
      rw [lenK_eq] at h2
      unfold HMkM at h2
      obtain ⟨h3, h4⟩ := h2
      obtain ⟨s', h5, h6⟩ := wrsK_sound h4
      refine ⟨_, s', ?_, h6⟩
      rw [h5]
      refine ext_op (ws := [(sto.length, .map [] 0)]) hg ?_
      rw [hop, List.length_map]
      cases r with
      | none => simp only [denx, if_pos h3]; rfl
      | some x =>
        simp only [Option.map_some] at h1
        subst h1
        simp only [denx]
        split at hr
        · rename_i hq; cases hq
        · rename_i k n hq
          simp only [Option.some.injEq] at hq
          rw [hq]
          simp only [if_pos h3]; rfl
        · cases hr
    · exact h2.elim
  case lookup t m k ok =>
    obtain ⟨mv, h1, h2⟩ := opdK_none h
    obtain ⟨kv, h3, h4⟩ := opdK_none h2
    cases mv <;> simp only at h4 <;> try exact h4.elim
    rename_i b
    rw [getK_eq] at h4
    generalize hB : sto.getD b .gone = B at h4
    cases B <;> simp only at h4 <;> try exact h4.elim
    rename_i es clock
    unfold HLookM at h4
    obtain ⟨v, h5, h6⟩ := h4
    refine ⟨v, sto, ?_, h6⟩
    refine ext_op (ws := []) hg ?_
    rw [hop]
    simp only [denx, h1, h3]
    rw [lookE_eq (es := hushE es) (clock := clock) (sden_getD hB (by intro e; cases e)), h5]; rfl
  case mapUpdate t m k v =>
    obtain ⟨mv, h1, h2⟩ := opdK_none h
    obtain ⟨kv, h3, h4⟩ := opdK_none h2
    obtain ⟨vv, h5, h6⟩ := opdK_none h4
    cases mv <;> simp only at h6 <;> try exact h6.elim
    rename_i b
    rw [getK_eq] at h6
    generalize hB : sto.getD b .gone = B at h6
    cases B <;> simp only at h6 <;> try exact h6.elim
    rename_i es clock
    unfold HUpdM at h6
    obtain ⟨es', clock', h7, h8⟩ := h6
    obtain ⟨s', h9, h10⟩ := wrsK_sound h8
    refine ⟨_, s', ?_, h10⟩
    rw [h9]
    refine ext_op (ws := [(b, .map es' clock')]) hg ?_
    rw [hop]
    simp only [denx, h1, h3, h5]
    rw [updE_eq (es := hushE es) (clock := clock) (sden_getD hB (by intro e; cases e)) h7]; rfl
  case buildSlice t len parts =>
    obtain ⟨vs, h1, h2⟩ := opdsK_sound h
    have h1 := h1 trivial
    split at h2
    · rw [lenK_eq] at h2
      unfold HPtrs at h2
      obtain ⟨e, sz, rows, ⟨h3, rfl, h5, h6, h7⟩, h8⟩ := h2
      obtain ⟨s', h9, h10⟩ := wrsK_sound h8
      refine ⟨_, s', ?_, h10⟩
      rw [h9]
      refine ext_op (ws := [(sto.length, .arr e (szOf X.C.P e) rows)]) hg ?_
      have hz : (parts.toList.map fun p => (p.1, tmpEval X.C (tm.map SV.den) p.2)) = (parts.toList.map (·.1)).zip vs := by
        rw [← h1, List.map_map, List.zip_map']; rfl
      rw [hop, List.length_map]
      simp only [denx, h3, hz, (h7 _).1, Option.bind_some, if_pos h5, if_pos h6, if_pos (h7 (sto.map SB.den)).2]; rfl
    · exact dn h2
  case indexAddr t x i =>
    obtain ⟨xv, h1, h2⟩ := opdK_none h
    cases xv <;> simp only at h2 <;> try exact dn h2
    rename_i b n lo len cap
    obtain ⟨iv, h3, h4⟩ := opdK_none h2
    cases iv <;> simp only at h4 <;> try exact h4.elim
    rename_i k z
    rw [getK_eq] at h4
    generalize hB : sto.getD b .gone = B at h4
    cases B <;> simp only at h4 <;> try exact h4.elim
    rename_i t0 sz rows
    obtain ⟨h5, h6⟩ := hob0 h4
    unfold HAIdx at h6
    obtain ⟨e, m, ⟨h7, rfl, rfl, h8⟩, h9⟩ := h6
    simp only [addK_eq] at h9
    refine ⟨_, sto, ?_, h9⟩
    refine ext_op (ws := []) hg ?_
    rw [hop]
    simp only [denx, h1, h3, idxX, if_pos (Int.natCast_nonneg m), h7, Option.bind_some, sden_getD hB (by intro e; cases e), SB.den, if_pos h5, if_true, Int.toNat_natCast, if_pos h8, Option.map_some]; rfl
  rename_i c
  cases hc : c.callee <;> rw [hc] at h <;> (try simp only at h) <;> try exact dn h
  case builtin bi =>
    cases bi <;> try exact dn h
    obtain ⟨as, h1, h2⟩ := opdsK_sound h
    have h1 := h1 trivial
    split at h2
    · rename_i b n lo len cap
      rw [getK_eq] at h2
      split at h2
      · rename_i m hm
        obtain ⟨h3, h4⟩ := hob0 h2
        subst h3
        unfold HALen at h4
        obtain ⟨⟨t, h5, h6⟩, h7⟩ := h4
        refine ⟨_, sto, ?_, h7⟩
        refine ext_op (ws := []) hg ?_
        rw [hop]
        simp only [denx, hc, h5, h1, builtinX, lenX, if_pos h6, if_pos (sb_cur rfl hm), Option.map_some]; rfl
      · exact h2.elim
    · exact dn h2
  rename_i f
  obtain ⟨fv, h1, h2⟩ := opdK_none h
  cases fv <;> simp only at h2 <;> try exact h2.elim
  rename_i g first caps
  obtain ⟨as, h3, h4⟩ := opdsK_sound h2
  simp only [appK_eq] at h4
  obtain ⟨r, sto', h5, h6⟩ := hcall h4
  refine ⟨r, sto', ?_, h6⟩
  have e := eval_tmp (X := X) tm (sto.map SB.den)
  refine .call (s := ⟨tm.map SV.den, sto.map SB.den⟩) hg hop hc (by rw [← e]; exact h1) ?_
  rw [← e, h3 trivial]
  rw [List.append_assoc]
  exact h5

theorem norefL_iff {xs : List AVal} : norefL xs = true ↔ norefL xs = true := Iff.rfl
theorem opGK_sound {o : Oper} {r : Bool} {K : AVal → Prop} (hg : r = true → guardOf ops (tm.map SV.den) o = .run) (hs : r = false → guardOf ops (tm.map SV.den) o = .skip) (h : opGK X own r tm sto o K) :
    ∃ v, OpStep X.C (CallF X.C) own ops (sto.map SB.den).length o ⟨tm.map SV.den, sto.map SB.den⟩ ⟨put (tm.map SV.den) o.dst (SV.g r v).den, sto.map SB.den⟩ ∧ K v := by
  have dn : (lenK sto fun id => denK X own false (some r) id tm sto o fun v ws => (match ws with | [] => K v | _ => False)) → ∃ v, OpStep X.C (CallF X.C) own ops (sto.map SB.den).length o ⟨tm.map SV.den, sto.map SB.den⟩ ⟨put (tm.map SV.den) o.dst (SV.g r v).den, sto.map SB.den⟩ ∧ K v := by
    intro h
    rw [lenK_eq] at h
    obtain ⟨v, ws, ws', h1, h2, h3⟩ := denK_sound h
    split at h3
    · refine ⟨v, ?_, h3⟩
      cases r with
      | true => exact den_op (ws := []) (hg rfl) (by rw [List.length_map]; exact h1 rfl) h2
      | false => exact .skip (s := ⟨tm.map SV.den, sto.map SB.den⟩) (hs rfl)
    · exact h3.elim
  unfold opGK at h
  cases hop : o.op <;> rw [hop] at h <;> simp only at h <;> try exact dn h
  rename_i c
  cases hc : c.callee <;> rw [hc] at h <;> simp only at h <;> try exact dn h
  rename_i f
  obtain ⟨fv, h1, h2⟩ := opdK_sound h
  cases fv <;> simp only at h2 <;> try exact h2.elim
  rename_i g first caps
  obtain ⟨as, h3, h4⟩ := opdsK_sound h2
  simp only [appK_eq] at h4
  obtain ⟨h5, h6⟩ := ifK_iff.1 (eachK_sound viewK_sound h4)
  unfold HCallP at h6
  obtain ⟨args', u, h7, h8⟩ := h6
  obtain ⟨h9, h10⟩ : (if memless u = true then sto.map SB.den else gones (sto.map SB.den) ((first ++ (as ++ caps)).map (refsOf (sto.map SB.den) 4)).flatten) = sto.map SB.den ∧ K u := by
    split at h8
    · rename_i hm; exact ⟨if_pos hm, h8⟩
    · rename_i hm
      split at h8
      · rename_i hrf
        refine ⟨?_, h8⟩
        rw [if_neg (by rw [hm]; decide)]
        have : ((first ++ (as ++ caps)).map (refsOf (sto.map SB.den) 4)).flatten = [] := hrf
        rw [this]; rfl
      · exact h8.elim
  refine ⟨u, ?_, h10⟩
  cases r with
  | false => exact .skip (s := ⟨tm.map SV.den, sto.map SB.den⟩) (hs rfl)
  | true =>
    obtain ⟨h11, h12, h13⟩ := ob_mk h7 rfl
    have e := eval_tmp (X := X) tm (sto.map SB.den)
    refine .call (s := ⟨tm.map SV.den, sto.map SB.den⟩) (hg rfl) hop hc (by rw [← e]; exact h1 rfl) ?_
    rw [← e, h3 rfl]
    rw [List.append_assoc]
    have := CallStep.pure (CF := CallF X.C) (sto := sto.map SB.den) (args := first ++ (as ++ caps)) _ args' rfl h5 h11 h12 h13
    rw [h9] at this
    exact this

theorem guardK_sound {o : Oper} {j : Nat} {want : Bool} {K : Bool → Prop} (ho : o.guard = some (j, want)) (h : guardK ops tm j want K) :
    ∃ r, (r = true → guardOf ops (tm.map SV.den) o = .run) ∧ (r = false → guardOf ops (tm.map SV.den) o = .skip) ∧ K r := by
  unfold guardK at h
  split at h
  · rename_i p hp
    split at h
    · rename_i d hd
      rw [getK_eq] at h
      have hbind : (ops[j]?).bind (·.dst) = some d := by rw [hp]; exact hd
      have hval : (tm.map SV.den).getD d .dead = (tm.getD d (.v .dead)).den := den_getD
      have g : ∀ b, (tm.getD d (.v .dead)).den = .bool b → guardOf ops (tm.map SV.den) o = if b = want then .run else .skip := by
        intro b hb
        simp only [guardOf, ho, hbind, hval, hb]
      have u : (tm.getD d (.v .dead)).den = .undef → guardOf ops (tm.map SV.den) o = .skip := by
        intro hb
        simp only [guardOf, ho, hbind, hval, hb]
      split at h
      · rename_i x hx
        cases x <;> simp only at h <;> try exact h.elim
        · rename_i b
          have g := g b (by rw [hx]; rfl)
          cases want with
          | true => exact ⟨b, (fun e => by rw [g, e]; rfl), (fun e => by rw [g, e]; rfl), h⟩
          | false =>
            refine ⟨!b, (fun e => ?_), (fun e => ?_), h⟩
            · rw [g]; cases b <;> first | rfl | cases e
            · rw [g]; cases b <;> first | rfl | cases e
        · exact ⟨false, (fun e => by cases e), (fun _ => u (by rw [hx]; rfl)), h⟩
      · rename_i r x hx
        cases x <;> simp only at h <;> try exact h.elim
        · rename_i b
          cases r with
          | false =>
            have u := u (by rw [hx]; rfl)
            cases want with
            | true => exact ⟨false, (fun e => by cases e), (fun _ => u), h⟩
            | false => exact ⟨false, (fun e => by cases e), (fun _ => u), h⟩
          | true =>
            have g := g b (by rw [hx]; rfl)
            cases want with
            | true => exact ⟨b, (fun e => by rw [g, e]; rfl), (fun e => by rw [g, e]; rfl), by simpa using h⟩
            | false =>
              refine ⟨!b, (fun e => ?_), (fun e => ?_), by simpa using h⟩
              · rw [g]; cases b <;> first | rfl | cases e
              · rw [g]; cases b <;> first | rfl | cases e
        · exact ⟨false, (fun e => by cases e), (fun _ => u (by rw [hx]; cases r <;> rfl)), h⟩
    · exact h.elim
  · exact h.elim

theorem hsplit {b : Bool} {p q : Prop} (h : HSplit b p q) : (b = true → p) ∧ (b = false → q) := by unfold HSplit at h; exact h

theorem syOps_sound : ∀ (l : List Oper) {tm : List SV} {sto : List SB} {K : List SV → List SB → Prop}, syOps X own ops l tm sto K →
    ∃ tm' sto', RunU X.C (CallF X.C) own ops l (stD tm sto) (stD tm' sto') ∧ K tm' sto' := by
  intro l
  induction l with
  | nil => intro tm sto K h; exact ⟨tm, sto, .nil _, h⟩
  | cons o l ih =>
    intro tm sto K h
    simp only [syOps] at h
    have run : guardOf ops (tm.map SV.den) o = .run → (opK X own tm sto o fun v sto' => putK tm o.dst (.v v) fun tm' => syOps X own ops l tm' sto' K) →
        ∃ tm' sto', RunU X.C (CallF X.C) own ops (o :: l) (stD tm sto) (stD tm' sto') ∧ K tm' sto' := by
      intro hg h
      obtain ⟨v, sto1, h1, h2⟩ := opK_sound hg h
      obtain ⟨tm1, h3, h4⟩ := putK_sound h2
      obtain ⟨tm', sto', h5, h6⟩ := ih h4
      refine ⟨tm', sto', .cons (s := stD tm sto) h1 ?_, h6⟩
      have : (⟨put (tm.map SV.den) o.dst v, sto1.map SB.den⟩ : St) = stD tm1 sto1 := by simp only [stD, h3]; rfl
      rw [this]; exact h5
    split at h
    · rename_i hg
      exact run (by simp only [guardOf, hg]) h
    · rename_i j want hg
      obtain ⟨r, h1, h2, h3⟩ := guardK_sound hg h
      split at h3
      · obtain ⟨v, h4, h5⟩ := opGK_sound h1 h2 h3
        obtain ⟨tm1, h6, h7⟩ := putK_sound h5
        obtain ⟨tm', sto', h8, h9⟩ := ih h7
        refine ⟨tm', sto', .cons (s := stD tm sto) h4 ?_, h9⟩
        have : (⟨put (tm.map SV.den) o.dst (SV.g r v).den, sto.map SB.den⟩ : St) = stD tm1 sto := by simp only [stD, h6]
        rw [this]; exact h8
      · have h3 := hsplit h3
        cases hr : r with
        | true => exact run (h1 hr) (h3.1 hr)
        | false =>
          obtain ⟨tm1, h6, h7⟩ := putK_sound (h3.2 hr)
          obtain ⟨tm', sto', h8, h9⟩ := ih h7
          refine ⟨tm', sto', .cons (s := stD tm sto) (.skip (h2 hr)) ?_, h9⟩
          have : (⟨put (tm.map SV.den) o.dst .undef, sto.map SB.den⟩ : St) = stD tm1 sto := by simp only [stD, h6]; rfl
          exact this ▸ h8
end Go.Proofs.YtaajfbcopafkaaaGreatDoor.Ai

namespace Go.Proofs.YtaajfbcopafkaaaGreatDoor.Ai
open Go
set_option linter.unusedVariables false
set_option linter.unusedSimpArgs false
set_option linter.unusedSectionVars false

variable {X : Sx} {own : Tmp → Bool} {ops : Array Oper} {tm : List SV} {sto : List SB} {m0 : Nat} {st : List Nat} {gr : List (Nat × Nat × Nat)}

theorem maskSK_sound {rd : List Nat} : ∀ {sto : List SB} {k : Nat} {K : List SB → Prop}, maskSK rd k sto K → ∃ m, m.map SB.den = maskFrom rd k (sto.map SB.den) ∧ K m := by
  intro sto
  induction sto with
  | nil => intro k K h; exact ⟨[], rfl, h⟩
  | cons B bs ih =>
    intro k K h
    simp only [maskSK] at h
    split at h
    · rename_i hc
      obtain ⟨m, h1, h2⟩ := ih h
      exact ⟨_, by simp only [List.map_cons, maskFrom, h1, hc, if_true], h2⟩
    · rename_i hc
      obtain ⟨m, h1, h2⟩ := ih h
      exact ⟨_, by simp only [List.map_cons, maskFrom, h1, hc, Bool.false_eq_true, if_false]; rfl, h2⟩

theorem opDK_sound {o : Oper} {rc : Option Bool} {id : Nat} {rd : List Nat} {K : AVal → List (Nat × SB) → Prop} (h : opDK X own rc id rd tm sto o K) :
    ∃ v ws, (When rc → guardOf ops (tm.map SV.den) o = .run → OpDo X.C (CallF X.C) own ops id o (tm.map SV.den) (mask (sto.map SB.den) rd) v (wsD ws)) ∧ K v ws := by
  unfold opDK at h
  obtain ⟨m, hm, h⟩ := maskSK_sound h
  have hm' : mask (sto.map SB.den) rd = m.map SB.den := hm.symm
  rw [hm']
  have dn : denK X own true rc id tm m o K → ∃ v ws, (When rc → guardOf ops (tm.map SV.den) o = .run → OpDo X.C (CallF X.C) own ops id o (tm.map SV.den) (m.map SB.den) v (wsD ws)) ∧ K v ws := by
    intro h
    obtain ⟨v, ws, ws', h1, h2, h3⟩ := denK_sound h
    refine ⟨v, ws, fun hw hg => ?_, h3⟩
    rcases h2 with rfl | ⟨hd, _⟩
    · exact .den hg (h1 hw)
    · cases hd
  cases hop : o.op <;> rw [hop] at h <;> simp only at h <;> try exact dn h
  rename_i c
  cases hc : c.callee <;> rw [hc] at h <;> simp only at h <;> try exact dn h
  rename_i f
  obtain ⟨fv, h1, h2⟩ := opdK_sound h
  cases fv <;> simp only at h2 <;> try exact h2.elim
  rename_i g first caps
  obtain ⟨as, h3, h4⟩ := opdsK_sound h2
  simp only [appK_eq] at h4
  obtain ⟨h5, h6⟩ := ifK_iff.1 (eachK_sound viewK_sound h4)
  unfold HCallP at h6
  obtain ⟨args', u, h7, h8⟩ := h6
  have call : When rc → guardOf ops (tm.map SV.den) o = .run → OpDo X.C (CallF X.C) own ops id o (tm.map SV.den) (m.map SB.den) u (if memless u = true then [] else (refsSK m (first ++ (as ++ caps))).map fun b => (b, Blk.gone)) := by
    intro hw hg
    obtain ⟨h11, h12, h13⟩ := ob_mk h7 hw
    have := OpDo.call (CF := CallF X.C) (own := own) (id := id) (sto := m.map SB.den) hg hop hc (h1 hw) _ args' rfl (by rw [h3 hw, List.append_assoc]; exact h5) (by rw [h3 hw, List.append_assoc]; exact h11) h12 h13
    rw [h3 hw, List.append_assoc] at this
    exact this
  split at h8
  · rename_i hml
    refine ⟨u, [], fun hw hg => ?_, h8⟩
    have := call hw hg
    rw [if_pos hml] at this
    exact this
  · rename_i hml
    split at h8
    · refine ⟨u, _, fun hw hg => ?_, h8⟩
      have := call hw hg
      rw [if_neg (by rw [hml]; decide)] at this
      have e : wsD ((refsSK m (first ++ (as ++ caps))).map fun b => (b, SB.gone)) = (refsSK m (first ++ (as ++ caps))).map fun b => (b, Blk.gone) := by
        simp only [wsD, List.map_map]; rfl
      rw [e]; exact this
    · split at h8
      · rename_i hrf
        refine ⟨u, [], fun hw hg => ?_, h8⟩
        have := call hw hg
        rw [if_neg (by rw [hml]; decide), hrf] at this
        exact this
      · exact h8.elim

theorem wholeK_sound {β : Type} {o : Oper} {P : β → Prop} {Q : FuncId → Call → β → Prop} {N : β} (h : wholeK o P Q N) : P N ∨ ∃ c g, o.op = .call c ∧ c.callee = .value (.func g) ∧ Q g c N := by
  unfold wholeK at h
  split at h
  · rename_i c ho
    split at h
    · rename_i f hc
      split at h
      · unfold HSel at h
        rcases h with h | h
        · exact .inl h
        · exact .inr ⟨_, _, ho, hc, h⟩
      · exact .inl h
    · exact .inl h
  · exact .inl h
theorem hopen {il : List (Nat × Lab)} {K : Prop} (h : HOpen ops il K) : openOK ops il = true ∧ K := by unfold HOpen at h; exact h

theorem natsK_eq : ∀ {l : List Nat} {K : List Nat → Prop}, natsK l K = K l := by
  intro l
  induction l with
  | nil => intro K; rfl
  | cons x xs ih => intro K; simp only [natsK, natK_eq, ih]
theorem syOpsD_sound {base : Nat} : ∀ (l : List Oper) {k : Nat} {il : List (Nat × Lab)} {tm : List SV} {sto : List SB} {K : List (Nat × Lab) → List SV → List SB → Prop}, ops.toList.drop k = l → syOpsD X own ops base k l il tm sto K →
    ∃ il' tm' sto', RunD X.C (CallF X.C) own ops base il' (stD tm sto) (stD tm' sto') ∧ il'.map (·.1) = List.range' k l.length ∧ K (il ++ il') tm' sto' := by
  intro l
  induction l with
  | nil => intro k il tm sto K _ h; exact ⟨[], tm, sto, .nil _, rfl, by rw [List.append_nil]; exact h⟩
  | cons o l ih =>
    intro k il tm sto K hl h
    have hk : ops[k]? = some o := by
      have : (ops.toList.drop k)[0]? = some o := by rw [hl]; rfl
      rw [List.getElem?_drop, Nat.add_zero, Array.getElem?_toList] at this
      exact this
    have hl' : ops.toList.drop (k + 1) = l := by
      have : (ops.toList.drop k).drop 1 = l := by rw [hl]; rfl
      rwa [List.drop_drop] at this
    simp only [syOpsD, stepD, natK_eq, natsK_eq] at h
    have run : guardOf ops (tm.map SV.den) o = .run → (opDK X own none (idD ops base k o) (rdsD X tm sto o) tm sto o fun v ws => ifK (ws.all fun p => Nat.blt p.1 sto.length) (putK tm o.dst (.v v) fun tm' => wrsK sto ws fun sto' => syOpsD X own ops base (k + 1) l (il ++ [(k, ⟨rdsD X tm sto o, ws.map (·.1), none, false⟩)]) tm' sto' K)) →
        ∃ il' tm' sto', RunD X.C (CallF X.C) own ops base il' (stD tm sto) (stD tm' sto') ∧ il'.map (·.1) = List.range' k (l.length + 1) ∧ K (il ++ il') tm' sto' := by
      intro hg h
      obtain ⟨v, ws, h1, h2⟩ := opDK_sound (ops := ops) h
      obtain ⟨h3, h4⟩ := ifK_iff.1 h2
      obtain ⟨tm1, h5, h6⟩ := putK_sound h4
      obtain ⟨sto1, h7, h8⟩ := wrsK_sound h6
      obtain ⟨il', tm', sto', h9, h10, h11⟩ := ih hl' h8
      refine ⟨(k, ⟨rdsD X tm sto o, ws.map (·.1), none, false⟩) :: il', tm', sto', ?_, by simp [h10, List.range'_succ], by simpa using h11⟩
      have := OpLab.mk (s := stD tm sto) (l := ⟨rdsD X tm sto o, ws.map (·.1), none, false⟩) (h1 trivial hg) (by simp [wsD]) (by
        rw [List.all_eq_true]
        intro b hb
        obtain ⟨p, hp, rfl⟩ := List.mem_map.1 hb
        have := List.all_eq_true.1 h3 p hp
        simpa [stD] using this)
      refine .cons hk (this ⟨rfl, rfl⟩) ?_
      have e : (⟨put (stD tm sto).tmps o.dst v, wrs (stD tm sto).sto (wsD ws)⟩ : St) = stD tm1 sto1 := by simp only [stD, h5, h7]; rfl
      rw [e]; exact h9
    split at h
    · rename_i hg
      rcases wholeK_sound h with h | ⟨c, g, ho, hc, h⟩
      · exact run (by simp only [guardOf, hg]) h
      · obtain ⟨as, h1, h2⟩ := opdsK_sound h
        unfold HCallT at h2
        obtain ⟨u, sto1, h3, h4⟩ := h2
        obtain ⟨h5, h6⟩ := ifK_iff.1 h4
        obtain ⟨tm1, h7, h8⟩ := putK_sound h6
        obtain ⟨il', tm', sto', h9, h10, h11⟩ := ih hl' h8
        refine ⟨(k, ⟨[], [], none, true⟩) :: il', tm', sto', ?_, by simp [h10, List.range'_succ], by simpa using h11⟩
        have := OpLab.tcall (s := stD tm sto) (own := own) (id := idD ops base k o) (l := ⟨[], [], none, true⟩) (CF := CallF X.C) (C := X.C) (ops := ops) (first := []) (caps := []) (g := g) (r := u) (sto1 := sto1.map SB.den) (by simp only [guardOf, hg]) ho hc rfl
          (by simp only [List.nil_append, List.append_nil]; rw [show (stD tm sto).tmps = tm.map SV.den from rfl, h1 trivial]; exact h3) rfl (by simpa [stD] using h5)
        refine .cons hk this ?_
        have e : (⟨put (stD tm sto).tmps o.dst u, sto1.map SB.den⟩ : St) = stD tm1 sto1 := by simp only [stD, h7]; rfl
        rw [e]; exact h9
    · rename_i j want hg
      obtain ⟨r, h1, h2, h3⟩ := guardK_sound hg h
      split at h3
      · obtain ⟨v, ws, h4, h5⟩ := opDK_sound (ops := ops) h3
        split at h5
        · obtain ⟨tm1, h6, h7⟩ := putK_sound h5
          obtain ⟨il', tm', sto', h9, h10, h11⟩ := ih hl' h7
          refine ⟨(k, ⟨rdsD X tm sto o, [], none, false⟩) :: il', tm', sto', ?_, by simp [h10, List.range'_succ], by simpa using h11⟩
          cases r with
          | true =>
            refine .cons hk (.mk (h4 rfl (h1 rfl)) rfl rfl ⟨rfl, rfl⟩) ?_
            have e : (⟨put (stD tm sto).tmps o.dst v, wrs (stD tm sto).sto (wsD [])⟩ : St) = stD tm1 sto := by simp only [stD, h6]; rfl
            rw [e]; exact h9
          | false =>
            refine .cons hk (.mk (.skip (h2 rfl)) rfl rfl ⟨rfl, rfl⟩) ?_
            have e : (⟨put (stD tm sto).tmps o.dst .undef, wrs (stD tm sto).sto []⟩ : St) = stD tm1 sto := by simp only [stD, h6]; rfl
            rw [e]; exact h9
        · exact h5.elim
      · have h3 := hsplit h3
        cases hr : r with
        | true => exact run (h1 hr) (h3.1 hr)
        | false =>
          obtain ⟨tm1, h6, h7⟩ := putK_sound (h3.2 hr)
          obtain ⟨il', tm', sto', h9, h10, h11⟩ := ih hl' h7
          refine ⟨(k, ⟨[], [], none, false⟩) :: il', tm', sto', ?_, by simp [h10, List.range'_succ], by simpa using h11⟩
          refine .cons hk (.mk (.skip (h2 hr)) rfl rfl ⟨rfl, rfl⟩) ?_
          have e : (⟨put (stD tm sto).tmps o.dst .undef, wrs (stD tm sto).sto []⟩ : St) = stD tm1 sto := by simp only [stD, h6]; rfl
          rw [e]; exact h9

theorem grow_one {i t sz z : Nat} {rest : List (Nat × Nat × Nat)} {tm : List SV} {sto : List SB} {K : List SV → List SB → Prop}
    (ih : ∀ {tm : List SV} {sto : List SB} {K : List SV → List SB → Prop}, growK rest tm sto K → ∃ tm' sto', K tm' sto' ∧ ∀ c KK, Vx X.C own m0 c (stD tm' sto') KK → Vx X.C own m0 c (stD tm sto) KK)
    (hz : tm.getD i (.v .dead) = .v (.slc z [] (some 0))) (h : lenK sto fun n => setK tm i (.v (.bsl n 0)) fun tm' => appK sto [.mk t sz []] fun sto' => growK rest tm' sto' K) :
    ∃ tm' sto', K tm' sto' ∧ ∀ c KK, Vx X.C own m0 c (stD tm' sto') KK → Vx X.C own m0 c (stD tm sto) KK := by
  simp only [lenK_eq, setK_eq, appK_eq] at h
  obtain ⟨tm', sto', h1, h2⟩ := ih h
  refine ⟨tm', sto', h1, fun c KK hv => ?_⟩
  obtain ⟨o, h3, h4⟩ := h2 c KK hv
  refine ⟨o, .grow ?_ h3, h4⟩
  have e : (stD tm sto).tmps[i]? = some (.slc z [] (some 0)) := by
    have hz' : tm[i]? = some (.v (.slc z [] (some 0))) := by
      rw [List.getD_eq_getElem?_getD] at hz
      cases ht : tm[i]? with
      | none => rw [ht] at hz; cases hz
      | some x => rw [ht] at hz; simp at hz; rw [hz]
    simp only [stD, List.getElem?_map, hz', Option.map_some]; rfl
  have := Grow.tmp (t := t) (sz := sz) e
  have e2 : (⟨(stD tm sto).tmps.set i (.bsl (stD tm sto).sto.length 0), (stD tm sto).sto ++ [.nbuf t sz]⟩ : St) = stD (tm.set i (.v (.bsl sto.length 0))) (sto ++ [.mk t sz []]) := by
    simp [stD, List.map_set, SV.den, SB.den, mkBuf]
  rw [e2] at this
  exact this

theorem growK_sound : ∀ {gr : List (Nat × Nat × Nat)} {tm : List SV} {sto : List SB} {K : List SV → List SB → Prop}, growK gr tm sto K →
    ∃ tm' sto', K tm' sto' ∧ ∀ c KK, Vx X.C own m0 c (stD tm' sto') KK → Vx X.C own m0 c (stD tm sto) KK := by
  intro gr
  induction gr with
  | nil => intro tm sto K h; exact ⟨tm, sto, h, fun _ _ h => h⟩
  | cons p rest ih =>
    obtain ⟨i, t, sz⟩ := p
    intro tm sto K h
    simp only [growK, getK_eq] at h
    split at h
    · rename_i rows cap hz0
      split at h
      · split at h
        · rename_i hz1
          have hz : tm.getD i (.v .dead) = .v (.slc 0 [] (some 0)) := hz0
          clear hz0
          have z : Nat := 0
          exact grow_one ih hz h
        · exact ih h
      · exact ih h
    · exact ih h

theorem hcode {c : Code} {K : SOut → Prop} (h : HCode X own m0 st gr tm sto c K) : Vx X.C own m0 c (stD tm sto) fun o => ∃ so, SOut.den so = o ∧ K so := by unfold HCode at h; exact h

theorem sy_sound : ∀ (c : Code) {st : List Nat} {tm : List SV} {sto : List SB} {K : SOut → Prop}, sy X own m0 st gr c tm sto K → Vx X.C own m0 c (stD tm sto) fun o => ∃ so, SOut.den so = o ∧ K so := by
  intro c
  induction c with
  | skip => intro st tm sto K h; exact ⟨_, .skip _, _, rfl, h⟩
  | label l => intro st tm sto K h; exact ⟨_, .label _ _, _, rfl, h⟩
  | exit id => intro st tm sto K h; exact ⟨_, .exit _ _, _, rfl, h⟩
  | ret => intro st tm sto K h; exact ⟨_, .ret _, _, rfl, h⟩
  | region id ops d =>
    intro st tm sto K h
    cases d with
    | false =>
      obtain ⟨tm', sto', h1, h2⟩ := syOps_sound _ h
      exact ⟨_, .region h1, _, rfl, h2⟩
    | true =>
      simp only [sy, lenK_eq, natK_eq, repK_eq, appK_eq] at h
      obtain ⟨il, tm', sto', h1, h2, h3⟩ := syOpsD_sound _ rfl h
      obtain ⟨h4, h5⟩ := hopen h3
      refine ⟨_, .regionD ?_ ?_ (by simpa using h4), _, rfl, h5⟩
      · have e : reserve ops (stD tm sto) = stD tm (sto ++ List.replicate (rank ops.toList ops.size) SB.gone) := by simp [reserve, stD, SB.den]
        rw [e]
        have e2 : (stD tm sto).sto.length = sto.length := by simp [stD]
        rw [e2]
        exact h1
      · rw [h2, List.range_eq_range']; simp
  | seq a b iha ihb =>
    intro st tm sto K h
    obtain ⟨o, h1, so, rfl, h2⟩ := iha h
    cases so with
    | norm tm' sto' =>
      obtain ⟨tm1, sto1, h3, h4⟩ := growK_sound (X := X) (own := own) (m0 := m0) h2
      obtain ⟨o2, h5, h6⟩ := h4 _ _ (ihb h3)
      exact ⟨o2, .seqN h1 h5, h6⟩
    | exit id tm' sto' => exact ⟨_, .seqX h1, _, rfl, h2⟩
    | ret tm' sto' => exact ⟨_, .seqR h1, _, rfl, h2⟩
  | cond x a b iha ihb =>
    intro st tm sto K h
    simp only [sy] at h
    have go : (opdK X none tm x fun v => (match v with
      | .bool t => HSplit t (sy X own m0 st gr a tm sto K) (sy X own m0 st gr b tm sto K)
      | _ => False)) → Vx X.C own m0 (.cond x a b) (stD tm sto) fun o => ∃ so, SOut.den so = o ∧ K so := by
      intro h
      obtain ⟨v, h1, h2⟩ := opdK_none h
      cases v <;> simp only at h2 <;> try exact h2.elim
      rename_i t
      have h2 := hsplit h2
      have e := eval_tmp (X := X) tm (sto.map SB.den)
      have hc : (stD tm sto).eval X.C x = .bool t := by
        show St.eval X.C ⟨tm.map SV.den, sto.map SB.den⟩ x = _
        rw [← e]; exact h1
      cases t with
      | true => obtain ⟨o, h3, h4⟩ := iha (h2.1 rfl); exact ⟨o, .cond hc (by simpa using h3), h4⟩
      | false => obtain ⟨o, h3, h4⟩ := ihb (h2.2 rfl); exact ⟨o, .cond hc (by simpa using h3), h4⟩
    split at h
    · exact hcode h
    · exact go h
  | scope b ih => intro st tm sto K h; obtain ⟨o, h1, h2⟩ := ih h; exact ⟨o, .scope h1, h2⟩
  | block id b ih =>
    intro st tm sto K h
    simp only [sy] at h
    split at h
    · exact hcode h
    · obtain ⟨o, h1, so, rfl, h2⟩ := ih h
      cases so with
      | norm tm' sto' => exact ⟨_, .blockN h1, _, rfl, h2⟩
      | ret tm' sto' => exact ⟨_, .blockR h1, _, rfl, h2⟩
      | exit id' tm' sto' =>
        simp only at h2
        split at h2
        · rename_i e
          have e : id' = id := by simpa using e
          subst e
          exact ⟨_, .blockX h1, _, rfl, h2⟩
        · rename_i e
          have e : id' ≠ id := by intro e'; subst e'; simp at e
          exact ⟨_, .blockY e h1, _, rfl, h2⟩
  | _ => intro st tm sto K h; exact hcode h
end Go.Proofs.YtaajfbcopafkaaaGreatDoor.Ai
