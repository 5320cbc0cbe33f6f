/- '==' on structs and arrays of plain cells: cell by cell. Operations that make or write memory. Struct, array and slice literals. append. append, as the abstract store has it. Own work of this seat. -/
import Derived.Test.YtaajfbcopafkaaaGreatDoorAiLa
import Derived.Laws.StructEq
namespace Go.Proofs.YtaajfbcopafkaaaGreatDoor.Ai
open Go
set_option linter.unusedVariables false
set_option linter.unusedSimpArgs false

theorem eqL_length {ks : List LK} : ∀ {cs ds : List AVal} {r : Bool}, eqL ks cs ds = some r → cs.length = ks.length ∧ ds.length = ks.length := by
  induction ks with
  | nil => intro cs ds r h; cases cs <;> cases ds <;> simp [eqL] at h ⊢
  | cons k ks ih =>
    intro cs ds r h
    cases cs with
    | nil => simp [eqL] at h
    | cons c cs =>
      cases ds with
      | nil => simp [eqL] at h
      | cons d ds =>
        simp only [eqL] at h
        cases h2 : eqL ks cs ds with
        | none => rw [h2] at h; cases k <;> cases c <;> cases d <;> simp at h
        | some r2 => have := ih h2; simp; exact this

theorem eqL_append {ks ks' : List LK} : ∀ {cs ds cs' ds' : List AVal}, cs.length = ks.length → ds.length = ks.length →
    eqL (ks ++ ks') (cs ++ cs') (ds ++ ds') = (eqL ks cs ds).bind fun a => (eqL ks' cs' ds').map fun b => a && b := by
  induction ks with
  | nil =>
    intro cs ds cs' ds' h1 h2
    have := List.eq_nil_of_length_eq_zero h1; subst this
    have := List.eq_nil_of_length_eq_zero h2; subst this
    simp [eqL]
  | cons k ks ih =>
    intro cs ds cs' ds' h1 h2
    cases cs with
    | nil => simp at h1
    | cons c cs =>
      cases ds with
      | nil => simp at h2
      | cons d ds =>
        simp only [List.length_cons, Nat.add_right_cancel_iff] at h1 h2
        simp only [List.cons_append, eqL, ih h1 h2]
        cases e1 : eqL ks cs ds with
        | none => cases k <;> cases c <;> cases d <;> simp
        | some r1 =>
          cases e2 : eqL ks' cs' ds' with
          | none => cases k <;> cases c <;> cases d <;> simp <;> (split <;> simp)
          | some r2 =>
            cases k <;> cases c <;> cases d <;> simp [Bool.and_assoc]
            split <;> simp [Bool.and_assoc]

theorem eqL_split {ks ks' : List LK} {cs ds : List AVal} {r : Bool} (h : eqL (ks ++ ks') cs ds = some r) :
    ∃ a b, eqL ks (cs.take ks.length) (ds.take ks.length) = some a ∧ eqL ks' (cs.drop ks.length) (ds.drop ks.length) = some b ∧ r = (a && b) := by
  obtain ⟨h1, h2⟩ := eqL_length h
  simp only [List.length_append] at h1 h2
  have e := eqL_append (ks := ks) (ks' := ks') (cs := cs.take ks.length) (ds := ds.take ks.length) (cs' := cs.drop ks.length) (ds' := ds.drop ks.length) (by simp; omega) (by simp; omega)
  rw [List.take_append_drop, List.take_append_drop, h] at e
  cases h1 : eqL ks (cs.take ks.length) (ds.take ks.length) with
  | none => rw [h1] at e; simp at e
  | some a =>
    cases h2 : eqL ks' (cs.drop ks.length) (ds.drop ks.length) with
    | none => rw [h1, h2] at e; simp at e
    | some b =>
      rw [h1, h2] at e
      simp at e
      exact ⟨a, b, rfl, rfl, e⟩

def toV (g : Bool) (xs : Array Value) : Value := if g = true then .agg xs else xs.getD 0 undef

theorem underlying_info {P : Program} {t : TypeId} {d : TypeDesc} (h : P.underlying t = some d) : ∃ i, P.info? t = some i := by
  cases hi : P.info? t with
  | none => simp [Program.underlying, hi] at h
  | some i => exact ⟨i, rfl⟩

theorem run_part {P : Program} {w : World} {t : TypeId} {d : TypeDesc} {xs : Array Value} {off : Nat} (h : P.underlying t = some d) (h1 : aggD d = false → szOf P t = 1) (hlt : off + szOf P t ≤ xs.size) :
    (part t xs off).run P w = .ok (toV (aggD d) (xs.extract off (off + szOf P t))) w := by
  obtain ⟨i, hi⟩ := underlying_info h
  cases hg : aggD d with
  | true => simp [part, run_isAgg h, hg, run_sizeOf' hi, toV, szOf_info hi]
  | false =>
    have e := h1 hg
    have : off < xs.size := by omega
    have e2 : (xs.extract off (off + 1))[0]?.getD undef = xs[off] := by
      have : (xs.extract off (off + 1))[0]? = some xs[off] := by
        rw [Array.getElem?_extract, if_pos (by omega)]; simp [this]
      rw [this]; rfl
    rw [e]
    simp [part, run_isAgg h, hg, toV, this]
    exact e2.symm

theorem VL.extract {w : World} {E : Env} {cs : List AVal} {xs : Array Value} (h : VL w E cs xs) (off n : Nat) : VL w E ((cs.drop off).take n) (xs.extract off (off + n)) := by
  refine ⟨by have := h.1; simp; omega, fun i x v hx hv => ?_⟩
  rw [List.getElem?_take] at hx
  split at hx
  · rw [List.getElem?_drop] at hx
    rw [Array.getElem?_extract] at hv
    split at hv
    · exact h.2 _ x v hx hv
    · cases hv
  · cases hx

theorem leaves_size {P : Program} {d : Nat} : ∀ {t : TypeId} {ks : List LK} {D : TypeDesc}, leavesT P d t = some ks → P.underlying t = some D → ks.length = szOf P t ∧ (aggD D = false → szOf P t = 1) := by
  induction d with
  | zero => intro t ks D h; simp [leavesT] at h
  | succ d ih =>
    intro t ks D h hu
    unfold leavesT at h
    rw [hu] at h
    cases D <;> simp at h
    case bool => obtain ⟨h, rfl⟩ := h; exact ⟨by simp [h], fun _ => h⟩
    case int => obtain ⟨h, rfl⟩ := h; exact ⟨by simp [h], fun _ => h⟩
    case string => obtain ⟨h, rfl⟩ := h; exact ⟨by simp [h], fun _ => h⟩
    case struct fs =>
      refine ⟨?_, fun h => by cases h⟩
      have key : ∀ (l : List Field) (off : Nat) (ks : List LK), leavesT.go P d (szOf P t) l off = some ks → off + ks.length = szOf P t := by
        intro l
        induction l with
        | nil => intro off ks h; simp [leavesT.go] at h; obtain ⟨h, rfl⟩ := h; simpa using h
        | cons f l ihl =>
          intro off ks h
          simp only [leavesT.go] at h
          split at h
          · cases h
          · split at h
            · cases hf : leavesT P d f.type with
              | none => rw [hf] at h; simp at h
              | some lf =>
                rw [hf] at h
                cases hg : leavesT.go P d (szOf P t) l (off + szOf P f.type) with
                | none => rw [hg] at h; simp at h
                | some lg =>
                  rw [hg] at h; simp at h; subst h
                  have h1 := ihl _ _ hg
                  have hun : ∃ D, P.underlying f.type = some D := by
                    cases d with
                    | zero => simp [leavesT] at hf
                    | succ d =>
                      unfold leavesT at hf
                      cases hu : P.underlying f.type with
                      | none => rw [hu] at hf; simp at hf
                      | some D => exact ⟨D, rfl⟩
                  obtain ⟨D, hD⟩ := hun
                  have h2 := (ih hf hD).1
                  simp; omega
            · cases h
      have := key _ _ _ h.2
      simpa using this
    case array n e =>
      obtain ⟨h1, l, h2, rfl⟩ := h
      refine ⟨?_, fun h => by cases h⟩
      have hun : ∃ D, P.underlying e = some D := by
        cases d with
        | zero => simp [leavesT] at h2
        | succ d =>
          unfold leavesT at h2
          cases hu : P.underlying e with
          | none => rw [hu] at h2; simp at h2
          | some D => exact ⟨D, rfl⟩
      obtain ⟨D, hD⟩ := hun
      simp [h1, (ih h2 hD).1]

theorem leaves_under {P : Program} {d : Nat} {t : TypeId} {ks : List LK} (h : leavesT P d t = some ks) : ∃ D, P.underlying t = some D := by
  cases d with
  | zero => simp [leavesT] at h
  | succ d =>
    unfold leavesT at h
    cases hu : P.underlying t with
    | none => rw [hu] at h; simp at h
    | some D => exact ⟨D, rfl⟩

theorem beq_bytes (a b : ByteArray) : (a == b) = decide (a.data.toList = b.data.toList) := by
  rw [beq_toListBytes, byteArray_toList, byteArray_toList]
  by_cases h : a.data.toList = b.data.toList
  · simp [h]
  · rw [decide_eq_false h]; exact beq_eq_false_iff_ne.2 h

/-- What '==' of two single cells is. -/
theorem eqL_one {w : World} {E : Env} {k : LK} {cs ds : List AVal} {xs ys : Array Value} {r : Bool} (hx : VL w E cs xs) (hy : VL w E ds ys) (h : eqL [k] cs ds = some r) :
    match k with
    | .i => ∃ k a b, xs.getD 0 undef = .int k a ∧ ys.getD 0 undef = .int k b ∧ r = (a == b)
    | .b => ∃ a b : Bool, xs.getD 0 undef = .bool a ∧ ys.getD 0 undef = .bool b ∧ r = (a == b)
    | .s => ∃ a b : ByteArray, xs.getD 0 undef = .string a ∧ ys.getD 0 undef = .string b ∧ r = (a == b) := by
  obtain ⟨hc, hd⟩ := eqL_length h
  obtain ⟨c, rfl⟩ := List.length_eq_one_iff.1 hc
  obtain ⟨d, rfl⟩ := List.length_eq_one_iff.1 hd
  have h1 : 0 < xs.size := by rw [hx.1]; simp
  have h2 : 0 < ys.size := by rw [hy.1]; simp
  have hvx := hx.2 0 c xs[0] rfl (Array.getElem?_eq_getElem h1)
  have hvy := hy.2 0 d ys[0] rfl (Array.getElem?_eq_getElem h2)
  have e1 : xs.getD 0 undef = xs[0] := by simp [Array.getD, h1]
  have e2 : ys.getD 0 undef = ys[0] := by simp [Array.getD, h2]
  rw [e1, e2]
  simp only [eqL] at h
  cases k with
  | b =>
    cases c <;> cases d <;> simp at h
    rename_i a b _
    exact ⟨a, b, hvx.bool_inv, hvy.bool_inv, by rw [← h]; cases a <;> cases b <;> rfl⟩
  | i =>
    cases c <;> cases d <;> simp at h
    rename_i k a k' b _
    obtain ⟨rfl, h'⟩ := h
    exact ⟨k, a, b, hvx.int_inv, hvy.int_inv, by rw [← h']; rfl⟩
  | s =>
    cases c <;> cases d <;> simp at h
    rename_i a b _
    obtain ⟨s, hs, rfl⟩ := hvx.str_inv
    obtain ⟨s', hs', rfl⟩ := hvy.str_inv
    refine ⟨s, s', hs, hs', ?_⟩
    rw [← h]
    exact (beq_bytes s s').symm

theorem eq_run {P : Program} {w : World} {E : Env} (d : Nat) : ∀ (t : TypeId) (T : TypeDesc) (ks : List LK) (D : Nat) (cs ds : List AVal) (xs ys : Array Value) (r : Bool), leavesT P d t = some ks → P.underlying t = some T → d ≤ D →
    VL w E cs xs → VL w E ds ys → eqL ks cs ds = some r → (Op.equalIn D t (toV (aggD T) xs) (toV (aggD T) ys)).run P w = .ok r w := by
  induction d with
  | zero => intro t T ks D cs ds xs ys r h; simp [leavesT] at h
  | succ d ih =>
    intro t T ks D cs ds xs ys r h hu hD hx hy he
    obtain ⟨D, rfl⟩ : ∃ D', D = D' + 1 := ⟨D - 1, by omega⟩
    have hsz := leaves_size h hu
    unfold leavesT at h
    rw [hu] at h
    cases T <;> simp at h
    case bool =>
      obtain ⟨_, rfl⟩ := h
      obtain ⟨a, b, h1, h2, rfl⟩ := eqL_one hx hy he
      rw [show toV (aggD .bool) xs = xs.getD 0 undef from rfl, show toV (aggD .bool) ys = ys.getD 0 undef from rfl, h1, h2]
      simp [Op.equalIn, run_underlying hu]
    case int k0 =>
      obtain ⟨_, rfl⟩ := h
      obtain ⟨k, a, b, h1, h2, rfl⟩ := eqL_one hx hy he
      rw [show toV (aggD (.int k0)) xs = xs.getD 0 undef from rfl, show toV (aggD (.int k0)) ys = ys.getD 0 undef from rfl, h1, h2]
      simp [Op.equalIn, run_underlying hu]
    case string =>
      obtain ⟨_, rfl⟩ := h
      obtain ⟨a, b, h1, h2, rfl⟩ := eqL_one hx hy he
      rw [show toV (aggD .string) xs = xs.getD 0 undef from rfl, show toV (aggD .string) ys = ys.getD 0 undef from rfl, h1, h2]
      simp [Op.equalIn, run_underlying hu]
    case struct fs =>
      obtain ⟨hst, h⟩ := h
      have hxl := hx.1
      have hyl := hy.1
      obtain ⟨hcl, hdl⟩ := eqL_length he
      have key : ∀ (l : List Field) (off : Nat) (ks : List LK) (r : Bool), off ≤ cs.length → leavesT.go P d (szOf P t) l off = some ks → eqL ks (cs.drop off) (ds.drop off) = some r →
          (forIn l ((none, ()) : Option Bool × Unit) fun f __s =>
            if f.name = "_" then (pure (ForInStep.yield (none, ())) : Sem (ForInStep (Option Bool × Unit)))
            else do
              let a ← part f.type xs f.offset
              let b ← part f.type ys f.offset
              let c ← Op.equalIn D f.type a b
              if c = false then pure (ForInStep.done (some false, ())) else pure (ForInStep.yield (none, ()))).run P w =
            .ok (if r = true then (none, ()) else (some false, ())) w := by
        intro l
        induction l with
        | nil =>
          intro off ks r hof h he
          simp [leavesT.go] at h; obtain ⟨h, rfl⟩ := h
          have : cs.drop off = [] := by
            have := (eqL_length he).1; exact List.eq_nil_of_length_eq_zero (by simpa using this)
          have h2 : ds.drop off = [] := by
            have := (eqL_length he).2; exact List.eq_nil_of_length_eq_zero (by simpa using this)
          rw [this, h2] at he
          simp [eqL] at he; subst he
          simp
        | cons f l ihl =>
          intro off ks r hof h he
          simp only [leavesT.go] at h
          split at h
          · cases h
          · rename_i hname
            split at h
            · rename_i hoff
              cases hf : leavesT P d f.type with
              | none => rw [hf] at h; simp at h
              | some lf =>
                rw [hf] at h
                cases hg : leavesT.go P d (szOf P t) l (off + szOf P f.type) with
                | none => rw [hg] at h; simp at h
                | some lg =>
                  rw [hg] at h; simp at h; subst h
                  obtain ⟨F, hF⟩ := leaves_under hf
                  obtain ⟨hfs, hf1⟩ := leaves_size hf hF
                  obtain ⟨a, b, ea, eb, rfl⟩ := eqL_split he
                  rw [hfs] at ea eb
                  rw [List.drop_drop, List.drop_drop] at eb
                  have hlen := (eqL_length he).1
                  have hlen2 := (eqL_length he).2
                  simp at hlen hlen2
                  have p1 := run_part (P := P) (w := w) (xs := xs) (off := f.offset) hF hf1 (by omega)
                  have p2 := run_part (P := P) (w := w) (xs := ys) (off := f.offset) hF hf1 (by omega)
                  have q := ih f.type F lf D _ _ _ _ a hf hF (by omega) (hx.extract f.offset (szOf P f.type)) (hy.extract f.offset (szOf P f.type)) (by rw [hoff]; exact ea)
                  have ihl' := ihl (off + szOf P f.type) lg b (by omega) hg eb
                  simp only [List.forIn_cons, hname, if_false, Sem.run_bind, p1, p2, q, Result.andThen_ok]
                  cases a with
                  | true => simpa using ihl'
                  | false => simp
            · cases h
      have := key fs.toList 0 ks r (Nat.zero_le _) h (by simpa using he)
      simp only [aggD, toV, if_true]
      simp [Op.equalIn, run_underlying hu, hst]
      rw [← Array.forIn_toList]
      rw [this]
      cases r <;> simp
    case array n e =>
      obtain ⟨hsz1, l, hl, rfl⟩ := h
      have hxl := hx.1
      have hyl := hy.1
      obtain ⟨F, hF⟩ := leaves_under hl
      obtain ⟨hfs, hf1⟩ := leaves_size hl hF
      obtain ⟨i, hi⟩ := underlying_info hF
      obtain ⟨hcl, hdl⟩ := eqL_length he
      simp [hfs] at hcl hdl
      have key : ∀ (m k : Nat) (r : Bool), k + m = n → eqL (List.replicate m l).flatten (cs.drop (k * szOf P e)) (ds.drop (k * szOf P e)) = some r →
          (forIn (List.range' k m) ((none, ()) : Option Bool × Unit) fun i __s => (do
              let a ← part e xs (i * szOf P e)
              let b ← part e ys (i * szOf P e)
              let c ← Op.equalIn D e a b
              if c = false then pure (ForInStep.done (some false, ())) else pure (ForInStep.yield (none, ())) : Sem (ForInStep (Option Bool × Unit)))).run P w =
            .ok (if r = true then (none, ()) else (some false, ())) w := by
        intro m
        induction m with
        | zero =>
          intro k r hk he
          have : cs.drop (k * szOf P e) = [] := by
            have := (eqL_length he).1; exact List.eq_nil_of_length_eq_zero (by simpa using this)
          have h2 : ds.drop (k * szOf P e) = [] := by
            have := (eqL_length he).2; exact List.eq_nil_of_length_eq_zero (by simpa using this)
          rw [this, h2] at he
          simp [eqL] at he; subst he
          simp
        | succ m ihm =>
          intro k r hk he
          rw [List.replicate_succ, List.flatten_cons] at he
          obtain ⟨a, b, ea, eb, rfl⟩ := eqL_split he
          have hlen := (eqL_length he).1
          have hlen2 := (eqL_length he).2
          simp [hfs] at hlen hlen2
          rw [hfs] at ea eb
          rw [List.drop_drop, List.drop_drop] at eb
          have hb : k * szOf P e + szOf P e ≤ cs.length := by
            rw [hcl]; calc k * szOf P e + szOf P e = (k + 1) * szOf P e := by rw [Nat.add_mul, Nat.one_mul]
              _ ≤ n * szOf P e := Nat.mul_le_mul_right _ (by omega)
          have p1 := run_part (P := P) (w := w) (xs := xs) (off := k * szOf P e) hF hf1 (by omega)
          have p2 := run_part (P := P) (w := w) (xs := ys) (off := k * szOf P e) hF hf1 (by omega)
          have q := ih e F l D _ _ _ _ a hl hF (by omega) (hx.extract (k * szOf P e) (szOf P e)) (hy.extract (k * szOf P e) (szOf P e)) ea
          have ih' := ihm (k + 1) b (by omega) (by rw [Nat.add_mul, Nat.one_mul]; exact eb)
          simp only [List.range'_succ, List.forIn_cons, Sem.run_bind, p1, p2, q, Result.andThen_ok]
          cases a with
          | true => simpa using ih'
          | false => simp
      have := key n 0 r (by omega) (by simpa using he)
      simp only [aggD, toV, if_true]
      simp [Op.equalIn, run_underlying hu, run_sizeOf' hi, ← szOf_info hi]
      rw [this]
      cases r <;> simp
end Go.Proofs.YtaajfbcopafkaaaGreatDoor.Ai

namespace Go.Proofs.YtaajfbcopafkaaaGreatDoor.Ai
open Go
set_option linter.unusedVariables false
set_option linter.unusedSimpArgs false

theorem push_old {h : Array Obj} {o : Obj} {k : Nat} (hk : k < h.size) : (h.push o)[k]? = h[k]? := by
  rw [Array.getElem?_push, if_neg (by omega)]
theorem push_new {h : Array Obj} {o : Obj} : (h.push o)[h.size]? = some o := by
  rw [Array.getElem?_push, if_pos rfl]

section
variable {C : Ctx} {E : Env} {sto : List Blk} {w w' : World} {id : Nat}

theorem env_set_new {b : Nat} {o : Option Nat} {i cp s : Nat} {d : Option Addr} : (E.set b o i cp s d).ι b = i ∧ (E.set b o i cp s d).cap b = cp ∧ (E.set b o i cp s d).sz b = s ∧ (E.set b o i cp s d).hd b = d ∧ (E.set b o i cp s d).cur b = o ∧ (E.set b o i cp s d).al b := by
  simp [Env.set]

/-- New cells. -/
theorem good_cells (hr : Rel C E sto w) (hid : ¬ E.al id) (hid2 : id ≤ sto.length) {t : TypeId} {cs : List AVal} {vals : Array Value} {r : Result Next} (hv : VL w E cs vals)
    (hos : w'.os = w.os) (htape : w'.tape = w.tape) (hout : w'.output = w.output) (hh : w'.heap = w.heap.push (.cells vals t))
    (h : r = .ok (.value (.pointer (some ⟨w.heap.size, 0, none⟩))) w') : OpGood C E sto w id r (.ptr id 0) [(id, .cells t cs)] := by
  have hs : w.heap.size ≤ w'.heap.size := by rw [hh]; simp
  have hold : ∀ k, k < w.heap.size → w'.heap[k]? = w.heap[k]? := fun k hk => by rw [hh]; exact push_old hk
  have hst := step_upd hr id (.cells t cs) w.heap.size 0 0 none hid2 hos htape hout hs (fun k hk _ => hold k hk) (fun _ => .inr (Nat.le_refl _)) (.inr ⟨hid, hid2⟩)
  have hrel := rel_upd hr id (.cells t cs) w.heap.size 0 0 none hid2 hos htape hout hs (fun k hk _ => hold k hk) (fun _ => .inr (Nat.le_refl _)) (.inr ⟨hid, hid2⟩)
    (.cells t cs vals (by rw [env_set_new.1, hh]; exact push_new) (by rw [env_set_new.1]; exact fun hk => Nat.lt_irrefl _ (hr.okb _ hk)) hv.1
      (fun i x v hx hv' => (hv.2 i x v hx hv').step hr hst))
  refine ⟨_, _, _, _, h, rfl, hrel.1, hrel.2, ?_, fun b hb => ?_⟩
  · have := V.ptr (w := w') (E := E.set id (curB (.cells t cs)) w.heap.size 0 0 none) id 0 (.inl rfl) (by simp [Env.set, curB])
    rw [env_set_new.1] at this
    exact this
  · rcases hb with rfl | hb
    · exact .inr rfl
    · exact .inl hb

/-- A string's iterator. -/
theorem good_iter (hr : Rel C E sto w) (hid : ¬ E.al id) (hid2 : id ≤ sto.length) {s : List UInt8} {sb : ByteArray} (hsb : sb.data.toList = s) {r : Result Next}
    (hos : w'.os = w.os) (htape : w'.tape = w.tape) (hout : w'.output = w.output) (hh : w'.heap = w.heap.push (.stringIter sb 0))
    (h : r = .ok (.value (.pointer (some ⟨w.heap.size, 0, none⟩))) w') : OpGood C E sto w id r (.ptr id 0) [(id, .iter s 0)] := by
  have hs : w.heap.size ≤ w'.heap.size := by rw [hh]; simp
  have hold : ∀ k, k < w.heap.size → w'.heap[k]? = w.heap[k]? := fun k hk => by rw [hh]; exact push_old hk
  have hrel := rel_upd hr id (.iter s 0) w.heap.size 0 0 none hid2 hos htape hout hs (fun k hk _ => hold k hk) (fun _ => .inr (Nat.le_refl _)) (.inr ⟨hid, hid2⟩)
    (.iter s 0 sb hsb (by rw [env_set_new.1, hh]; exact push_new) (by rw [env_set_new.1]; exact fun hk => Nat.lt_irrefl _ (hr.okb _ hk)))
  refine ⟨_, _, _, _, h, rfl, hrel.1, hrel.2, ?_, fun b hb => ?_⟩
  · have := V.ptr (w := w') (E := E.set id (curB (.iter s 0)) w.heap.size 0 0 none) id 0 (.inl rfl) (by simp [Env.set, curB])
    rw [env_set_new.1] at this
    exact this
  · rcases hb with rfl | hb
    · exact .inr rfl
    · exact .inl hb

/-- A buffer in a new block: a new one, or one that has grown. -/
theorem good_buf (hr : Rel C E sto w) {b : Nat} {t : TypeId} {sz : Nat} {rows : List (List AVal)} {cap : Option Nat} {c : Nat} {vals : Array Value} {r : Result Next}
    (hb : b ≤ sto.length) (hid : (¬ E.al b ∧ b = id) ∨ (E.al b ∧ E.sz b = sz ∧ ∃ m, E.cur b = some m ∧ m < rows.length))
    (h0 : 0 < sz) (hs : vals.size = c * sz) (hl : rows.length ≤ c) (hm : c ≤ maxLen) (hcap : ∀ k, cap = some k → c = k) (hsz : ∀ r, r ∈ rows → r.length = sz) (hcell : ∀ r, r ∈ rows → ∀ x, x ∈ r → cellish x = true)
    (hv : ∀ (i : Nat) r (j : Nat) x, rows[i]? = some r → r[j]? = some x → ∃ v, vals[i * sz + j]? = some v ∧ PV w E.ok x v)
    (hos : w'.os = w.os) (htape : w'.tape = w.tape) (hout : w'.output = w.output) (hh : w'.heap = w.heap.push (.cells vals t))
    (h : r = .ok (.value (.slice (some ⟨w.heap.size, 0, none⟩) rows.length c)) w') : OpGood C E sto w id r (.bsl b rows.length) [(b, .buf t sz rows cap)] := by
  have hs' : w.heap.size ≤ w'.heap.size := by rw [hh]; simp
  have hold : ∀ k, k < w.heap.size → w'.heap[k]? = w.heap[k]? := fun k hk => by rw [hh]; exact push_old hk
  have hal : (E.al b ∧ (E.cur b = none → curB (.buf t sz rows cap) = none ∧ w.heap.size = E.ι b) ∧
      (∀ m, E.cur b = some m → ∃ m', curB (.buf t sz rows cap) = some m' ∧ m ≤ m' ∧ sz = E.sz b ∧ (m' = m → w.heap.size = E.ι b ∧ c = E.cap b ∧ some (⟨w.heap.size, 0, none⟩ : Addr) = E.hd b))) ∨ (¬ E.al b ∧ b ≤ sto.length) := by
    rcases hid with ⟨h1, rfl⟩ | ⟨h2, h3, m, hc, hlt⟩
    · exact .inr ⟨h1, hb⟩
    · refine .inl ⟨h2, fun h => by (rw [hc] at h; cases h), fun m' hm' => ?_⟩
      rw [hc] at hm'; cases hm'
      exact ⟨rows.length, rfl, by omega, h3.symm, fun e => by omega⟩
  have hst := step_upd hr b (.buf t sz rows cap) w.heap.size c sz (some ⟨w.heap.size, 0, none⟩) hb hos htape hout hs' (fun k hk _ => hold k hk) (fun _ => .inr (Nat.le_refl _)) hal
  have hrel := rel_upd hr b (.buf t sz rows cap) w.heap.size c sz (some ⟨w.heap.size, 0, none⟩) hb hos htape hout hs' (fun k hk _ => hold k hk) (fun _ => .inr (Nat.le_refl _)) hal
    (.buf t sz rows cap vals (by rw [env_set_new.1, hh]; exact push_new) (by rw [env_set_new.1]; exact fun hk => Nat.lt_irrefl _ (hr.okb _ hk)) (by rw [env_set_new.2.2.1]) (by rw [env_set_new.2.2.2.1, env_set_new.1])
      (by rw [env_set_new.2.1]; exact hs) (by rw [env_set_new.2.1]; exact hl) (by rw [env_set_new.2.1]; exact hm) (by rw [env_set_new.2.1]; exact hcap) h0 hsz hcell
      (fun i r j x hi hj => let ⟨v, h1, h2⟩ := hv i r j x hi hj; ⟨v, h1, h2.mono (fun _ h => h) (Step.okHeap hr hst)⟩))
  refine ⟨_, _, _, _, h, rfl, hrel.1, hrel.2, ?_, fun x hx => ?_⟩
  · refine .bsl _ _ _ (.inl rfl) ?_ ?_
    · intro m hm'; rw [env_set_new.2.2.2.2.1] at hm'; cases hm'; exact Nat.le_refl _
    · intro _; rw [env_set_new.2.2.2.1, env_set_new.2.1]
  · rcases hx with rfl | hx
    · rcases hid with ⟨_, h2⟩ | ⟨h2, _⟩
      · exact .inr h2
      · exact .inl h2
    · exact .inl hx

/-- New memory that is only read. -/
theorem rel_fresh (hr : Rel C E sto w) (hos : w'.os = w.os) (htape : w'.tape = w.tape) (hout : w'.output = w.output) (hs : w.heap.size ≤ w'.heap.size) (hold : ∀ k, k < w.heap.size → w'.heap[k]? = w.heap[k]?) :
    Rel C { E with ok := fun k => E.ok k ∨ (w.heap.size ≤ k ∧ k < w'.heap.size) } sto w' ∧ Step E sto w { E with ok := fun k => E.ok k ∨ (w.heap.size ≤ k ∧ k < w'.heap.size) } sto w' := by
  have hst : Step E sto w { E with ok := fun k => E.ok k ∨ (w.heap.size ≤ k ∧ k < w'.heap.size) } sto w' :=
    ⟨hos, htape, hout, hs, fun _ h => .inl h, fun k hk => hk.elim .inl (fun h => .inr (.inl h.1)), fun k hk _ => hold k hk, fun _ h => h, fun _ h => .inl ⟨h, rfl⟩, fun _ _ h => ⟨h, rfl⟩,
      fun _ m _ h => .inr ⟨m, h, Nat.le_refl _, rfl, fun _ => ⟨rfl, rfl, rfl⟩⟩⟩
  refine ⟨⟨hr.n, hr.al, hr.cur, fun k hk => ?_, hr.inj, fun b B hB => ?_, fun g => glob_step hr hst g⟩, hst⟩
  · rcases hk with h | h
    · exact Nat.lt_of_lt_of_le (hr.okb k h) hs
    · exact h.2
  · have hv : ∀ {x : AVal} {v : Value}, V w E x v → V w' { E with ok := fun k => E.ok k ∨ (w.heap.size ≤ k ∧ k < w'.heap.size) } x v := fun h => h.step hr hst
    have hp : ∀ {x : AVal} {v : Value}, PV w E.ok x v → PV w' (fun k => E.ok k ∨ (w.heap.size ≤ k ∧ k < w'.heap.size)) x v := fun h => h.mono (fun _ h => .inl h) (Step.okHeap hr hst)
    have hn : ∀ k, k < w.heap.size → ¬ E.ok k → ¬ (E.ok k ∨ (w.heap.size ≤ k ∧ k < w'.heap.size)) := fun k hk h h' => h'.elim h (fun h => by omega)
    cases hr.blk b B hB with
    | cells t cs vals h1 h2 h3 h4 =>
      have hlt := (Array.getElem?_eq_some_iff.1 h1).1
      exact .cells t cs vals ((hold _ hlt).trans h1) (hn _ hlt h2) h3 (fun i x v hx hv' => hv (h4 i x v hx hv'))
    | buf t sz rows cap vals h1 h2 h3 hh h4 h5 h6 h7 h8 h9 h10 h11 =>
      have hlt := (Array.getElem?_eq_some_iff.1 h1).1
      exact .buf t sz rows cap vals ((hold _ hlt).trans h1) (hn _ hlt h2) h3 hh h4 h5 h6 h7 h8 h9 h10 (fun i r j x hi hj => let ⟨v, hv1, hv2⟩ := h11 i r j x hi hj; ⟨v, hv1, hp hv2⟩)
    | iter s pos sb hsb h1 h2 =>
      have hlt := (Array.getElem?_eq_some_iff.1 h1).1
      exact .iter s pos sb hsb ((hold _ hlt).trans h1) (hn _ hlt h2)
    | arr t sz rows vals h1 h2 h3 h4 h5 h6 h8 h9 h11 =>
      have hlt := (Array.getElem?_eq_some_iff.1 h1).1
      exact .arr t sz rows vals ((hold _ hlt).trans h1) (hn _ hlt h2) h3 h4 h5 h6 h8 h9 (fun i r j x hi hj => let ⟨v, hv1, hv2, hv3⟩ := h11 i r j x hi hj; ⟨v, hv1, hv2, hv hv3⟩)
    | map es ents clock h1 h2 h3 h4 =>
      have hlt := (Array.getElem?_eq_some_iff.1 h1).1
      exact .map es ents clock ((hold _ hlt).trans h1) (hn _ hlt h2) h3 (fun i p ent hx hv' => ⟨hv (h4 i p ent hx hv').1, hv (h4 i p ent hx hv').2.1, (h4 i p ent hx hv').2.2⟩)
    | miter mv mr s se l h0 h1 h2 =>
      have hlt := (Array.getElem?_eq_some_iff.1 h1).1
      exact .miter mv mr s se l (hv h0) ((hold _ hlt).trans h1) (hn _ hlt h2)
    | nbuf t sz h1 h2 => exact .nbuf t sz h1 h2
    | gone => exact .gone

/-- A new slice that is only read. -/
theorem good_slc' (hr : Rel C E sto w) {sz : Nat} {rows : List (List AVal)} {cap : Option Nat} {c : Nat} {vals : Array Value} {t : TypeId} {fr : Nat × Nat} {r : Result Next}
    (hl : rows.length ≤ c) (hm : c ≤ maxLen) (hcap : ∀ k, cap = some k → c = k) (hsz : ∀ r, r ∈ rows → r.length = sz) (hcell : ∀ r, r ∈ rows → ∀ x, x ∈ r → cellish x = true)
    (hv : ∀ (i : Nat) r (j : Nat) x, rows[i]? = some r → r[j]? = some x → ∃ v, vals[i * sz + j]? = some v ∧ PV w E.ok x v)
    (hos : w'.os = w.os) (htape : w'.tape = w.tape) (hout : w'.output = w.output) (hs' : w.heap.size < w'.heap.size) (hold : ∀ k, k < w.heap.size → w'.heap[k]? = w.heap[k]?) (hnew : w'.heap[w.heap.size]? = some (.cells vals t fr))
    (h : r = .ok (.value (.slice (some ⟨w.heap.size, 0, none⟩) rows.length c)) w') : OpGood C E sto w id r (.slc sz rows cap) [] := by
  obtain ⟨h1, h2⟩ := rel_fresh hr hos htape hout (Nat.le_of_lt hs') hold
  refine ⟨_, _, _, _, h, rfl, h1, h2, .pure ?_, fun _ h => .inl h⟩
  refine .slc sz rows cap _ c (fun i j => vals.getD (i * sz + j) undef) hsz hcell hl hcap (fun h => by cases h) hm (fun i r j x hi hj => ?_) (fun i r j x hi hj => ?_)
  · obtain ⟨v, hv1, hv2⟩ := hv i r j x hi hj
    refine ⟨_, rfl, .inr ⟨Nat.le_refl _, hs'⟩, ?_⟩
    rw [addr_plain]
    simp only [World.cell?, hnew, Option.isSome_none, Bool.false_eq_true, if_false]
    simp [hv1]
  · obtain ⟨v, hv1, hv2⟩ := hv i r j x hi hj
    have : vals.getD (i * sz + j) undef = v := by simp [hv1]
    rw [this]
    exact hv2.mono (fun _ h => .inl h) (Step.okHeap hr h2)

theorem good_slc (hr : Rel C E sto w) {sz : Nat} {rows : List (List AVal)} {cap : Option Nat} {c : Nat} {vals : Array Value} {t : TypeId} {fr : Nat × Nat} {r : Result Next}
    (hl : rows.length ≤ c) (hm : c ≤ maxLen) (hcap : ∀ k, cap = some k → c = k) (hsz : ∀ r, r ∈ rows → r.length = sz) (hcell : ∀ r, r ∈ rows → ∀ x, x ∈ r → cellish x = true)
    (hv : ∀ (i : Nat) r (j : Nat) x, rows[i]? = some r → r[j]? = some x → ∃ v, vals[i * sz + j]? = some v ∧ PV w E.ok x v)
    (hos : w'.os = w.os) (htape : w'.tape = w.tape) (hout : w'.output = w.output) (hh : w'.heap = w.heap.push (.cells vals t fr))
    (h : r = .ok (.value (.slice (some ⟨w.heap.size, 0, none⟩) rows.length c)) w') : OpGood C E sto w id r (.slc sz rows cap) [] :=
  good_slc' hr hl hm hcap hsz hcell hv hos htape hout (by rw [hh]; simp) (fun k hk => by rw [hh]; exact push_old hk) (by rw [hh]; exact push_new) h

/-! Stores. -/
theorem setAt_get {cs vs : List AVal} {off i : Nat} (h : off + vs.length ≤ cs.length) : (setAt cs off vs)[i]? = if off ≤ i ∧ i < off + vs.length then vs[i - off]? else cs[i]? := by
  unfold setAt
  rw [List.getElem?_append, List.getElem?_append]
  simp only [List.length_append, List.length_take, Nat.min_eq_left (show off ≤ cs.length by omega)]
  by_cases h1 : i < off
  · rw [if_pos (by omega), if_pos h1, if_neg (by omega), List.getElem?_take, if_pos h1]
  · by_cases h2 : i < off + vs.length
    · rw [if_pos h2, if_neg h1, if_pos ⟨by omega, h2⟩]
    · rw [if_neg h2, if_neg (fun h => h2 h.2), List.getElem?_drop]
      congr 1; omega

theorem setAt_length {cs vs : List AVal} {off : Nat} (h : off + vs.length ≤ cs.length) : (setAt cs off vs).length = cs.length := by
  unfold setAt; simp; omega

def setArr (cur : Array Value) (off : Nat) (vs : List Value) : Array Value := (cur.toList.take off ++ vs ++ cur.toList.drop (off + vs.length)).toArray

theorem setArr_get {cur : Array Value} {vs : List Value} {off i : Nat} (h : off + vs.length ≤ cur.size) : (setArr cur off vs)[i]? = if off ≤ i ∧ i < off + vs.length then vs[i - off]? else cur[i]? := by
  unfold setArr
  simp only [List.getElem?_toArray]
  rw [List.getElem?_append, List.getElem?_append]
  simp only [List.length_append, List.length_take, Array.length_toList, Nat.min_eq_left (show off ≤ cur.size by omega)]
  by_cases h1 : i < off
  · rw [if_pos (by omega), if_pos h1, if_neg (by omega), List.getElem?_take, if_pos h1, Array.getElem?_toList]
  · by_cases h2 : i < off + vs.length
    · rw [if_pos h2, if_neg h1, if_pos ⟨by omega, h2⟩]
    · rw [if_neg h2, if_neg (fun h => h2 h.2), List.getElem?_drop, Array.getElem?_toList]
      congr 1; omega

theorem setArr_size {cur : Array Value} {vs : List Value} {off : Nat} (h : off + vs.length ≤ cur.size) : (setArr cur off vs).size = cur.size := by
  unfold setArr; simp; omega

theorem pair_lt {i j i' j' sz : Nat} (hi : i < i') (hj : j < sz) : i * sz + j < i' * sz + j' := by
  have : (i + 1) * sz ≤ i' * sz := Nat.mul_le_mul_right _ hi
  rw [Nat.add_mul, Nat.one_mul] at this
  omega

theorem good_store (hr : Rel C E sto w) {p x : AVal} {pv xv : Value} (hp : V w E p pv) (hx : V w E x xv) {t : TypeId} {q : Bool × Nat} (hl : lay C.P t = some q) (hn : x.cells.length = q.2)
    (hso : x.cells.all (solid sto) = true) {b : Nat} {B : Blk} (hw : wrCells sto p x.cells = some (b, B)) {r : Result Next}
    (h : r = ((do Instr.storeAt t pv xv; pure Next.skip : Sem Next)).run C.P w) : OpGood C E sto w id r .undef [(b, B)] := by
  obtain ⟨i, d, hi, hd, rfl⟩ := lay_some hl
  obtain ⟨hvl, h1⟩ := V.cells hr hso hx
  have hvn : xv.cells.toList.length = x.cells.length := by rw [Array.length_toList]; exact hvl.1
  have hsz : xv.cells.size = i.size := by rw [hvl.1]; exact hn
  -- the run, where the cells lie in a block
  have run : ∀ (g o : Nat) (t' : TypeId) (cur : Array Value), pv = .pointer (some ⟨g, o, none⟩) → w.heap[g]? = some (.cells cur t' (0, 0)) → o + x.cells.length ≤ cur.size →
      r = .ok .skip (w.setRow g (setArr cur o xv.cells.toList)) := by
    intro g o t' cur hpv hg hfit
    have hst := run_storeCells_at C.P g o t' xv.cells.toList 0 cur w hg (by simp only [Nat.add_zero]; omega) h1
    simp only [Nat.add_zero] at hst
    rw [h, hpv]
    simp [Instr.storeAt, Instr.sureAddr, storeVar, run_sizeOf' hi, hsz, hst, setArr]
  unfold wrCells at hw
  split at hw
  · rename_i b0 off
    split at hw
    · rename_i t0 cs hb
      split at hw
      · rename_i hfit
        cases hw
        obtain ⟨rfl, hal, hcur⟩ := hp.ptr_inv
        cases hr.blk b _ hb with
        | cells _ _ cur hg hn' hs hv =>
          have hlive : live sto b := live_iff.2 ⟨_, hb, rfl⟩
          have hblt := live_lt hlive
          have hrun := run _ _ _ cur rfl hg (by omega)
          have hvfit : off + xv.cells.toList.length ≤ cur.size := by omega
          have hsize : (w.setRow (E.ι b) (setArr cur off xv.cells.toList)).heap.size = w.heap.size := size_setRow _ _ _
          have hother : ∀ k, k < w.heap.size → (live sto b → E.ι b ≠ k) → (w.setRow (E.ι b) (setArr cur off xv.cells.toList)).heap[k]? = w.heap[k]? := fun k hk hne => setRow_other w _ k _ (fun e => hne hlive e.symm)
          have hal' : (E.al b ∧ (E.cur b = none → curB (.cells t0 (setAt cs off x.cells)) = none ∧ E.ι b = E.ι b) ∧ (∀ m, E.cur b = some m → ∃ m', curB (.cells t0 (setAt cs off x.cells)) = some m' ∧ m ≤ m' ∧ E.sz b = E.sz b ∧ (m' = m → E.ι b = E.ι b ∧ E.cap b = E.cap b ∧ E.hd b = E.hd b))) ∨ (¬ E.al b ∧ b ≤ sto.length) :=
            .inl ⟨hal, fun _ => ⟨rfl, rfl⟩, fun m hm => by (rw [hcur] at hm; cases hm)⟩
          have hst := step_upd hr b (.cells t0 (setAt cs off x.cells)) (E.ι b) (E.cap b) (E.sz b) (E.hd b) (Nat.le_of_lt hblt) (w' := w.setRow (E.ι b) (setArr cur off xv.cells.toList)) rfl rfl rfl (Nat.le_of_eq hsize.symm) hother (fun _ => .inl ⟨hlive, rfl⟩) hal'
          have hrel := rel_upd hr b (.cells t0 (setAt cs off x.cells)) (E.ι b) (E.cap b) (E.sz b) (E.hd b) (Nat.le_of_lt hblt) (w' := w.setRow (E.ι b) (setArr cur off xv.cells.toList)) rfl rfl rfl (Nat.le_of_eq hsize.symm) hother (fun _ => .inl ⟨hlive, rfl⟩) hal'
            (.cells t0 (setAt cs off x.cells) (setArr cur off xv.cells.toList) (by rw [env_set_new.1]; exact setRow_heap w _ cur _ _ _ hg) (by rw [env_set_new.1]; exact hn')
              (by rw [setArr_size hvfit, setAt_length hfit]; exact hs)
              (fun k y v hy hv' => by
                rw [setAt_get hfit] at hy
                rw [setArr_get hvfit, hvn] at hv'
                split at hy
                · rename_i hk
                  rw [if_pos hk] at hv'
                  exact (hvl.2 _ y v hy (by rw [← Array.getElem?_toList]; exact hv')).step hr hst
                · rename_i hk
                  rw [if_neg hk] at hv'
                  exact (hv _ y v hy hv').step hr hst))
          refine ⟨_, _, _, _, hrun, rfl, hrel.1, hrel.2, .pure .undef, fun y hy => ?_⟩
          rcases hy with rfl | hy
          · exact .inl hal
          · exact .inl hy
      · cases hw
    · cases hw
  · rename_i b0 m i0 j0
    split at hw
    · rename_i t0 sz rows cap hb
      split at hw
      · rename_i hm
        split at hw
        · rename_i r0 hri
          split at hw
          · rename_i hfit
            split at hw
            · rename_i hcl
              cases hw
              obtain ⟨hal, hle, hpv⟩ := hp.eptr_inv
              have hcur : E.cur b = some m := by rw [hr.cur, curOf_curB hb]; simp [curB, hm]
              have hpv := hpv hcur
              cases hr.blk b _ hb with
              | buf _ _ _ _ cur hg hn' hE hh hs hrl hmx hcap h0 hrsz hcell hv =>
                have hlive : live sto b := live_iff.2 ⟨_, hb, rfl⟩
                have hblt := live_lt hlive
                have hr0 : r0.length = sz := hrsz r0 (List.mem_of_getElem? hri)
                have hi0 : i0 < rows.length := (List.getElem?_eq_some_iff.1 hri).1
                have hfit2 : i0 * sz + j0 + x.cells.length ≤ cur.size := by
                  rw [hs]
                  have : (i0 + 1) * sz ≤ E.cap b * sz := Nat.mul_le_mul_right _ (by omega)
                  rw [Nat.add_mul, Nat.one_mul] at this
                  omega
                rw [hE] at hpv
                have hrun := run _ _ _ cur hpv hg hfit2
                have hvfit : i0 * sz + j0 + xv.cells.toList.length ≤ cur.size := by omega
                have hsize : (w.setRow (E.ι b) (setArr cur (i0 * sz + j0) xv.cells.toList)).heap.size = w.heap.size := size_setRow _ _ _
                have hother : ∀ k, k < w.heap.size → (live sto b → E.ι b ≠ k) → (w.setRow (E.ι b) (setArr cur (i0 * sz + j0) xv.cells.toList)).heap[k]? = w.heap[k]? := fun k hk hne => setRow_other w _ k _ (fun e => hne hlive e.symm)
                have hcB : curB (.buf t0 sz (rows.set i0 (setAt r0 j0 x.cells)) cap) = some m := by simp [curB, hm]
                have hal' : (E.al b ∧ (E.cur b = none → curB (.buf t0 sz (rows.set i0 (setAt r0 j0 x.cells)) cap) = none ∧ E.ι b = E.ι b) ∧ (∀ m, E.cur b = some m → ∃ m', curB (.buf t0 sz (rows.set i0 (setAt r0 j0 x.cells)) cap) = some m' ∧ m ≤ m' ∧ E.sz b = E.sz b ∧ (m' = m → E.ι b = E.ι b ∧ E.cap b = E.cap b ∧ E.hd b = E.hd b))) ∨ (¬ E.al b ∧ b ≤ sto.length) :=
                  .inl ⟨hal, fun h => by (rw [hcur] at h; cases h), fun m' hm' => by (rw [hcur] at hm'; cases hm'; exact ⟨_, hcB, Nat.le_refl _, rfl, fun _ => ⟨rfl, rfl, rfl⟩⟩)⟩
                have hst := step_upd hr b (.buf t0 sz (rows.set i0 (setAt r0 j0 x.cells)) cap) (E.ι b) (E.cap b) (E.sz b) (E.hd b) (Nat.le_of_lt hblt) (w' := w.setRow (E.ι b) (setArr cur (i0 * sz + j0) xv.cells.toList)) rfl rfl rfl (Nat.le_of_eq hsize.symm) hother (fun _ => .inl ⟨hlive, rfl⟩) hal'
                have hpmono : ∀ {y : AVal} {v : Value}, PV w E.ok y v → PV (w.setRow (E.ι b) (setArr cur (i0 * sz + j0) xv.cells.toList)) E.ok y v := fun h => h.mono (fun _ h => h) (Step.okHeap hr hst)
                have hrel := rel_upd hr b (.buf t0 sz (rows.set i0 (setAt r0 j0 x.cells)) cap) (E.ι b) (E.cap b) (E.sz b) (E.hd b) (Nat.le_of_lt hblt) (w' := w.setRow (E.ι b) (setArr cur (i0 * sz + j0) xv.cells.toList)) rfl rfl rfl (Nat.le_of_eq hsize.symm) hother (fun _ => .inl ⟨hlive, rfl⟩) hal'
                  (.buf t0 sz (rows.set i0 (setAt r0 j0 x.cells)) cap (setArr cur (i0 * sz + j0) xv.cells.toList) (by rw [env_set_new.1]; exact setRow_heap w _ cur _ _ _ hg) (by rw [env_set_new.1]; exact hn')
                    (by rw [env_set_new.2.2.1]; exact hE) (by rw [env_set_new.2.2.2.1, env_set_new.1]; exact hh) (by rw [setArr_size hvfit, env_set_new.2.1]; exact hs) (by rw [env_set_new.2.1]; simpa using hrl)
                    (by rw [env_set_new.2.1]; exact hmx) (by rw [env_set_new.2.1]; exact hcap) h0
                    (fun r' hr' => by
                      rcases List.mem_or_eq_of_mem_set hr' with h | h
                      · exact hrsz r' h
                      · rw [h, setAt_length hfit]; exact hr0)
                    (fun r' hr' y hy => by
                      rcases List.mem_or_eq_of_mem_set hr' with h | h
                      · exact hcell r' h y hy
                      · subst h
                        unfold setAt at hy
                        rcases List.mem_append.1 hy with hy | hy
                        · rcases List.mem_append.1 hy with hy | hy
                          · exact hcell r0 (List.mem_of_getElem? hri) y (List.mem_of_mem_take hy)
                          · exact (Bool.and_eq_true_iff.1 (List.all_eq_true.1 hcl y hy)).1
                        · exact hcell r0 (List.mem_of_getElem? hri) y (List.mem_of_mem_drop hy))
                    (fun k r' j y hk hj => by
                      rw [List.getElem?_set] at hk
                      rw [setArr_get hvfit, hvn]
                      by_cases e : i0 = k
                      · subst e
                        rw [if_pos rfl, if_pos hi0] at hk
                        cases hk
                        rw [setAt_get hfit] at hj
                        split at hj
                        · rename_i hjj
                          rw [if_pos (by omega)]
                          have hjs : j - j0 < xv.cells.toList.length := by omega
                          refine ⟨_, by rw [show i0 * sz + j - (i0 * sz + j0) = j - j0 by omega]; exact List.getElem?_eq_getElem hjs, ?_⟩
                          have hyv := hvl.2 (j - j0) y _ hj (by rw [← Array.getElem?_toList]; exact List.getElem?_eq_getElem hjs)
                          exact hpmono (hyv.pv (Bool.and_eq_true_iff.1 (List.all_eq_true.1 hcl y (List.mem_of_getElem? hj))).2)
                        · rename_i hjj
                          obtain ⟨v, hv1, hv2⟩ := hv i0 r0 j y hri hj
                          refine ⟨v, ?_, hpmono hv2⟩
                          rw [if_neg (by omega)]; exact hv1
                      · rw [if_neg e] at hk
                        obtain ⟨v, hv1, hv2⟩ := hv k r' j y hk hj
                        refine ⟨v, ?_, hpmono hv2⟩
                        have hj' : j < sz := by
                          have := hrsz r' (List.mem_of_getElem? hk)
                          have := (List.getElem?_eq_some_iff.1 hj).1; omega
                        rw [if_neg]
                        · exact hv1
                        · rintro ⟨h1, h2⟩
                          rcases Nat.lt_or_gt_of_ne e with h | h
                          · have := pair_lt (i := i0) (j := sz - 1) (i' := k) (j' := j) (sz := sz) h (by omega)
                            omega
                          · have := pair_lt (i := k) (j := j) (i' := i0) (j' := 0) (sz := sz) h hj'
                            omega))
                refine ⟨_, _, _, _, hrun, rfl, hrel.1, hrel.2, .pure .undef, fun y hy => ?_⟩
                rcases hy with rfl | hy
                · exact .inl hal
                · exact .inl hy
            · cases hw
          · cases hw
        · cases hw
      · cases hw
    · rename_i t0 sz rows hb
      split at hw
      · rename_i hm
        split at hw
        · rename_i r0 hri
          split at hw
          · rename_i hfit
            cases hw
            obtain ⟨hal, hle, hpv⟩ := hp.eptr_inv
            have hcur : E.cur b = some m := by rw [hr.cur, curOf_curB hb]; simp [curB, hm]
            have hpv := hpv hcur
            cases hr.blk b _ hb with
            | arr _ _ _ cur hg hn' hE hs hrl hmx h0 hrsz hv =>
              have hlive : live sto b := live_iff.2 ⟨_, hb, rfl⟩
              have hblt := live_lt hlive
              have hr0 : r0.length = sz := hrsz r0 (List.mem_of_getElem? hri)
              have hi0 : i0 < rows.length := (List.getElem?_eq_some_iff.1 hri).1
              have hfit2 : i0 * sz + j0 + x.cells.length ≤ cur.size := by
                rw [hs]
                have : (i0 + 1) * sz ≤ E.cap b * sz := Nat.mul_le_mul_right _ (by omega)
                rw [Nat.add_mul, Nat.one_mul] at this
                omega
              rw [hE] at hpv
              have hrun := run _ _ _ cur hpv hg hfit2
              have hvfit : i0 * sz + j0 + xv.cells.toList.length ≤ cur.size := by omega
              have hsize : (w.setRow (E.ι b) (setArr cur (i0 * sz + j0) xv.cells.toList)).heap.size = w.heap.size := size_setRow _ _ _
              have hother : ∀ k, k < w.heap.size → (live sto b → E.ι b ≠ k) → (w.setRow (E.ι b) (setArr cur (i0 * sz + j0) xv.cells.toList)).heap[k]? = w.heap[k]? := fun k hk hne => setRow_other w _ k _ (fun e => hne hlive e.symm)
              have hcB : curB (.arr t0 sz (rows.set i0 (setAt r0 j0 x.cells))) = some m := by simp [curB, hm]
              have hal' : (E.al b ∧ (E.cur b = none → curB (.arr t0 sz (rows.set i0 (setAt r0 j0 x.cells))) = none ∧ E.ι b = E.ι b) ∧ (∀ m, E.cur b = some m → ∃ m', curB (.arr t0 sz (rows.set i0 (setAt r0 j0 x.cells))) = some m' ∧ m ≤ m' ∧ E.sz b = E.sz b ∧ (m' = m → E.ι b = E.ι b ∧ E.cap b = E.cap b ∧ E.hd b = E.hd b))) ∨ (¬ E.al b ∧ b ≤ sto.length) :=
                .inl ⟨hal, fun h => by (rw [hcur] at h; cases h), fun m' hm' => by (rw [hcur] at hm'; cases hm'; exact ⟨_, hcB, Nat.le_refl _, rfl, fun _ => ⟨rfl, rfl, rfl⟩⟩)⟩
              have hst := step_upd hr b (.arr t0 sz (rows.set i0 (setAt r0 j0 x.cells))) (E.ι b) (E.cap b) (E.sz b) (E.hd b) (Nat.le_of_lt hblt) (w' := w.setRow (E.ι b) (setArr cur (i0 * sz + j0) xv.cells.toList)) rfl rfl rfl (Nat.le_of_eq hsize.symm) hother (fun _ => .inl ⟨hlive, rfl⟩) hal'
              have hrel := rel_upd hr b (.arr t0 sz (rows.set i0 (setAt r0 j0 x.cells))) (E.ι b) (E.cap b) (E.sz b) (E.hd b) (Nat.le_of_lt hblt) (w' := w.setRow (E.ι b) (setArr cur (i0 * sz + j0) xv.cells.toList)) rfl rfl rfl (Nat.le_of_eq hsize.symm) hother (fun _ => .inl ⟨hlive, rfl⟩) hal'
                (.arr t0 sz (rows.set i0 (setAt r0 j0 x.cells)) (setArr cur (i0 * sz + j0) xv.cells.toList) (by rw [env_set_new.1]; exact setRow_heap w _ cur _ _ _ hg) (by rw [env_set_new.1]; exact hn')
                  (by rw [env_set_new.2.2.1]; exact hE) (by rw [setArr_size hvfit, env_set_new.2.1]; exact hs) (by rw [env_set_new.2.1]; simpa using hrl)
                  (by rw [env_set_new.2.1]; exact hmx) h0
                  (fun r' hr' => by
                    rcases List.mem_or_eq_of_mem_set hr' with h | h
                    · exact hrsz r' h
                    · rw [h, setAt_length hfit]; exact hr0)
                  (fun k r' j y hk hj => by
                    rw [List.getElem?_set] at hk
                    rw [setArr_get hvfit, hvn]
                    by_cases e : i0 = k
                    · subst e
                      rw [if_pos rfl, if_pos hi0] at hk
                      cases hk
                      rw [setAt_get hfit] at hj
                      split at hj
                      · rename_i hjj
                        rw [if_pos (by omega)]
                        have hjs : j - j0 < xv.cells.toList.length := by omega
                        refine ⟨_, by rw [show i0 * sz + j - (i0 * sz + j0) = j - j0 by omega]; exact List.getElem?_eq_getElem hjs, h1 _ (List.getElem_mem hjs), ?_⟩
                        exact (hvl.2 (j - j0) y _ hj (by rw [← Array.getElem?_toList]; exact List.getElem?_eq_getElem hjs)).step hr hst
                      · rename_i hjj
                        obtain ⟨v, hv1, hv2, hv3⟩ := hv i0 r0 j y hri hj
                        refine ⟨v, ?_, hv2, hv3.step hr hst⟩
                        rw [if_neg (by omega)]; exact hv1
                    · rw [if_neg e] at hk
                      obtain ⟨v, hv1, hv2, hv3⟩ := hv k r' j y hk hj
                      refine ⟨v, ?_, hv2, hv3.step hr hst⟩
                      have hj' : j < sz := by
                        have := hrsz r' (List.mem_of_getElem? hk)
                        have := (List.getElem?_eq_some_iff.1 hj).1; omega
                      rw [if_neg]
                      · exact hv1
                      · rintro ⟨h1, h2⟩
                        rcases Nat.lt_or_gt_of_ne e with h | h
                        · have := pair_lt (i := i0) (j := sz - 1) (i' := k) (j' := j) (sz := sz) h (by omega)
                          omega
                        · have := pair_lt (i := k) (j := j) (i' := i0) (j' := 0) (sz := sz) h hj'
                          omega))
              refine ⟨_, _, _, _, hrun, rfl, hrel.1, hrel.2, .pure .undef, fun y hy => ?_⟩
              rcases hy with rfl | hy
              · exact .inl hal
              · exact .inl hy
          · cases hw
        · cases hw
      · cases hw
    · cases hw
  · cases hw

end
end Go.Proofs.YtaajfbcopafkaaaGreatDoor.Ai

namespace Go.Proofs.YtaajfbcopafkaaaGreatDoor.Ai
open Go
set_option linter.unusedVariables false
set_option linter.unusedSimpArgs false

theorem arr_ext {a b : Array Value} (h : ∀ i : Nat, a[i]? = b[i]?) : a = b := Array.ext_getElem? h

theorem setArr_cons {cur : Array Value} {off : Nat} {v : Value} {l : List Value} (h : off + (l.length + 1) ≤ cur.size) : setArr (cur.setIfInBounds off v) (off + 1) l = setArr cur off (v :: l) := by
  apply arr_ext
  intro i
  rw [setArr_get (by simp; omega), setArr_get (by simpa using h)]
  simp only [List.length_cons]
  by_cases h1 : off + 1 ≤ i ∧ i < off + 1 + l.length
  · rw [if_pos h1, if_pos ⟨by omega, by omega⟩]
    rw [show i - off = (i - (off + 1)) + 1 by omega, List.getElem?_cons_succ]
  · rw [if_neg h1]
    by_cases h2 : i = off
    · subst h2
      rw [if_pos ⟨by omega, by omega⟩, Nat.sub_self, List.getElem?_cons_zero, Array.getElem?_setIfInBounds, if_pos rfl, if_pos (by omega)]
    · rw [if_neg (by omega)]
      rw [Array.getElem?_setIfInBounds_ne (by omega)]

theorem setArr_nil {cur : Array Value} {off : Nat} : setArr cur off [] = cur := by
  unfold setArr; simp

theorem fold_set (off : Nat) : ∀ (l : List Value) (k : Nat) (cs : Array Value), off + k + l.length ≤ cs.size →
    (l.zipIdx k).foldl (fun cs (p : Value × Nat) => cs.setIfInBounds (off + p.2) p.1) cs = setArr cs (off + k) l := by
  intro l
  induction l with
  | nil => intro k cs h; simp [setArr_nil]
  | cons v l ih =>
    intro k cs h
    simp only [List.zipIdx_cons, List.foldl_cons]
    rw [ih (k + 1) _ (by simp at h ⊢; omega)]
    rw [← Nat.add_assoc, setArr_cons (by simpa [Nat.add_assoc] using h)]

theorem fold_setA (off : Nat) (a : Array Value) (cs : Array Value) (h : off + a.size ≤ cs.size) :
    (a.zipIdx.foldl (fun cs (p : Value × Nat) => cs.setIfInBounds (off + p.2) p.1) cs) = setArr cs off a.toList := by
  have := fold_set off a.toList 0 cs (by simpa using h)
  rw [Nat.add_zero] at this
  rw [← this, ← Array.foldl_toList, Array.toList_zipIdx]

theorem run_places {P : Program} {w : World} : ∀ (fs : List Field) (pl : List (Nat × Nat)), (fs.mapM fun f => (P.info? f.type).map fun i => (f.offset, i.size)) = some pl →
    (fs.mapM fun f => (do pure (f.offset, ← sizeOf f.type) : Sem (Nat × Nat))).run P w = .ok pl w := by
  intro fs
  induction fs with
  | nil => intro pl h; simp at h; subst h; simp
  | cons f fs ih =>
    intro pl h
    simp only [List.mapM_cons] at h ⊢
    cases hi : P.info? f.type with
    | none => simp [hi] at h
    | some i =>
      cases hm : (fs.mapM fun f => (P.info? f.type).map fun i => (f.offset, i.size)) with
      | none => simp [hi, hm] at h
      | some pl' =>
        simp [hi, hm] at h
        subst h
        simp only [Sem.run_bind, Sem.run_pure, Result.andThen_ok, run_sizeOf' hi, ih pl' hm]

section
variable {C : Ctx} {E : Env} {sto : List Blk} {w : World} {id : Nat}

theorem VL.setArr {cs vs : List AVal} {cur : Array Value} {xs : Array Value} {off : Nat} (h : VL w E cs cur) (hv : VL w E vs xs) (hfit : off + vs.length ≤ cs.length) : VL w E (setAt cs off vs) (setArr cur off xs.toList) := by
  have e : xs.toList.length = vs.length := by rw [Array.length_toList]; exact hv.1
  have hf2 : off + xs.toList.length ≤ cur.size := by rw [e, h.1]; exact hfit
  refine ⟨by rw [setArr_size hf2, setAt_length hfit]; exact h.1, fun i x v hx hv' => ?_⟩
  rw [setAt_get hfit] at hx
  rw [setArr_get hf2, e] at hv'
  split at hx
  · rename_i hk
    rw [if_pos hk] at hv'
    exact hv.2 _ x v hx (by rw [← Array.getElem?_toList]; exact hv')
  · rename_i hk
    rw [if_neg hk] at hv'
    exact h.2 _ x v hx hv'

/-- The cells of a value whose kind is known by their number. -/
theorem V.cells_of {x : AVal} {v : Value} (h : V w E x v) (hnd : x ≠ .dead) (hnt : ∀ b n, x ≠ .bsl b n) (hne : ∀ b n i j, x ≠ .eptr b n i j) (hns : ∀ b n l k c, x ≠ .sub b n l k c) : VL w E x.cells v.cells := by
  by_cases hx : ∃ xs, x = .agg xs
  · obtain ⟨xs, rfl⟩ := hx; exact h.cells_agg
  · have hxc : x.cells = [x] := by
      cases x <;> first | rfl | exact (hx ⟨_, rfl⟩).elim
    rw [hxc]
    have hvc : v.cells = #[v] := by
      cases h with
      | pure h => cases h <;> first | rfl | exact (hx ⟨_, rfl⟩).elim
      | agg => exact (hx ⟨_, rfl⟩).elim
      | eptr b n i j => exact (hne b n i j rfl).elim
      | bsl b n => exact (hnt b n rfl).elim
      | sub b n l k c => exact (hns b n l k c rfl).elim
      | csl b off sz len cp v hb hc h hl => rw [h]; rfl
      | dead => exact (hnd rfl).elim
      | _ => rfl
    rw [hvc]
    refine ⟨rfl, fun i y u hy hu => ?_⟩
    cases i with
    | zero => simp at hy hu; rw [← hy, ← hu]; exact h
    | succ i => simp at hy

theorem V.cells_ok (hr : Rel C E sto w) {x : AVal} {v : Value} (h : V w E x v) (hok : cellsOK sto x = true) : VL w E x.cells v.cells := by
  by_cases h1 : ∃ b n, x = .bsl b n
  · obtain ⟨b, n, rfl⟩ := h1
    simp only [cellsOK, beq_iff_eq] at hok
    obtain ⟨_, _, hv⟩ := h.bsl_inv
    have hv := hv (by rw [hr.cur]; exact hok)
    subst hv
    refine ⟨rfl, fun i y u hy hu => ?_⟩
    cases i with
    | zero => simp [AVal.cells, Value.cells] at hy hu; rw [← hy, ← hu]; exact h
    | succ i => simp [AVal.cells] at hy
  · by_cases h2 : ∃ b n i j, x = .eptr b n i j
    · obtain ⟨b, n, i, j, rfl⟩ := h2
      simp only [cellsOK, beq_iff_eq] at hok
      obtain ⟨_, _, hv⟩ := h.eptr_inv
      have hv := hv (by rw [hr.cur]; exact hok)
      subst hv
      refine ⟨rfl, fun i y u hy hu => ?_⟩
      cases i with
      | zero => simp [AVal.cells, Value.cells] at hy hu; rw [← hy, ← hu]; exact h
      | succ i => simp [AVal.cells] at hy
    · by_cases h3 : ∃ b n l k c, x = .sub b n l k c
      · obtain ⟨b, n, l, k, c, rfl⟩ := h3
        simp only [cellsOK, beq_iff_eq] at hok
        obtain ⟨_, _, hv⟩ := h.sub_inv
        obtain ⟨a, c', hv, _⟩ := hv (by rw [hr.cur]; exact hok)
        subst hv
        refine ⟨rfl, fun i y u hy hu => ?_⟩
        cases i with
        | zero => simp [AVal.cells, Value.cells] at hy hu; rw [← hy, ← hu]; exact h
        | succ i => simp [AVal.cells] at hy
      · exact h.cells_of (fun e => by subst e; simp [cellsOK] at hok) (fun b n e => h1 ⟨b, n, e⟩) (fun b n i j e => h2 ⟨b, n, i, j, e⟩) (fun b n l k c e => h3 ⟨b, n, l, k, c, e⟩)

theorem VL.zero {z : Value} : VL w E (ofVal z).cells z.cells := by
  unfold ofVal
  split
  · rename_i cs
    exact (V.of_val (w := w) (E := E) (.agg cs)).cells_agg
  · rename_i v hv
    have h : V w E (ofVal0 z) z := V.of_val0 z
    have h1 : (ofVal0 z).cells = [ofVal0 z] := by
      unfold ofVal0
      repeat' split
      all_goals rfl
    have h2 : z.cells = #[z] := by
      cases z <;> first | rfl | exact (hv _ rfl).elim
    rw [h1, h2]
    refine ⟨rfl, fun i y u hy hu => ?_⟩
    cases i with
    | zero => simp at hy hu; rw [← hy, ← hu]; exact h
    | succ i => simp at hy

theorem fill_sound (hr : Rel C E sto w) {ρ : Operand → AVal} {ρ' : Operand → Value} (hρ : ∀ x, V w E (ρ x) (ρ' x)) (t : TypeId) (place : Nat → Option (Nat × Nat)) (hpl : ∀ f q, partA C.P t f = some q → place f = some q) :
    ∀ (l : List (Nat × Operand)) (cs cs' : List AVal) (cur : Array Value), VL w E cs cur → goB C.P sto t cs (l.map fun p => (p.1, ρ p.2)) = some cs' →
      ∃ cur', Instr.fill place cur (l.map fun p => (p.1, ρ' p.2)) = some cur' ∧ VL w E cs' cur' := by
  intro l
  induction l with
  | nil => intro cs cs' cur h hg; simp [goB] at hg; subst hg; exact ⟨cur, rfl, h⟩
  | cons p l ih =>
    intro cs cs' cur h hg
    obtain ⟨f, x⟩ := p
    simp only [List.map_cons, goB] at hg
    split at hg
    · rename_i off n hpart
      split at hg
      · rename_i hok
        split at hg
        · rename_i hn
          split at hg
          · rename_i hfit
            have hc := (hρ x).cells_ok hr hok
            have hfit2 : off + (ρ' x).cells.size ≤ cur.size := by rw [hc.1, h.1]; exact hfit
            obtain ⟨cur', h1, h2⟩ := ih _ _ _ (h.setArr hc hfit) hg
            refine ⟨cur', ?_, h2⟩
            have hcond : ((decide ((ρ' x).cells.size ≠ n) || decide (off + (ρ' x).cells.size > cur.size)) = true) = False := by
              simp [hc.1, hn, h.1]; rw [← hn]; omega
            simp only [List.map_cons, Instr.fill, hpl f _ hpart, hcond, if_false]
            rw [fold_setA off _ _ hfit2]
            exact h1
          · cases hg
        · cases hg
      · cases hg
    · cases hg

theorem good_build (hr : Rel C E sto w) {ρ : Operand → AVal} {ρ' : Operand → Value} (hρ : ∀ x, V w E (ρ x) (ρ' x)) {t : TypeId} {parts : Array (Nat × Operand)} {cs : List AVal}
    (h : buildA C.P sto t (parts.toList.map fun p => (p.1, ρ p.2)) = some cs) : ∃ u, (Instr.build t (parts.map fun p => (p.1, ρ' p.2))).run C.P w = .ok u w ∧ V w E (.agg cs) u := by
  unfold buildA at h
  split at h
  · rename_i hsome
    cases hz : zeroT C.P t with
    | none => rw [hz] at h; simp at h
    | some z0 =>
      rw [hz] at h
      simp only [Option.bind_some] at h
      obtain ⟨i, z, hi, hzz, rfl⟩ := zeroT_some hz
      have hvl : VL w E (ofVal z).cells z.cells := VL.zero
      have hp : (parts.map fun p => (p.1, ρ' p.2)).toList = parts.toList.map fun p => (p.1, ρ' p.2) := by simp
      cases hs : structT C.P t with
      | some pl =>
        have hu : ∃ fs, C.P.underlying t = some (.struct fs) ∧ (fs.toList.mapM fun f => (C.P.info? f.type).map fun i => (f.offset, i.size)) = some pl := by
          unfold structT at hs
          split at hs
          · rename_i fs hu; exact ⟨fs, hu, hs⟩
          · cases hs
        obtain ⟨fs, hu, hm⟩ := hu
        obtain ⟨cur', h1, h2⟩ := fill_sound hr hρ t (pl.toArray[·]?) (fun f q hq => by simpa [partA, hs] using hq) parts.toList _ _ _ hvl h
        refine ⟨.agg cur', ?_, .agg _ _ h2.1 h2.2⟩
        have hpl := run_places (P := C.P) (w := w) fs.toList pl hm
        simp only [Instr.build, Sem.run_bind, run_zero hi hzz, Result.andThen_ok, run_underlying hu, Array.mapM_eq_mapM_toList, Sem.run_map, hpl, hp, h1, Sem.run_pure]
      | none =>
        rw [hs] at hsome
        simp only [Option.isSome_none, Bool.false_or] at hsome
        obtain ⟨q, hq0⟩ := Option.isSome_iff_exists.1 hsome
        obtain ⟨⟨n, e⟩, ha, hq⟩ := Option.bind_eq_some_iff.1 hq0
        have hu := arrT_some ha
        obtain ⟨ie, de, hie, hde, rfl⟩ := lay_some hq
        obtain ⟨cur', h1, h2⟩ := fill_sound hr hρ t (fun i => some (i * ie.size, ie.size)) (fun f q' hq' => by simp [partA, hs, ha, hq] at hq'; rw [← hq']) parts.toList _ _ _ hvl h
        refine ⟨.agg cur', ?_, .agg _ _ h2.1 h2.2⟩
        simp only [Instr.build, Sem.run_bind, run_zero hi hzz, Result.andThen_ok, run_underlying hu, run_sizeOf' hie, hp, h1, Sem.run_pure]
  · cases h

/-- Rows, and the cells that they fill. -/
def FlatR (w : World) (E : Env) (sz : Nat) (rows : List (List AVal)) (cur : Array Value) : Prop :=
  cur.size = rows.length * sz ∧ (∀ r, r ∈ rows → r.length = sz) ∧ ∀ (i : Nat) r (j : Nat) x v, rows[i]? = some r → r[j]? = some x → cur[i * sz + j]? = some v → V w E x v

theorem FlatR.set {sz : Nat} {rows : List (List AVal)} {cur : Array Value} (h : FlatR w E sz rows cur) {i : Nat} {cs : List AVal} {xs : Array Value} (hi : i < rows.length) (hc : VL w E cs xs) (hl : cs.length = sz) :
    FlatR w E sz (rows.set i cs) (setArr cur (i * sz) xs.toList) ∧ i * sz + xs.size ≤ cur.size := by
  have hfit : i * sz + xs.size ≤ cur.size := by
    rw [hc.1, hl, h.1]
    have : (i + 1) * sz ≤ rows.length * sz := Nat.mul_le_mul_right _ hi
    rw [Nat.add_mul, Nat.one_mul] at this
    exact this
  have hfit2 : i * sz + xs.toList.length ≤ cur.size := by rw [Array.length_toList]; exact hfit
  refine ⟨⟨by rw [setArr_size hfit2, List.length_set]; exact h.1, fun r hr => ?_, fun k r j x v hk hj hv => ?_⟩, hfit⟩
  · rcases List.mem_or_eq_of_mem_set hr with h1 | h1
    · exact h.2.1 r h1
    · rw [h1]; exact hl
  · rw [List.getElem?_set] at hk
    rw [setArr_get hfit2, Array.length_toList, hc.1, hl] at hv
    by_cases e : i = k
    · subst e
      rw [if_pos rfl, if_pos hi] at hk
      cases hk
      have hj' : j < sz := by rw [← hl]; exact (List.getElem?_eq_some_iff.1 hj).1
      rw [if_pos ⟨by omega, by omega⟩, show i * sz + j - i * sz = j by omega, Array.getElem?_toList] at hv
      exact hc.2 j x v hj hv
    · rw [if_neg e] at hk
      have hj' : j < sz := by rw [← h.2.1 r (List.mem_of_getElem? hk)]; exact (List.getElem?_eq_some_iff.1 hj).1
      rw [if_neg] at hv
      · exact h.2.2 k r j x v hk hj hv
      · rintro ⟨h1, h2⟩
        rcases Nat.lt_or_gt_of_ne e with h3 | h3
        · have := pair_lt (i := i) (j := sz - 1) (i' := k) (j' := j) (sz := sz) h3 (by omega)
          omega
        · have := pair_lt (i := k) (j := j) (i' := i) (j' := 0) (sz := sz) h3 hj'
          omega

theorem fillR_sound (hr : Rel C E sto w) {ρ : Operand → AVal} {ρ' : Operand → Value} (hρ : ∀ x, V w E (ρ x) (ρ' x)) (e : TypeId) :
    ∀ (l : List (Nat × Operand)) (rows rows' : List (List AVal)) (cur : Array Value), FlatR w E (szOf C.P e) rows cur → goR C.P sto e rows (l.map fun p => (p.1, ρ p.2)) = some rows' →
      ∃ cur', Instr.fill (fun i => some (i * szOf C.P e, szOf C.P e)) cur (l.map fun p => (p.1, ρ' p.2)) = some cur' ∧ FlatR w E (szOf C.P e) rows' cur' ∧ rows'.length = rows.length := by
  intro l
  induction l with
  | nil => intro rows rows' cur h hg; simp [goR] at hg; subst hg; exact ⟨cur, rfl, h, rfl⟩
  | cons p l ih =>
    intro rows rows' cur h hg
    obtain ⟨i, x⟩ := p
    simp only [List.map_cons, goR] at hg
    split at hg
    · rename_i hok
      split at hg
      · rename_i hn
        split at hg
        · rename_i hi
          have hc := (hρ x).cells_ok hr hok
          obtain ⟨hf, hfit⟩ := h.set hi hc hn
          obtain ⟨cur', h1, h2, h3⟩ := ih _ _ _ hf hg
          refine ⟨cur', ?_, h2, by rw [h3, List.length_set]⟩
          have hcond : ((decide ((ρ' x).cells.size ≠ szOf C.P e) || decide (i * szOf C.P e + (ρ' x).cells.size > cur.size)) = true) = False := by
            have : (ρ' x).cells.size = szOf C.P e := by rw [hc.1, hn]
            simp [this]; rw [this] at hfit; omega
          simp only [List.map_cons, Instr.fill, hcond, if_false]
          rw [fold_setA _ _ _ hfit]
          exact h1
        · cases hg
      · cases hg
    · cases hg

theorem flat_made {zs : List AVal} {z : Array Value} {sz len : Nat} (h : VL w E zs z) (hl : zs.length = sz) (h0 : 0 < sz) :
    FlatR w E sz (List.replicate len zs) ((Array.range (len * sz)).map (z[· % z.size]!)) := by
  have hz : z.size = sz := by rw [h.1, hl]
  refine ⟨by simp, fun r hr => by rw [List.eq_of_mem_replicate hr]; exact hl, fun i r j x v hi hj hv => ?_⟩
  have hi' := (List.getElem?_eq_some_iff.1 hi).1
  simp only [List.length_replicate] at hi'
  rw [List.getElem?_replicate, if_pos hi'] at hi
  cases hi
  have hj' : j < sz := by rw [← hl]; exact (List.getElem?_eq_some_iff.1 hj).1
  have hlt : i * sz + j < len * sz := by
    have := pair_lt (i := i) (j := j) (i' := i + 1) (j' := 0) (sz := sz) (Nat.lt_succ_self _) hj'
    have h2 : (i + 1) * sz ≤ len * sz := Nat.mul_le_mul_right _ hi'
    omega
  rw [Array.getElem?_map, Array.getElem?_range, if_pos hlt] at hv
  simp only [Option.map_some, Option.some.injEq] at hv
  have hm : (i * sz + j) % z.size = j := by rw [hz, Nat.mul_comm, Nat.mul_add_mod, Nat.mod_eq_of_lt hj']
  rw [hm] at hv
  have hjz : j < z.size := by omega
  refine h.2 j x v hj ?_
  rw [← hv]
  simp [hjz]

/-- A slice that is made goes where it is told to go. -/
theorem good_place (hr : Rel C E sto w) {w' : World} {own : Bool} (hid : ¬ E.al id) (hid2 : id ≤ sto.length) {sz : Nat} {rows : List (List AVal)} {cap : Option Nat} {c : Nat} {vals : Array Value} {t : TypeId} {r : Result Next}
    (h0 : 0 < sz) (hs : vals.size = c * sz) (hl : rows.length ≤ c) (hm : c ≤ maxLen) (hcap : ∀ k, cap = some k → c = k) (hsz : ∀ r, r ∈ rows → r.length = sz) (hcell : ∀ r, r ∈ rows → ∀ x, x ∈ r → cellish x = true)
    (hv : ∀ (i : Nat) r (j : Nat) x, rows[i]? = some r → r[j]? = some x → ∃ v, vals[i * sz + j]? = some v ∧ PV w E.ok x v)
    (hos : w'.os = w.os) (htape : w'.tape = w.tape) (hout : w'.output = w.output) (hh : w'.heap = w.heap.push (.cells vals t))
    (h : r = .ok (.value (.slice (some ⟨w.heap.size, 0, none⟩) rows.length c)) w') : OpGood C E sto w id r (place own id t sz rows cap).1 (place own id t sz rows cap).2 := by
  unfold place
  cases own with
  | true => exact good_buf hr hid2 (.inl ⟨hid, rfl⟩) h0 hs hl hm hcap hsz hcell hv hos htape hout hh h
  | false => exact good_slc hr hl hm hcap hsz hcell hv hos htape hout hh h

theorem good_buildSlice (hr : Rel C E sto w) {own : Bool} (hid : ¬ E.al id) (hid2 : id ≤ sto.length) {ρ : Operand → AVal} {ρ' : Operand → Value} (hρ : ∀ x, V w E (ρ x) (ρ' x)) {t e : TypeId} {len : Nat} {parts : Array (Nat × Operand)} {rows : List (List AVal)}
    (he : elemT C.P t = some e) (h : rowsA C.P sto e len (parts.toList.map fun p => (p.1, ρ p.2)) = some rows) (h0 : 0 < szOf C.P e) (hlim : len * szOf C.P e ≤ 16777216)
    (hall : rows.all (fun r => r.all cellish && norefL r) = true) {r : Result Next} (hrun : r = (do pure (Next.value (← Instr.buildSlice t len (parts.map fun p => (p.1, ρ' p.2)))) : Sem Next).run C.P w) :
    OpGood C E sto w id r (place own id e (szOf C.P e) rows (some len)).1 (place own id e (szOf C.P e) rows (some len)).2 := by
  have hu := elemT_some he
  obtain ⟨i, hi, hisz, _⟩ := szOf_pos h0
  unfold rowsA at h
  cases hz : zeroT C.P e with
  | none => rw [hz] at h; simp at h
  | some zs =>
    rw [hz] at h
    simp only [Option.bind_some] at h
    split at h
    · rename_i hzl
      obtain ⟨i', z, hi', hzz, rfl⟩ := zeroT_some hz
      rw [hi] at hi'; cases hi'
      have hvl : VL w E (ofVal z).cells z.cells := VL.zero
      have hp : (parts.map fun p => (p.1, ρ' p.2)).toList = parts.toList.map fun p => (p.1, ρ' p.2) := by simp
      obtain ⟨cur', h1, h2, h3⟩ := fillR_sound hr hρ e parts.toList _ _ _ (flat_made (len := len) hvl hzl h0) h
      simp only [List.length_replicate] at h3
      have hrow : ∀ r, r ∈ rows → r.all cellish = true ∧ norefL r = true := fun r hr => by
        have := List.all_eq_true.1 hall r hr
        simpa using this
      have hsize : cur'.size = len * szOf C.P e := by rw [h2.1, h3]
      have hmx : len ≤ maxLen := by
        have : len ≤ len * szOf C.P e := Nat.le_mul_of_pos_right _ h0
        simp only [maxLen]; omega
      have hrun2 : r = .ok (.value (.slice (some ⟨w.heap.size, 0, none⟩) rows.length len)) { w with heap := w.heap.push (.cells cur' e) } := by
        rw [hrun, h3]
        have hlim' : ¬ (2 ^ 24 < len * szOf C.P e) := by omega
        by_cases hl0 : len = 0
        · subst hl0
          simp only [Nat.zero_mul, Array.range_zero'] at h1
          have h1' : Instr.fill (fun i => some (i * szOf C.P e, szOf C.P e)) #[] (parts.toList.map fun p => (p.1, ρ' p.2)) = some cur' := by simpa using h1
          simp [Instr.buildSlice, run_underlying hu, run_sizeOf' hi, hisz, newRow, h1', Array.range_zero']
        · have hne : ¬ (len * szOf C.P e = 0) := by
            intro h; rcases Nat.mul_eq_zero.1 h with h | h
            · exact hl0 h
            · omega
          have hne2 : ¬ szOf C.P e = 0 := by omega
          simp [Instr.buildSlice, run_underlying hu, run_sizeOf' hi, hisz, run_zero hi hzz, hlim', hl0, hne2, newRow, h1]
          intro h; exact absurd h hne
      exact good_place hr (w' := { w with heap := w.heap.push (.cells cur' e) }) hid hid2 h0 hsize (by omega) hmx (fun k hk => by cases hk; rfl) h2.2.1 (fun r hr x hx => List.all_eq_true.1 (hrow r hr).1 x hx)
        (fun i r j x hi' hj => by
          have hlt : i * szOf C.P e + j < cur'.size := by
            have hj' : j < szOf C.P e := by rw [← h2.2.1 r (List.mem_of_getElem? hi')]; exact (List.getElem?_eq_some_iff.1 hj).1
            have hi2 := (List.getElem?_eq_some_iff.1 hi').1
            have := pair_lt (i := i) (j := j) (i' := i + 1) (j' := 0) (sz := szOf C.P e) (Nat.lt_succ_self _) hj'
            have h5 : (i + 1) * szOf C.P e ≤ rows.length * szOf C.P e := Nat.mul_le_mul_right _ hi2
            rw [h2.1]; omega
          refine ⟨_, Array.getElem?_eq_getElem hlt, ?_⟩
          exact (h2.2.2 i r j x _ hi' hj (Array.getElem?_eq_getElem hlt)).pv (norefL_mem (hrow r (List.mem_of_getElem? hi')).2 x (List.mem_of_getElem? hj)))
        rfl rfl rfl rfl hrun2
    · cases h

end
end Go.Proofs.YtaajfbcopafkaaaGreatDoor.Ai

namespace Go.Proofs.YtaajfbcopafkaaaGreatDoor.Ai
open Go
set_option linter.unusedVariables false
set_option linter.unusedSimpArgs false

section
variable {C : Ctx} {E : Env} {sto : List Blk} {w : World} {id : Nat}

/-- What is read of a slice or a string: its cells. -/
structure Src (C : Ctx) (E : Env) (w : World) (size : Nat) (x : Value) (rows : List (List AVal)) (news : List Value) : Prop where
  len : ∀ w' : World, (Builtin.lenOf x).run C.P w' = .ok rows.length w'
  run : ∀ w' : World, w'.heap = w.heap → (Builtin.firstCells size rows.length x).run C.P w' = .ok news.toArray w'
  n : news.length = rows.length * size
  sz : ∀ r, r ∈ rows → r.length = size
  cell : ∀ r, r ∈ rows → ∀ y, y ∈ r → cellish y = true
  val : ∀ (i : Nat) r (j : Nat) y, rows[i]? = some r → r[j]? = some y → ∃ v, news[i * size + j]? = some v ∧ PV w E.ok y v

theorem Src.one {size : Nat} {x : Value} {rows : List (List AVal)} {news : List Value} (h : Src C E w size x rows news) (h0 : 0 < size) : ∀ u ∈ news, u.oneCell' = true := by
  intro u hu
  obtain ⟨k, hk⟩ := List.mem_iff_getElem?.1 hu
  have hlt := (List.getElem?_eq_some_iff.1 hk).1
  rw [h.n] at hlt
  have hi : k / size < rows.length := Nat.div_lt_of_lt_mul (by rw [Nat.mul_comm]; exact hlt)
  have hr : rows[k / size]? = some rows[k / size] := List.getElem?_eq_getElem hi
  have hj : k % size < rows[k / size].length := by rw [h.sz _ (List.getElem_mem hi)]; exact Nat.mod_lt _ h0
  obtain ⟨v, hv1, hv2⟩ := h.val _ _ _ _ hr (List.getElem?_eq_getElem hj)
  rw [Nat.mul_comm, Nat.div_add_mod, hk] at hv1
  cases hv1
  exact cellish_one (h.cell _ (List.getElem_mem hi) _ (List.getElem_mem hj)) hv2

theorem cell_heap {w w' : World} (h : w'.heap = w.heap) (a : Addr) : w'.cell? a = w.cell? a := by simp [World.cell?, h]

theorem run_first_some {P : Program} {w w' : World} {size n c m : Nat} {a : Addr} {news : List Value} (hh : w'.heap = w.heap) (hn : news.length = n * size) (h : ∀ (j : Nat) u, news[j]? = some u → w.cell? (a.add j) = some u) :
    (Builtin.firstCells size n (.slice (some a) m c)).run P w' = .ok news.toArray w' := by
  have := run_loadCells_list (P := P) w' a news (fun j u hj => by rw [cell_heap hh]; exact h j u hj)
  simp only [Builtin.firstCells, ← hn, this]

theorem src_none {size m c : Nat} {A : Option Addr} : Src C E w size (.slice A 0 c) [] [] :=
  ⟨fun w' => by simp [Builtin.lenOf], fun w' _ => by cases A <;> simp [Builtin.firstCells, loadCells, loadCellsFrom], by simp, by simp, by simp, by simp⟩

/-- A slice that is only read. -/
theorem src_slc {sx size : Nat} {rows : List (List AVal)} {cap : Option Nat} {xv : Value} (h0 : 0 < size) (h : PV w E.ok (.slc sx rows cap) xv) (hs : sx = size ∨ rows.length = 0) : ∃ news, Src C E w size xv rows news := by
  cases h with
  | slc _ _ _ A c val hsz hcell hc hcap hnil hm hr hv =>
    by_cases hl : rows.length = 0
    · have : rows = [] := List.eq_nil_of_length_eq_zero hl
      subst this
      exact ⟨[], src_none (m := 0)⟩
    · have hs : sx = size := hs.resolve_right hl
      subst hs
      have hex : ∀ k, k < rows.length * sx → ∃ r y, rows[k / sx]? = some r ∧ r[k % sx]? = some y := by
        intro k hk
        have hi : k / sx < rows.length := Nat.div_lt_of_lt_mul (by rw [Nat.mul_comm]; exact hk)
        have hj : k % sx < rows[k / sx].length := by rw [hsz _ (List.getElem_mem hi)]; exact Nat.mod_lt _ h0
        exact ⟨_, _, List.getElem?_eq_getElem hi, List.getElem?_eq_getElem hj⟩
      obtain ⟨a, hA⟩ : ∃ a, A = some a := by
        obtain ⟨r, y, h1, h2⟩ := hex 0 (Nat.mul_pos (by omega) h0)
        obtain ⟨a, ha, _⟩ := hr _ _ _ _ h1 h2
        exact ⟨a, ha⟩
      subst hA
      refine ⟨(List.range (rows.length * sx)).map fun k => val (k / sx) (k % sx), ⟨fun w' => by simp [Builtin.lenOf], fun w' hh => ?_, by simp, hsz, hcell, fun i r j y hi hj => ?_⟩⟩
      · refine run_first_some hh (by simp) (fun k u hk => ?_)
        have hlt := (List.getElem?_eq_some_iff.1 hk).1
        simp only [List.length_map, List.length_range] at hlt
        rw [List.getElem?_map, List.getElem?_range hlt] at hk
        simp only [Option.map_some, Option.some.injEq] at hk
        obtain ⟨r, y, h1, h2⟩ := hex k hlt
        obtain ⟨a', ha, _, hcl⟩ := hr _ _ _ _ h1 h2
        cases ha
        rw [Nat.mul_comm, Nat.div_add_mod] at hcl
        rw [hcl, hk]
      · have hi' := (List.getElem?_eq_some_iff.1 hi).1
        have hj' : j < sx := by rw [← hsz r (List.mem_of_getElem? hi)]; exact (List.getElem?_eq_some_iff.1 hj).1
        have hlt : i * sx + j < rows.length * sx := by
          have := pair_lt (i := i) (j := j) (i' := i + 1) (j' := 0) (sz := sx) (Nat.lt_succ_self _) hj'
          have h2 : (i + 1) * sx ≤ rows.length * sx := Nat.mul_le_mul_right _ hi'
          omega
        refine ⟨val i j, ?_, hv i r j y hi hj⟩
        rw [List.getElem?_map, List.getElem?_range hlt]
        simp only [Option.map_some, Option.some.injEq]
        rw [Nat.mul_comm i sx, Nat.mul_add_div h0, Nat.div_eq_of_lt hj', Nat.mul_add_mod, Nat.mod_eq_of_lt hj', Nat.add_zero]

theorem src_sound (hr : Rel C E sto w) {tx : TypeId} {x : AVal} {xv : Value} (hx : V w E x xv) {sx size : Nat} {rows : List (List AVal)} (h : newRows C.P sto tx x = some (sx, rows)) (h0 : 0 < size) (hs : sx = size ∨ rows.length = 0) :
    (∃ news, Src C E w size xv rows news) ∧ ∃ d, C.P.underlying tx = some d ∧ (d = .string ∨ ∃ e', d = .slice e') := by
  unfold newRows at h
  split at h
  · rename_i l
    split at h
    · rename_i ht
      cases h
      obtain ⟨s, rfl, hs'⟩ := hx.str_inv
      have hsz : s.size = l.length := by rw [← hs', Array.length_toList]; rfl
      refine ⟨?_, .string, strT_true ht, .inl rfl⟩
      by_cases hl : l.length = 0
      · have : l = [] := List.eq_nil_of_length_eq_zero hl
        subst this
        have : s = ByteArray.empty := by
          apply byteArray_ext; rw [hs']; rfl
        subst this
        exact ⟨[], fun w' => by simp [Builtin.lenOf], fun w' _ => by simp [Builtin.firstCells], by simp, by simp, by simp, by simp⟩
      · have hs1 : 1 = size := hs.resolve_right (by simpa using hl)
        subst hs1
        refine ⟨(s.data.map fun b => Value.int .u8 b.toNat).toList, ⟨fun w' => by simp [Builtin.lenOf, hsz], fun w' _ => ?_, ?_, ?_, ?_, ?_⟩⟩
        · have he : s.extract 0 s.size = s := by
            apply byteArray_ext
            simp
          simp only [Builtin.firstCells, List.length_map, ← hsz, he, Sem.run_pure, Array.toArray_toList]
        · simp [hsz]
        · intro r hr'; simp [bytesRow] at hr'; obtain ⟨b, _, rfl⟩ := hr'; rfl
        · intro r hr' y hy; simp [bytesRow] at hr'; obtain ⟨b, _, rfl⟩ := hr'; simp at hy; rw [hy]; rfl
        · intro i r j y hi hj
          rw [List.getElem?_map] at hi
          cases hb : l[i]? with
          | none => rw [hb] at hi; cases hi
          | some b =>
            rw [hb] at hi; simp [bytesRow] at hi; subst hi
            cases j with
            | zero =>
              simp at hj; subst hj
              refine ⟨.int .u8 b.toNat, ?_, .int _ _⟩
              rw [Nat.mul_one, Nat.add_zero, Array.getElem?_toList, Array.getElem?_map]
              rw [← hs', Array.getElem?_toList] at hb
              rw [hb]; rfl
            | succ j => simp at hj
    · cases h
  · rename_i x' hx'
    split at h
    · rename_i ht
      obtain ⟨e', he'⟩ := Option.isSome_iff_exists.1 ht
      refine ⟨?_, _, elemT_some he', .inr ⟨_, rfl⟩⟩
      unfold rowsOf at h
      split at h
      · cases h
        exact src_slc h0 hx.slc_inv hs
      · rename_i b n
        split at h
        · rename_i t0 sz0 rows0 cap0 hb
          split at h
          · rename_i hn
            cases h
            obtain ⟨hal, hle, hv⟩ := hx.bsl_inv
            have hv := hv (by rw [hr.cur, curOf_curB hb]; simp [curB, hn])
            subst hv
            by_cases hl : rows.length = 0
            · have : rows = [] := List.eq_nil_of_length_eq_zero hl
              subst this
              rw [← hn]
              exact ⟨[], src_none (m := 0)⟩
            · have hs1 : sx = size := hs.resolve_right hl
              subst hs1
              cases hr.blk b _ hb with
              | buf _ _ _ _ vals hg hn' hE hh hsv hl' hmx hcap h0' hsz hcell hv =>
                rw [hh, ← hn]
                have hle : rows.length * sx ≤ vals.size := by rw [hsv]; exact Nat.mul_le_mul_right _ hl'
                refine ⟨vals.toList.take (rows.length * sx), ⟨fun w' => by simp [Builtin.lenOf], fun w' hhw => ?_, by simp; omega, hsz, hcell, fun i r j y hi hj => ?_⟩⟩
                · refine run_first_some hhw (by simp; omega) (fun k u hk => ?_)
                  rw [List.getElem?_take] at hk
                  split at hk
                  · rw [Array.getElem?_toList] at hk
                    rw [addr_plain, Nat.zero_add]
                    simp only [World.cell?, hg, Option.isSome_none, Bool.false_eq_true, if_false]
                    exact hk
                  · cases hk
                · obtain ⟨v, hv1, hv2⟩ := hv i r j y hi hj
                  refine ⟨v, ?_, hv2⟩
                  have hi' := (List.getElem?_eq_some_iff.1 hi).1
                  have hj' : j < sx := by rw [← hsz r (List.mem_of_getElem? hi)]; exact (List.getElem?_eq_some_iff.1 hj).1
                  have hlt : i * sx + j < rows.length * sx := by
                    have := pair_lt (i := i) (j := j) (i' := i + 1) (j' := 0) (sz := sx) (Nat.lt_succ_self _) hj'
                    have h2 : (i + 1) * sx ≤ rows.length * sx := Nat.mul_le_mul_right _ hi'
                    omega
                  rw [List.getElem?_take, if_pos hlt, Array.getElem?_toList]; exact hv1
          · cases h
        · rename_i t0 sz0 hb
          split at h
          · rename_i hn
            cases h
            subst hn
            obtain ⟨hal, hle, hv⟩ := hx.bsl_inv
            have hv := hv (by rw [hr.cur, curOf_curB hb]; rfl)
            subst hv
            exact ⟨[], src_none (m := 0)⟩
          · cases h
        · cases h
      · cases h
    · cases h

/-- append, where there is room. -/
theorem run_room {t tx e ty : TypeId} {d : TypeDesc} {i : TypeInfo} {base : Option Addr} {n c : Nat} {x : Value} {rows : List (List AVal)} {news : List Value} (ht : C.P.underlying t = some (.slice e)) (hx : C.P.underlying tx = some d)
    (hd : d = .string ∨ ∃ e', d = .slice e') (hi : C.P.info? e = some i) (hs : Src C E w i.size x rows news) (hroom : n + rows.length ≤ c) {w' : World}
    (hst : (match base with | some a => storeCells (a.add (n * i.size)) news | none => pure ()).run C.P w = .ok () w') :
    (Builtin.append_ #[t, tx] ty #[.slice base n c, x]).run C.P w = .ok (.slice base (n + rows.length) c) w' := by
  have hf := hs.run w rfl
  have hl := hs.len w
  have key : ∀ d', d' = d → (d' = .string ∨ ∃ e', d' = .slice e') → (Builtin.append_ #[t, tx] ty #[.slice base n c, x]).run C.P w = .ok (.slice base (n + rows.length) c) w' := by
    intro d' hd' h
    subst hd'
    rcases h with rfl | ⟨e', rfl⟩ <;> cases base <;> simp only [] at hst
    all_goals simp [Builtin.append_, run_underlying ht, run_underlying hx, sizeOf, typeInfo, hi, hl, hroom, hf, hst]
    all_goals first | done | exact hst | (simp at hst; exact hst)
  exact key d rfl hd

/-- append, where a new block is made. -/
theorem run_grow {t tx e ty : TypeId} {d : TypeDesc} {i : TypeInfo} {z : Value} {base : Option Addr} {n c : Nat} {x : Value} {rows olds' : List (List AVal)} {news olds : List Value} (ht : C.P.underlying t = some (.slice e)) (hx : C.P.underlying tx = some d)
    (hd : d = .string ∨ ∃ e', d = .slice e') (hi : C.P.info? e = some i) (hz : i.zero = some z) (hs : Src C E w i.size x rows news) (ho : Src C E w i.size (.slice base n c) olds' olds) (hn : olds'.length = n)
    (hg : c < n + rows.length) (h63 : n + rows.length ≤ 9223372036854775807) (hfit : (n + rows.length) * i.bytes ≤ 140737488355328) :
    (Builtin.append_ #[t, tx] ty #[.slice base n c, x]).run C.P w =
      .ok (.slice (some ⟨w.heap.size, 0, none⟩) (n + rows.length) (grownCap w (n + rows.length) c e))
        (w.drew.alloc (.cells (olds.toArray ++ news.toArray ++ Builtin.zeroCells z.cells (grownCap w (n + rows.length) c e - (n + rows.length))) e)) := by
  have hnr : ¬ (n + rows.length ≤ c) := by omega
  have h63' : ¬ (9223372036854775807 < ((n : Int) + (rows.length : Int))) := by omega
  have h48' : ¬ (281474976710656 < Builtin.nextslicecap (n + rows.length) c * i.bytes) := by
    have := growslice_fits (need := n + rows.length) (old := c) (bytes := i.bytes) hg hfit
    omega
  have hf := hs.run w.drew rfl
  have hfo := ho.run w.drew rfl
  rw [hn] at hfo
  have hl := hs.len w
  rcases hd with rfl | ⟨e', rfl⟩
  · simp [Builtin.append_, run_underlying ht, run_underlying hx, sizeOf, typeInfo, zeroValue, hi, hz, hl, hnr, h63', h48', Question.forced, hf, hfo, newRow, grownCap]
    congr 2; apply Array.ext'; simp [List.append_assoc]
  · simp [Builtin.append_, run_underlying ht, run_underlying hx, sizeOf, typeInfo, zeroValue, hi, hz, hl, hnr, h63', h48', Question.forced, hf, hfo, newRow, grownCap]
    congr 2; apply Array.ext'; simp [List.append_assoc]

end
end Go.Proofs.YtaajfbcopafkaaaGreatDoor.Ai

namespace Go.Proofs.YtaajfbcopafkaaaGreatDoor.Ai
open Go
set_option linter.unusedVariables false
set_option linter.unusedSimpArgs false

section
variable {C : Ctx} {E : Env} {sto : List Blk} {w : World} {id : Nat}

theorem zeroCells_size {z : Array Value} {n : Nat} : (Builtin.zeroCells z n).size = n * z.size := by simp [Builtin.zeroCells]

/-- What stands in a new block behind append. -/
theorem grown_vals {size k : Nat} {rows olds' : List (List AVal)} {xo xn : Value} {news olds : List Value} {z : Array Value} (ho : Src C E w size xo olds' olds) (hs : Src C E w size xn rows news) :
    ∀ (i : Nat) r (j : Nat) y, (olds' ++ rows)[i]? = some r → r[j]? = some y → ∃ v, (olds.toArray ++ news.toArray ++ Builtin.zeroCells z k)[i * size + j]? = some v ∧ PV w E.ok y v := by
  intro i r j y hi hj
  rw [List.getElem?_append] at hi
  have key : ∀ (v : Value) (q : Nat), (olds ++ news)[q]? = some v → (olds.toArray ++ news.toArray ++ Builtin.zeroCells z k)[q]? = some v := by
    intro v q hq
    have hlt := (List.getElem?_eq_some_iff.1 hq).1
    rw [Array.getElem?_append, if_pos (by simpa using hlt)]
    simpa using hq
  by_cases h1 : i < olds'.length
  · rw [if_pos h1] at hi
    obtain ⟨v, hv1, hv2⟩ := ho.val i r j y hi hj
    refine ⟨v, key v _ ?_, hv2⟩
    rw [List.getElem?_append, if_pos (List.getElem?_eq_some_iff.1 hv1).1]; exact hv1
  · rw [if_neg h1] at hi
    obtain ⟨v, hv1, hv2⟩ := hs.val _ r j y hi hj
    refine ⟨v, key v _ ?_, hv2⟩
    have e : i * size + j = olds.length + ((i - olds'.length) * size + j) := by
      rw [ho.n, Nat.sub_mul]
      have : olds'.length * size ≤ i * size := Nat.mul_le_mul_right _ (by omega)
      omega
    rw [e, List.getElem?_append, if_neg (by omega)]
    rw [show olds.length + ((i - olds'.length) * size + j) - olds.length = (i - olds'.length) * size + j by omega]
    exact hv1

theorem good_append (hr : Rel C E sto w) (hid : ¬ E.al id) (hid2 : id ≤ sto.length) {t tx ty : TypeId} {s x : AVal} {sv xv : Value} (hs : V w E s sv) (hx : V w E x xv) {v : AVal} {ws : List (Nat × Blk)}
    (h : appendA C.P sto id t tx s x = some (v, ws)) {r : Result Next}
    (hrun : r = (do pure (Next.value (← Builtin.append_ #[t, tx] ty #[sv, xv])) : Sem Next).run C.P w) : OpGood C E sto w id r v ws := by
  unfold appendA at h
  split at h
  · rename_i e sx new he hnew
    split at h
    · rename_i h0
      split at h
      · rename_i hzok
        split at h
        rotate_left
        · cases h
        rename_i hsx
        have hu := elemT_some he
        obtain ⟨i, hi, hisz, hiby⟩ := szOf_pos h0
        obtain ⟨z, hz, hzs⟩ : ∃ z, i.zero = some z ∧ z.cells.size = i.size := by
          unfold zokT at hzok
          split at hzok
          · rename_i zs hzz
            obtain ⟨i', z, hi', hz, rfl⟩ := zeroT_some hzz
            rw [hi] at hi'; cases hi'
            have := (VL.zero (w := w) (E := E) (z := z)).1
            refine ⟨z, hz, ?_⟩
            rw [this, hisz]; simpa using hzok
          · cases hzok
        obtain ⟨⟨news, hsrc⟩, d, hud, hdd⟩ := src_sound hr hx hnew (by rw [hisz]; exact h0 : 0 < i.size) (by rw [hisz]; exact hsx)
        -- a new block
        have grow : ∀ {b : Nat} {base : Option Addr} {n c : Nat} {olds' : List (List AVal)} {olds : List Value}, sv = .slice base n c → Src C E w i.size (.slice base n c) olds' olds → olds'.length = n → c < n + new.length →
            n + new.length ≤ 9223372036854775807 → (n + new.length) * byOf C.P e ≤ maxRoom → b ≤ sto.length → ((¬ E.al b ∧ b = id) ∨ (E.al b ∧ E.sz b = szOf C.P e ∧ ∃ m, E.cur b = some m ∧ m < (olds' ++ new).length)) →
            OpGood C E sto w id r (.bsl b (olds' ++ new).length) [(b, .buf e (szOf C.P e) (olds' ++ new) none)] := by
          intro b base n c olds' olds hsv ho hn hg h63 hfit hb hidb
          have hmx : n + new.length ≤ maxLen := by simp only [maxLen]; omega
          have hrg := run_grow (ty := ty) hu hud hdd hi hz hsrc ho hn hg h63 (by rw [hiby]; exact hfit)
          have hge := grownCap_ge w (n + new.length) c e
          have hcm := grownCap_le_maxLen w (n + new.length) c e hmx
          have hlen : (olds' ++ new).length = n + new.length := by rw [List.length_append, hn]
          refine good_buf hr (w' := w.drew.alloc (.cells (olds.toArray ++ news.toArray ++ Builtin.zeroCells z.cells (grownCap w (n + new.length) c e - (n + new.length))) e)) (c := grownCap w (n + new.length) c e)
            (vals := olds.toArray ++ news.toArray ++ Builtin.zeroCells z.cells (grownCap w (n + new.length) c e - (n + new.length))) hb hidb h0 ?_ (by omega) hcm (fun k hk => by cases hk) ?_ ?_ ?_ rfl rfl rfl rfl ?_
          · rw [Array.size_append, Array.size_append, List.size_toArray, List.size_toArray, ho.n, hsrc.n, zeroCells_size, hzs, hn, hisz, ← Nat.add_mul, ← Nat.add_mul]
            congr 1; omega
          · intro r' hr'
            rw [← hisz]
            rcases List.mem_append.1 hr' with h | h
            · exact ho.sz r' h
            · exact hsrc.sz r' h
          · intro r' hr'
            rcases List.mem_append.1 hr' with h | h
            · exact ho.cell r' h
            · exact hsrc.cell r' h
          · rw [← hisz]; exact grown_vals ho hsrc
          · rw [hrun, hsv, hlen]; exact run_v hrg
        split at h
        · rename_i b n
          split at h
          · rename_i te sz rows cap0 hb
            split at h
            · rename_i hn
              split at h
              · rename_i hte
                split at h
                · rename_i hsz
                  split at h
                  · rename_i hfit
                    split at h
                    · rename_i h63
                      cases h
                      subst hn; subst hte; subst hsz
                      obtain ⟨hal, hle, hv⟩ := hs.bsl_inv
                      have hcur : E.cur b = some rows.length := by rw [hr.cur, curOf_curB hb]; rfl
                      have hv := hv hcur
                      have hblk := hr.blk b _ hb
                      cases hblk with
                      | buf _ _ _ _ vals hg hn' hE hh hsv hl hmx hcap h0' hsz hcell hval =>
                        rw [hh] at hv
                        by_cases hroom : rows.length + new.length ≤ E.cap b
                        · have hlive : live sto b := live_iff.2 ⟨_, hb, rfl⟩
                          have hblt := live_lt hlive
                          have hfit2 : rows.length * szOf C.P te + news.length ≤ vals.size := by
                            rw [hsrc.n, hsv, hisz, ← Nat.add_mul]; exact Nat.mul_le_mul_right _ hroom
                          have hst := run_storeCells_at C.P (E.ι b) (rows.length * szOf C.P te) te news 0 vals w hg (by simpa using hfit2) (hsrc.one (by rw [hisz]; exact h0))
                          simp only [Nat.add_zero] at hst
                          have hrr := run_room (ty := ty) (base := some ⟨E.ι b, 0, none⟩) (n := rows.length) (c := E.cap b) hu hud hdd hi hsrc hroom (w' := w.setRow (E.ι b) (setArr vals (rows.length * szOf C.P te) news))
                            (by simp only [addr_plain, Nat.zero_add, hisz]; exact hst)
                          have hsize : (w.setRow (E.ι b) (setArr vals (rows.length * szOf C.P te) news)).heap.size = w.heap.size := size_setRow _ _ _
                          have hother : ∀ k, k < w.heap.size → (live sto b → E.ι b ≠ k) → (w.setRow (E.ι b) (setArr vals (rows.length * szOf C.P te) news)).heap[k]? = w.heap[k]? := fun k hk hne => setRow_other w _ k _ (fun e => hne hlive e.symm)
                          have hcB : curB (.buf te (szOf C.P te) (rows ++ new) none) = some (rows ++ new).length := rfl
                          have hal' : (E.al b ∧ (E.cur b = none → curB (.buf te (szOf C.P te) (rows ++ new) none) = none ∧ E.ι b = E.ι b) ∧ (∀ m, E.cur b = some m → ∃ m', curB (.buf te (szOf C.P te) (rows ++ new) none) = some m' ∧ m ≤ m' ∧ E.sz b = E.sz b ∧ (m' = m → E.ι b = E.ι b ∧ E.cap b = E.cap b ∧ E.hd b = E.hd b))) ∨ (¬ E.al b ∧ b ≤ sto.length) :=
                            .inl ⟨hal, fun h => by (rw [hcur] at h; cases h), fun m' hm' => by (rw [hcur] at hm'; cases hm'; exact ⟨_, hcB, by simp, rfl, fun _ => ⟨rfl, rfl, rfl⟩⟩)⟩
                          have hst2 := step_upd hr b (.buf te (szOf C.P te) (rows ++ new) none) (E.ι b) (E.cap b) (E.sz b) (E.hd b) (Nat.le_of_lt hblt) (w' := w.setRow (E.ι b) (setArr vals (rows.length * szOf C.P te) news)) rfl rfl rfl (Nat.le_of_eq hsize.symm) hother (fun _ => .inl ⟨hlive, rfl⟩) hal'
                          have hpmono : ∀ {y : AVal} {v : Value}, PV w E.ok y v → PV (w.setRow (E.ι b) (setArr vals (rows.length * szOf C.P te) news)) E.ok y v := fun h => h.mono (fun _ h => h) (Step.okHeap hr hst2)
                          have hrel := rel_upd hr b (.buf te (szOf C.P te) (rows ++ new) none) (E.ι b) (E.cap b) (E.sz b) (E.hd b) (Nat.le_of_lt hblt) (w' := w.setRow (E.ι b) (setArr vals (rows.length * szOf C.P te) news)) rfl rfl rfl (Nat.le_of_eq hsize.symm) hother (fun _ => .inl ⟨hlive, rfl⟩) hal'
                            (.buf te (szOf C.P te) (rows ++ new) none (setArr vals (rows.length * szOf C.P te) news) (by rw [env_set_new.1]; exact setRow_heap w _ vals _ _ _ hg) (by rw [env_set_new.1]; exact hn')
                              (by rw [env_set_new.2.2.1]; exact hE) (by rw [env_set_new.2.2.2.1, env_set_new.1]; exact hh) (by rw [setArr_size hfit2, env_set_new.2.1]; exact hsv) (by rw [env_set_new.2.1]; simpa using hroom)
                              (by rw [env_set_new.2.1]; exact hmx) (fun k hk => by cases hk) h0
                              (fun r' hr' => by
                                rcases List.mem_append.1 hr' with h | h
                                · exact hsz r' h
                                · rw [← hisz]; exact hsrc.sz r' h)
                              (fun r' hr' => by
                                rcases List.mem_append.1 hr' with h | h
                                · exact hcell r' h
                                · exact hsrc.cell r' h)
                              (fun k r' j y hk hj => by
                                rw [List.getElem?_append] at hk
                                by_cases h1 : k < rows.length
                                · rw [if_pos h1] at hk
                                  obtain ⟨v, hv1, hv2⟩ := hval k r' j y hk hj
                                  refine ⟨v, ?_, hpmono hv2⟩
                                  have hj' : j < szOf C.P te := by rw [← hsz r' (List.mem_of_getElem? hk)]; exact (List.getElem?_eq_some_iff.1 hj).1
                                  have := pair_lt (i := k) (j := j) (i' := rows.length) (j' := 0) (sz := szOf C.P te) h1 hj'
                                  rw [setArr_get hfit2, if_neg (by omega)]; exact hv1
                                · rw [if_neg h1] at hk
                                  obtain ⟨v, hv1, hv2⟩ := hsrc.val _ r' j y hk hj
                                  refine ⟨v, ?_, hpmono hv2⟩
                                  have hlt := (List.getElem?_eq_some_iff.1 hv1).1
                                  rw [hisz] at hv1 hlt
                                  have hmul : rows.length * szOf C.P te ≤ k * szOf C.P te := Nat.mul_le_mul_right _ (by omega)
                                  have e : k * szOf C.P te + j - rows.length * szOf C.P te = (k - rows.length) * szOf C.P te + j := by rw [Nat.sub_mul]; omega
                                  rw [setArr_get hfit2, if_pos ⟨by omega, by omega⟩, e]; exact hv1))
                          refine ⟨_, _, _, _, by rw [hrun, hv]; exact run_v hrr, rfl, hrel.1, hrel.2, ?_, fun y hy => ?_⟩
                          · refine .bsl _ _ _ (.inl rfl) ?_ ?_
                            · intro m hm'; rw [env_set_new.2.2.2.2.1, hcB] at hm'; cases hm'; exact Nat.le_refl _
                            · intro _; rw [env_set_new.2.2.2.1, env_set_new.2.1, hh, List.length_append]
                          · rcases hy with rfl | hy
                            · exact .inl hal
                            · exact .inl hy
                        · have hsl : V w E (.bsl b rows.length) sv := hs
                          have hrowsrc : newRows C.P sto t (.bsl b rows.length) = some (szOf C.P te, rows) := by
                            simp [newRows, he, rowsOf, hb]
                          obtain ⟨⟨olds, ho⟩, _⟩ := src_sound hr hs hrowsrc (by rw [hisz]; exact h0 : 0 < i.size) (.inl hisz.symm)
                          rw [hv] at ho
                          have hblt : b ≤ sto.length := Nat.le_of_lt (List.getElem?_eq_some_iff.1 hb).1
                          exact grow hv ho rfl (by omega) h63 hfit hblt (.inr ⟨hal, hE, _, hcur, by simp; omega⟩)
                    · cases h
                  · cases h
                · cases h
              · cases h
            · cases h
          · rename_i te sz hb
            split at h
            · rename_i hn
              split at h
              · rename_i hte
                split at h
                · rename_i hsz
                  split at h
                  · rename_i hfit
                    split at h
                    · rename_i h63
                      subst hn; subst hte; subst hsz
                      obtain ⟨hal, hle, hv⟩ := hs.bsl_inv
                      have hcur : E.cur b = some 0 := by rw [hr.cur, curOf_curB hb]; rfl
                      have hv := hv hcur
                      cases hr.blk b _ hb with
                      | nbuf _ _ hcp hE =>
                        rw [hcp] at hv
                        by_cases hnil : new = []
                        · rw [if_pos hnil] at h
                          cases h
                          subst hnil
                          have hn0 : news = [] := List.eq_nil_of_length_eq_zero (by rw [hsrc.n]; simp)
                          have hrr := run_room (ty := ty) (base := E.hd b) (n := 0) (c := 0) (w' := w) hu hud hdd hi hsrc (by simp) (by subst hn0; cases E.hd b <;> simp [storeCells])
                          have e1 : (Value.slice (E.hd b) (0 + ([] : List (List AVal)).length) 0) = sv := by rw [hv]; rfl
                          rw [← hv, e1] at hrr
                          exact good_pure hr (by rw [hrun]; exact run_v hrr) hs
                        · rw [if_neg hnil] at h
                          cases h
                          have hpos : 0 < new.length := by
                            cases new with
                            | nil => exact (hnil rfl).elim
                            | cons a l => simp
                          have ho : Src C E w i.size (.slice (E.hd b) 0 0) [] [] := src_none (m := 0)
                          have hblt : b ≤ sto.length := Nat.le_of_lt (List.getElem?_eq_some_iff.1 hb).1
                          have := grow hv ho rfl (by omega) (by omega) (by simpa using hfit) hblt (.inr ⟨hal, hE, _, hcur, by simpa using hpos⟩)
                          simpa using this
                    · cases h
                  · cases h
                · cases h
              · cases h
            · cases h
          · cases h
        · rename_i sz rows c
          by_cases hnil : new = []
          · rw [if_pos hnil] at h
            cases h
            subst hnil
            have hn0 : news = [] := List.eq_nil_of_length_eq_zero (by rw [hsrc.n]; simp)
            have hpv := hs.slc_inv
            cases hpv with
            | slc _ _ _ A c' val hsz hcell hc hcap hnl hm hrd hvv =>
              have hrr := run_room (ty := ty) (base := A) (n := rows.length) (c := c') (w' := w) hu hud hdd hi hsrc (by simpa using hc) (by subst hn0; cases A <;> simp [storeCells])
              simp only [List.length_nil, Nat.add_zero] at hrr
              exact good_pure hr (by rw [hrun]; exact run_v hrr) hs
          · rw [if_neg hnil] at h
            split at h
            · rename_i hsz
              split at h
              · rename_i hg
                split at h
                · rename_i hfit
                  split at h
                  · rename_i h63
                    cases h
                    have hpv := hs.slc_inv
                    obtain ⟨olds, ho⟩ := src_slc (C := C) (by rw [hisz]; exact h0 : 0 < i.size) hpv (by rw [hisz]; exact hsz)
                    cases hpv with
                    | slc _ _ _ A c' val hsz hcell hc hcap hnl hm hrd hvv =>
                      have := hcap c rfl
                      subst this
                      exact grow rfl ho rfl hg h63 hfit hid2 (.inl ⟨hid, rfl⟩)
                  · cases h
                · cases h
              · cases h
            · cases h
        · cases h
      · cases h
    · cases h
  · cases h

end
end Go.Proofs.YtaajfbcopafkaaaGreatDoor.Ai
