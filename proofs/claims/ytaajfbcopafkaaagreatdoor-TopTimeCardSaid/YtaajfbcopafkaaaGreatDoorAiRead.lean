/- What a statement's arguments read as, in abstract values; and from a run over abstract values to what the statement says. Own work of this seat. -/
import Derived.Test.YtaajfbcopafkaaaGreatDoorAiLd
import Derived.OpenShut
import Derived.Below
import Derived.Carry
import Derived.ProofKit
import Derived.Lib.LaidU8
namespace Go.Proofs.YtaajfbcopafkaaaGreatDoor.Ai
open Go Go.RowKit
set_option linter.unusedVariables false
set_option linter.unusedSimpArgs false

/-! The cells of a value of a type. -/
def fieldsS (S : TypeId → List AVal → Prop) : List Field → List AVal → Prop
  | [], xs => xs = []
  | f :: fs, xs => ∃ p q, xs = p ++ q ∧ S f.type p ∧ fieldsS S fs q
def timesS (S : List AVal → Prop) : Nat → List AVal → Prop
  | 0, xs => xs = []
  | n + 1, xs => ∃ p q, xs = p ++ q ∧ S p ∧ timesS S n q
def AS (P : Program) : Nat → TypeId → List AVal → Prop
  | 0, _, _ => False
  | n + 1, t, xs => match P.underlying t with
    | some .bool => ∃ b, xs = [.bool b]
    | some (.int k) => ∃ m, xs = [.int k m] ∧ (Lit.int k m).wf = true
    | some .string => ∃ s, xs = [.str s] ∧ s.length ≤ maxLen
    | some (.slice e) => ∃ rows cap, xs = [.slc (P.cellsOf e) rows (some cap)] ∧ rows.length ≤ cap ∧ cap ≤ maxLen ∧ ∀ r, r ∈ rows → AS P n e r
    | some (.struct fs) => fieldsS (AS P n) fs.toList xs
    | some (.array m e) => timesS (AS P n e) m xs
    | _ => False
def offsT (P : Program) : Nat → List Field → Option Nat
  | off, [] => some off
  | off, f :: fs => if f.offset = off then offsT P (off + P.cellsOf f.type) fs else none
/-- Types that hold plain data alone, with all that they are made of. -/
def plainB (P : Program) (ts : List TypeId) : Bool := ts.all fun t => match P.underlying t with
  | some .bool => true
  | some (.int _) => true
  | some .string => true
  | some (.slice e) => ts.contains e
  | some (.struct fs) => (fs.toList.all fun f => ts.contains f.type) && (offsT P 0 fs.toList == some (P.cellsOf t))
  | some (.array m e) => ts.contains e && (P.cellsOf t == m * P.cellsOf e)
  | _ => false

mutual
def flatD {H : Type} : DataW H → Option (List AVal)
  | .lit (.int k n) => some [.int k n]
  | .lit (.bool b) => some [.bool b]
  | .lit (.string l) => some [.str l]
  | .agg ds => flatDs ds
  | _ => none
def flatDs {H : Type} : List (DataW H) → Option (List AVal)
  | [] => some []
  | d :: r => (flatD d).bind fun x => (flatDs r).map (x ++ ·)
end

section
variable {H : Type} {enc : TypeId × Value → H} {P : Program} {w : World} {sp : Nat → Bool} {held : Bool}

/-- Cells read so. -/
def CellsOK (w : World) (xs : List AVal) (cs : List Value) : Prop :=
  xs.length = cs.length ∧ (∀ (i : Nat) x v, xs[i]? = some x → cs[i]? = some v → PV w (fun k => k < w.heap.size) x v) ∧ ∀ x, x ∈ xs → cellish x = true

theorem CellsOK.one {x : AVal} {v : Value} (h : PV w (fun k => k < w.heap.size) x v) (hc : cellish x = true) : CellsOK w [x] [v] := by
  refine ⟨rfl, fun i x' v' hx hv => ?_, fun y hy => by rw [List.mem_singleton] at hy; rw [hy]; exact hc⟩
  cases i with
  | zero => simp at hx hv; subst hx; subst hv; exact h
  | succ i => simp at hx
theorem CellsOK.append {xs ys : List AVal} {cs ds : List Value} (h1 : CellsOK w xs cs) (h2 : CellsOK w ys ds) : CellsOK w (xs ++ ys) (cs ++ ds) := by
  refine ⟨by rw [List.length_append, List.length_append, h1.1, h2.1], fun i x v hx hv => ?_, fun x hx => (List.mem_append.1 hx).elim (h1.2.2 x) (h2.2.2 x)⟩
  by_cases hi : i < xs.length
  · rw [List.getElem?_append_left hi] at hx
    rw [List.getElem?_append_left (by rw [← h1.1]; exact hi)] at hv
    exact h1.2.1 i x v hx hv
  · rw [List.getElem?_append_right (by omega)] at hx
    rw [List.getElem?_append_right (by rw [← h1.1]; omega), ← h1.1] at hv
    exact h2.2.1 _ x v hx hv

/-- What is to be shown of a type's readings. -/
def Rd (H : Type) (enc : TypeId × Value → H) (P : Program) (w : World) (sp : Nat → Bool) (held : Bool) (n : Nat) (t : TypeId) : Prop :=
  ∀ cs (d : DataW H) ps, DataW.trod enc P w 0 sp held n t cs = some (d, ps) → ∃ xs, AS P n t xs ∧ CellsOK w xs cs ∧ ∀ ys, flatD d = some ys → xs = ys

theorem read_fields {n : Nat} {cs : List Value} : ∀ (fs : List Field) (off e : Nat) (ys : List (DataW H × List MemPlace)), (∀ f, f ∈ fs → Rd H enc P w sp held n f.type) → offsT P off fs = some e → e ≤ cs.length →
    (∀ (i : Nat) f, fs[i]? = some f → DataW.trod enc P w 0 sp held n f.type ((cs.drop f.offset).take (P.cellsOf f.type)) = ys[i]?) → ys.length = fs.length →
    off ≤ e ∧ ∃ xs, fieldsS (AS P n) fs xs ∧ CellsOK w xs ((cs.drop off).take (e - off)) ∧ ∀ zs, flatDs (ys.map (·.1)) = some zs → xs = zs
  | [], off, e, ys, _, ho, _, _, hl => by
    simp only [offsT, Option.some.injEq] at ho
    subst ho
    have : ys = [] := List.eq_nil_of_length_eq_zero hl
    subst this
    refine ⟨Nat.le_refl _, [], rfl, ?_, fun zs h => by simpa [flatDs] using h⟩
    rw [Nat.sub_self, List.take_zero]
    exact ⟨rfl, fun i x v h => by simp at h, fun x h => by cases h⟩
  | f :: fs, off, e, ys, hR, ho, he, ht, hl => by
    simp only [offsT] at ho
    split at ho
    · rename_i hof
      cases ys with
      | nil => simp at hl
      | cons y ys =>
        have h0 := ht 0 f rfl
        simp only [List.getElem?_cons_zero] at h0
        obtain ⟨h1, q, hq, hqc, hqf⟩ := read_fields fs (off + P.cellsOf f.type) e ys (fun g hg => hR g (List.mem_cons_of_mem _ hg)) ho he (fun i g hg => by have := ht (i + 1) g hg; simpa using this) (by simpa using hl)
        obtain ⟨p, hp, hpc, hpf⟩ := hR f List.mem_cons_self _ y.1 y.2 h0
        refine ⟨by omega, p ++ q, ⟨p, q, rfl, hp, hq⟩, ?_, ?_⟩
        · have e1 : (cs.drop off).take (e - off) = (cs.drop f.offset).take (P.cellsOf f.type) ++ (cs.drop (off + P.cellsOf f.type)).take (e - (off + P.cellsOf f.type)) := by
            rw [hof, show e - off = P.cellsOf f.type + (e - (off + P.cellsOf f.type)) by omega, List.take_add, List.drop_drop]
          rw [e1]
          exact hpc.append hqc
        · intro zs hz
          simp only [List.map_cons, flatDs] at hz
          obtain ⟨a, ha, hz⟩ := Option.bind_eq_some_iff.1 hz
          obtain ⟨b, hb, rfl⟩ := Option.map_eq_some_iff.1 hz
          rw [hpf a ha, hqf b hb]
    · cases ho

theorem read_times {n : Nat} {e : TypeId} {cs : List Value} (hR : Rd H enc P w sp held n e) : ∀ (m b : Nat) (ys : List (DataW H × List MemPlace)), (b + m) * P.cellsOf e ≤ cs.length →
    (∀ i, i < m → DataW.trod enc P w 0 sp held n e ((cs.drop ((b + i) * P.cellsOf e)).take (P.cellsOf e)) = ys[i]?) → ys.length = m →
    ∃ xs, timesS (AS P n e) m xs ∧ CellsOK w xs ((cs.drop (b * P.cellsOf e)).take (m * P.cellsOf e)) ∧ ∀ zs, flatDs (ys.map (·.1)) = some zs → xs = zs
  | 0, b, ys, _, _, hl => by
    have : ys = [] := List.eq_nil_of_length_eq_zero hl
    subst this
    refine ⟨[], rfl, ?_, fun zs h => by simpa [flatDs] using h⟩
    rw [Nat.zero_mul, List.take_zero]
    exact ⟨rfl, fun i x v h => by simp at h, fun x h => by cases h⟩
  | m + 1, b, ys, he, ht, hl => by
    cases ys with
    | nil => simp at hl
    | cons y ys =>
      have h0 := ht 0 (by omega)
      simp only [List.getElem?_cons_zero, Nat.add_zero] at h0
      obtain ⟨q, hq, hqc, hqf⟩ := read_times hR m (b + 1) ys (by rw [show b + 1 + m = b + (m + 1) by omega]; exact he) (fun i hi => by have := ht (i + 1) (by omega); rw [show b + (i + 1) = b + 1 + i by omega] at this; simpa using this) (by simpa using hl)
      obtain ⟨p, hp, hpc, hpf⟩ := hR _ y.1 y.2 h0
      refine ⟨p ++ q, ⟨p, q, rfl, hp, hq⟩, ?_, ?_⟩
      · have e1 : (cs.drop (b * P.cellsOf e)).take ((m + 1) * P.cellsOf e) = (cs.drop (b * P.cellsOf e)).take (P.cellsOf e) ++ (cs.drop ((b + 1) * P.cellsOf e)).take (m * P.cellsOf e) := by
          rw [show (m + 1) * P.cellsOf e = P.cellsOf e + m * P.cellsOf e by rw [Nat.add_mul, Nat.one_mul]; omega, List.take_add, List.drop_drop, show b * P.cellsOf e + P.cellsOf e = (b + 1) * P.cellsOf e by rw [Nat.add_mul, Nat.one_mul]]
        rw [e1]
        exact hpc.append hqc
      · intro zs hz
        simp only [List.map_cons, flatDs] at hz
        obtain ⟨a, ha, hz⟩ := Option.bind_eq_some_iff.1 hz
        obtain ⟨c, hb, rfl⟩ := Option.map_eq_some_iff.1 hz
        rw [hpf a ha, hqf c hb]

theorem addr_add (a : Addr) (m j : Nat) : (a.add m).add j = a.add (m + j) := by
  unfold Addr.add
  by_cases hm : m = 0
  · subst hm; simp
  · by_cases hj : j = 0
    · subst hj; simp [hm]
    · rw [if_neg hm, if_neg hj, if_neg (by omega)]; simp [Nat.add_assoc]
theorem cell_block {a : Addr} {v : Value} (h : w.cell? a = some v) : a.block < w.heap.size := by
  rcases Nat.lt_or_ge a.block w.heap.size with h' | h'
  · exact h'
  · simp [World.cell?, Array.getElem?_eq_none h'] at h
theorem add_block (a : Addr) (n : Nat) : (a.add n).block = a.block := by unfold Addr.add; split <;> rfl

theorem read_slice {n : Nat} {t e : TypeId} {cs : List Value} {d : DataW H} {ps : List MemPlace} (hR : ∀ m, m < n → Rd H enc P w sp held m e) (hu : P.underlying t = some (.slice e)) (h : DataW.trod enc P w 0 sp held n t cs = some (d, ps)) :
    ∃ xs, AS P n t xs ∧ CellsOK w xs cs ∧ ∀ ys, flatD d = some ys → xs = ys := by
  have hfl : ∀ a b, d = .slice a b ∨ d = .nil → ∀ ys, flatD d ≠ some ys := by
    rintro a b (rfl | rfl) ys <;> simp [flatD]
  cases n with
  | zero => simp [DataW.trod] at h
  | succ n =>
    rcases DataW.trod_slice hu h with ⟨rfl, hx⟩ | ⟨a, len, cap, elems, rest, m, hm, rfl, hx, _, hlc, hmx, hlen, hel, _, _⟩
    · simp only [Prod.mk.injEq] at hx
      refine ⟨[.slc (P.cellsOf e) [] (some 0)], ?_, CellsOK.one ?_ rfl, fun ys hy => (hfl [] [] (.inr hx.1) ys hy).elim⟩
      · simp only [AS, hu]
        exact ⟨[], 0, rfl, Nat.le_refl _, Nat.zero_le _, fun r hr => by cases hr⟩
      · exact .slc _ [] _ none 0 (fun _ _ => undef) (fun r hr => by cases hr) (fun r hr => by cases hr) (Nat.le_refl _) (fun k hk => by cases hk; rfl) (fun _ => rfl) (Nat.zero_le _) (fun i r j x hi => by simp at hi) (fun i r j x hi => by simp at hi)
    · have hm : m = n := by omega
      subst hm
      simp only [Prod.mk.injEq] at hx
      have key : ∀ i, ∃ F : List AVal × List Value, i < len → AS P m e F.1 ∧ CellsOK w F.1 F.2 ∧ w.cells? 0 (a.add (i * P.cellsOf e)) (P.cellsOf e) = some F.2 := by
        intro i
        by_cases hi : i < len
        · have h1 := hel i hi
          rw [List.getElem?_eq_getElem (by omega)] at h1
          obtain ⟨c, hc, h2⟩ := Option.bind_eq_some_iff.1 h1
          obtain ⟨xs, g1, g2, _⟩ := hR m (by omega) c _ _ h2
          exact ⟨(xs, c), fun _ => ⟨g1, g2, hc⟩⟩
        · exact ⟨([], []), fun h => absurd h hi⟩
      obtain ⟨F, hF⟩ := Classical.axiomOfChoice key
      have hget : ∀ (i : Nat) r, ((List.range len).map fun i => (F i).1)[i]? = some r → i < len ∧ r = (F i).1 := by
        intro i r hi
        rw [List.getElem?_map] at hi
        obtain ⟨j, hj, rfl⟩ := Option.map_eq_some_iff.1 hi
        obtain ⟨hj1, hj2⟩ := List.getElem?_eq_some_iff.1 hj
        simp at hj2
        subst hj2
        exact ⟨by simpa using hj1, rfl⟩
      have hmem : ∀ r, r ∈ ((List.range len).map fun i => (F i).1) → ∃ i, i < len ∧ r = (F i).1 := by
        intro r hr
        obtain ⟨i, hi, rfl⟩ := List.mem_map.1 hr
        exact ⟨i, List.mem_range.1 hi, rfl⟩
      have hrl : ((List.range len).map fun i => (F i).1).length = len := by simp
      refine ⟨[.slc (P.cellsOf e) ((List.range len).map fun i => (F i).1) (some cap)], ?_, CellsOK.one ?_ rfl, fun ys hy => (hfl _ _ (.inl hx.1) ys hy).elim⟩
      · simp only [AS, hu]
        refine ⟨_, cap, rfl, by rw [hrl]; exact hlc, hmx, fun r hr => ?_⟩
        obtain ⟨i, hi, rfl⟩ := hmem r hr
        exact (hF i hi).1
      · have hpv : PV w (fun k => k < w.heap.size) (.slc (P.cellsOf e) ((List.range len).map fun i => (F i).1) (some cap)) (.slice (some a) ((List.range len).map fun i => (F i).1).length cap) := by
          refine .slc _ _ _ (some a) cap (fun i j => (F i).2.getD j undef) (fun r hr => ?_) (fun r hr x hx => ?_) (by rw [hrl]; exact hlc) (fun k hk => by cases hk; rfl) (fun h => by cases h) hmx (fun i r j x hi hj => ?_) (fun i r j x hi hj => ?_)
          · obtain ⟨i, hi, rfl⟩ := hmem r hr
            obtain ⟨_, g2, g3⟩ := hF i hi
            rw [g2.1]
            exact (World.cells?_some g3).2.1
          · obtain ⟨i, hi, rfl⟩ := hmem r hr
            exact (hF i hi).2.1.2.2 x hx
          · obtain ⟨hlt, rfl⟩ := hget i r hi
            obtain ⟨_, g2, g3⟩ := hF i hlt
            have hjl := (List.getElem?_eq_some_iff.1 hj).1
            obtain ⟨_, c1, c2⟩ := World.cells?_some g3
            have hc := c2 j (by rw [← c1, ← g2.1]; exact hjl)
            rw [addr_add] at hc
            have hv : (F i).2[j]? = some ((F i).2.getD j undef) := by
              rw [List.getElem?_eq_getElem (by rw [← g2.1]; exact hjl), List.getD_eq_getElem?_getD, List.getElem?_eq_getElem (by rw [← g2.1]; exact hjl)]; rfl
            rw [hv] at hc
            refine ⟨a, rfl, ?_, hc⟩
            have := cell_block hc
            rwa [add_block] at this
          · obtain ⟨hlt, rfl⟩ := hget i r hi
            obtain ⟨_, g2, _⟩ := hF i hlt
            have hjl := (List.getElem?_eq_some_iff.1 hj).1
            refine g2.2.1 j x _ hj ?_
            rw [List.getElem?_eq_getElem (by rw [← g2.1]; exact hjl), List.getD_eq_getElem?_getD, List.getElem?_eq_getElem (by rw [← g2.1]; exact hjl)]; rfl
        rwa [hrl] at hpv

theorem read_all {ts : List TypeId} (hp : plainB P ts = true) : ∀ (n : Nat) (t : TypeId), t ∈ ts → Rd H enc P w sp held n t := by
  intro n
  induction n using Nat.strongRecOn with
  | _ n ih =>
    intro t ht cs d ps h
    have hpt := List.all_eq_true.1 hp t ht
    cases n with
    | zero => simp [DataW.trod] at h
    | succ n =>
      split at hpt
      · rename_i hu
        obtain ⟨b, rfl, hx⟩ := DataW.trod_bool hu h
        simp only [Prod.mk.injEq] at hx
        refine ⟨[.bool b], by simp [AS, hu], CellsOK.one (.bool b) rfl, fun ys hy => by rw [hx.1] at hy; simpa [flatD] using hy⟩
      · rename_i k hu
        obtain ⟨m, rfl, hx, hw⟩ := DataW.trod_int hu h
        simp only [Prod.mk.injEq] at hx
        refine ⟨[.int k m], by simp only [AS, hu]; exact ⟨m, rfl, hw⟩, CellsOK.one (.int k m) rfl, fun ys hy => by rw [hx.1] at hy; simpa [flatD] using hy⟩
      · rename_i hu
        obtain ⟨s, rfl, hx, hs⟩ := DataW.trod_string hu h
        simp only [Prod.mk.injEq] at hx
        refine ⟨[.str s.data.toList], by simp only [AS, hu]; exact ⟨_, rfl, by rw [Array.length_toList]; exact hs⟩, CellsOK.one (.str s _ rfl) rfl, fun ys hy => by rw [hx.1] at hy; simpa [flatD] using hy⟩
      · rename_i e hu
        exact read_slice (fun m hm => ih m hm e (by simpa using hpt)) hu h
      · rename_i fs hu
        simp only [Bool.and_eq_true, beq_iff_eq] at hpt
        obtain ⟨ys, m, hm, hx, hl, hyl, hy⟩ := DataW.trod_struct hu h
        have hm : m = n := by omega
        subst hm
        simp only [Prod.mk.injEq] at hx
        obtain ⟨_, xs, h1, h2, h3⟩ := read_fields (enc := enc) (w := w) (sp := sp) (held := held) (n := m) (cs := cs) fs.toList 0 (P.cellsOf t) ys (fun f hf => ih m (by omega) f.type (by have := List.all_eq_true.1 hpt.1 f hf; simpa using this)) hpt.2 (by omega)
          (fun i f hf => hy i f (by simpa using hf)) (by simpa using hyl)
        refine ⟨xs, by simp only [AS, hu]; exact h1, ?_, fun ys hy => by rw [hx.1] at hy; exact h3 _ (by simpa [flatD] using hy)⟩
        rw [List.drop_zero, Nat.sub_zero, List.take_of_length_le (by omega)] at h2
        exact h2
      · rename_i k e hu
        simp only [Bool.and_eq_true, beq_iff_eq] at hpt
        obtain ⟨ys, m, hm, hx, hl, hyl, hy⟩ := DataW.trod_array hu h
        have hm : m = n := by omega
        subst hm
        simp only [Prod.mk.injEq] at hx
        obtain ⟨xs, h1, h2, h3⟩ := read_times (enc := enc) (w := w) (sp := sp) (held := held) (cs := cs) (ih m (by omega) e (by simpa using hpt.1)) k 0 ys (by rw [Nat.zero_add]; omega) (fun i hi => by rw [Nat.zero_add]; exact hy i hi) hyl
        refine ⟨xs, by simp only [AS, hu]; exact h1, ?_, fun ys hy => by rw [hx.1] at hy; exact h3 _ (by simpa [flatD] using hy)⟩
        rw [Nat.zero_mul, List.drop_zero, List.take_of_length_le (by omega)] at h2
        exact h2
      · cases hpt

/-- An argument of a type. -/
def AArg (P : Program) (t : TypeId) (x : AVal) : Prop := ∃ n xs, AS P n t xs ∧ match P.underlying t with
  | some (.struct _) => x = .agg xs
  | some (.array _ _) => x = .agg xs
  | _ => xs = [x]
def AArgs (P : Program) : List TypeId → List AVal → Prop
  | [], xs => xs = []
  | t :: ts, xs => ∃ x r, xs = x :: r ∧ AArg P t x ∧ AArgs P ts r

theorem read_arg {ts : List TypeId} (hp : plainB P ts = true) {t : TypeId} (ht : t ∈ ts) {v : Value} {d : DataW H} {ps : List MemPlace} {r : Reach} {base : Nat} (hv : Value.okWide P w r base t v) (h : DataW.Trod enc P w 0 sp held t v d ps) :
    ∃ x, AArg P t x ∧ PV w (fun k => k < w.heap.size) x v := by
  obtain ⟨n, h⟩ := h
  obtain ⟨xs, h1, h2, _⟩ := read_all hp n t ht _ d ps h
  have hpt := List.all_eq_true.1 hp t ht
  have one : ∀ u, v.cells.toList = [u] → v = u → (∀ fs, P.underlying t ≠ some (.struct fs)) → (∀ m e, P.underlying t ≠ some (.array m e)) → ∃ x, AArg P t x ∧ PV w (fun k => k < w.heap.size) x v := by
    intro u hu hvu hs ha
    rw [hu] at h2
    match xs, h2 with
    | [x], h2 =>
      refine ⟨x, ⟨n, [x], h1, ?_⟩, by rw [hvu]; exact h2.2.1 0 x u rfl rfl⟩
      split
      · rename_i hh; exact (hs _ hh).elim
      · rename_i hh; exact (ha _ _ hh).elim
      · rfl
    | [], h2 => exact absurd h2.1 (by simp)
    | _ :: _ :: _, h2 => exact absurd h2.1 (by simp)
  have aggC : ∀ cs : Array Value, v = .agg cs → (∀ x, (match P.underlying t with | some (.struct _) => x = AVal.agg xs | some (.array _ _) => x = .agg xs | _ => xs = [x]) ↔ x = .agg xs) → ∃ x, AArg P t x ∧ PV w (fun k => k < w.heap.size) x v := by
    intro cs hc hiff
    subst hc
    refine ⟨.agg xs, ⟨n, xs, h1, (hiff _).2 rfl⟩, .agg xs cs ?_ fun i x v hx hv => h2.2.1 i x v hx (by simpa [Value.cells] using hv)⟩
    have := h2.1
    simpa [Value.cells] using this.symm
  split at hpt
  · rename_i hu
    obtain ⟨b, rfl⟩ := WideShapes.okWide_bool hu hv
    exact one _ (by simp [Value.cells]) rfl (by rw [hu]; intro fs h; cases h) (by rw [hu]; intro m e h; cases h)
  · rename_i k hu
    obtain ⟨m, rfl⟩ := WideShapes.okWide_int hu hv
    exact one _ (by simp [Value.cells]) rfl (by rw [hu]; intro fs h; cases h) (by rw [hu]; intro m e h; cases h)
  · rename_i hu
    obtain ⟨s, rfl⟩ := WideShapes.okWide_string hu hv
    exact one _ (by simp [Value.cells]) rfl (by rw [hu]; intro fs h; cases h) (by rw [hu]; intro m e h; cases h)
  · rename_i e hu
    obtain ⟨a, l, c, rfl⟩ := WideShapes.okWide_slice hu hv
    exact one _ (by simp [Value.cells]) rfl (by rw [hu]; intro fs h; cases h) (by rw [hu]; intro m e h; cases h)
  · rename_i fs hu
    unfold Value.okWide at hv
    rw [hu] at hv
    obtain ⟨cs, hc, _⟩ := hv
    exact aggC cs hc (fun x => by rw [hu])
  · rename_i m e hu
    unfold Value.okWide at hv
    rw [hu] at hv
    obtain ⟨cs, hc, _⟩ := hv
    exact aggC cs hc (fun x => by rw [hu])
  · cases hpt

theorem read_args {ts : List TypeId} (hp : plainB P ts = true) {r : Reach} {base : Nat} : ∀ {us : List TypeId} {vs : List Value} {ds : List (DataW H)} {ps : List MemPlace}, (∀ t, t ∈ us → t ∈ ts) →
    (∀ (j : Nat) t v, us[j]? = some t → vs[j]? = some v → Value.okWide P w r base t v) → DataW.TrodAll enc P w 0 sp held us vs ds ps →
    ∃ xs, AArgs P us xs ∧ vs.length = xs.length ∧ ∀ (i : Nat) x v, xs[i]? = some x → vs[i]? = some v → PV w (fun k => k < w.heap.size) x v
  | [], vs, ds, ps, _, _, h => by
    obtain ⟨rfl, _, _⟩ := ChangeShapes.trodAll_nil h
    exact ⟨[], rfl, rfl, fun i x v h => by simp at h⟩
  | t :: us, vs, ds, ps, ht, hv, h => by
    obtain ⟨v, vs', d, ds', p, q, rfl, rfl, rfl, h0, hr⟩ := ChangeShapes.trodAll_cons h
    obtain ⟨x, hx, hpv⟩ := read_arg hp (ht t List.mem_cons_self) (hv 0 t v rfl rfl) h0
    obtain ⟨xs, h1, h2, h3⟩ := read_args hp (fun u hu => ht u (List.mem_cons_of_mem _ hu)) (fun j u v' hu hv' => hv (j + 1) u v' hu hv') hr
    refine ⟨x :: xs, ⟨x, xs, rfl, hx, h1⟩, by simp [h2], fun i y v' hy hv' => ?_⟩
    cases i with
    | zero => simp at hy hv'; subst hy; subst hv'; exact hpv
    | succ i => exact h3 i y v' (by simpa using hy) (by simpa using hv')

theorem below_trodAll {us : List TypeId} (hl : laidOutB P = true) (hr : ∀ t, t ∈ us → P.readableRec t = true ∧ t < P.types.size) {w' : World} (hb : Below w.heap.size w w') : ∀ {vs : List Value} {ds : List (DataW H)} {ps : List MemPlace},
    DataW.TrodAll enc P w 0 (fun _ => true) true us vs ds ps → DataW.TrodAll enc P w' 0 (fun b => decide (b < w.heap.size)) true us vs ds ps := by
  induction us with
  | nil => intro vs ds ps h; obtain ⟨rfl, rfl, rfl⟩ := ChangeShapes.trodAll_nil h; exact rfl
  | cons t us ih =>
    intro vs ds ps h
    obtain ⟨v, vs', d, ds', p, q, rfl, rfl, rfl, h0, h1⟩ := ChangeShapes.trodAll_cons h
    have hlt : ∀ x ∈ p, x.block < w.heap.size := by obtain ⟨m, hm⟩ := h0; exact DataW.trod_lt m _ _ _ hm
    exact ⟨p, q, Below.trod hl (hr t List.mem_cons_self).1 (hr t List.mem_cons_self).2 h0 hb hlt, ih (fun u hu => hr u (List.mem_cons_of_mem _ hu)) h1, rfl⟩
end

section
variable {C : Ctx}
/-- A run over abstract values is a run of the model. -/
theorem law_calls (hm : C.P.follows .mixedOrders = true) (hX : Sound C (CallN C 0)) {f : FuncId} {fn : Func} {c : Code} (hf : C.P.funcs[f]? = some fn) (hb : fn.body = some c) (hn : fn.name ≠ "runtime.NumGoroutine") {args : List AVal} (h : CallF C f args [] (.bool true) [])
    {W : World} {vs : Array Value} (hg : ∀ g, GlobOK C W (fun k => k < W.heap.size) g)
    (hs : vs.size = args.length) (hv : ∀ (i : Nat) x v, args[i]? = some x → vs[i]? = some v → PV W (fun k => k < W.heap.size) x v) (hY : YSound C := by exact fun _ _ _ _ _ h => h.elim) :
    Calls C.P f vs W fun e W' => e = .returned (.bool true) ∧ Below W.heap.size W W' := by
  have hr : Rel C (Env.bare fun k => k < W.heap.size) [] W :=
    ⟨fun _ h => h.elim, fun b h => by (simp [live] at h), fun b => by simp [Env.bare, curOf], fun k hk => hk, fun b _ h => by (simp [live] at h), fun b B h => by simp at h, hg⟩
  have := callF_sound hm hY hX f args [] _ [] h _ W vs hr ⟨hs, fun i x v hx hv' => .pure (hv i x v hx hv')⟩
  unfold Invokes at this
  rw [enter_run hf hb hn] at this
  refine this.mono fun e W' ⟨v, he, E', _, hv', hst, _⟩ => ?_
  have hvb : v = .bool true := by
    cases hv' with
    | pure hp => cases hp; rfl
  subst hvb
  exact ⟨he, hst.os, hst.tape, hst.output, hst.size, fun k hk => hst.heap k hk fun b hb => by simp [live] at hb⟩

/-- What a statement without package variables of its own asks of a call. -/
theorem law_post {H : Type} {enc : TypeId × Value → H} {P : Program} {fn : Func} {s : ChangeSpec} (hl : laidOutB P = true) (hr : ∀ t, t ∈ fn.params.toList → P.readableRec t = true ∧ t < P.types.size) {bt : TypeId} (hrt : fn.resultTypes = #[bt]) (hbt : P.underlying bt = some .bool)
    (hvars : s.vars = []) {W : World} {args : Array Value} {ds gs : List (DataW H)} {before : List MemPlace} (hW : DataW.Whole enc P fn.params.toList s.vars false W args.toList ds gs before)
    (hres : (s.fn H (ds ++ gs)).results = [.lit (.bool true)]) (hargs : (s.fn H (ds ++ gs)).args = ds) (hvs : (s.fn H (ds ++ gs)).vars = []) {W' : World} (bel : Below W.heap.size W W') : s.post enc P fn false true false false W args (.bool true) W' := by
  have hW' := hW
  obtain ⟨p, q, hA, hV, rfl, hfz, hnd⟩ := hW
  rw [hvars] at hV
  obtain ⟨rfl, rfl⟩ : gs = [] ∧ q = [] := by
    cases gs with
    | nil => exact ⟨rfl, hV⟩
    | cons _ _ => exact hV.elim
  refine ⟨ds, [], p ++ [], [], p, [], hW', ?_, ?_, ?_, bel.frame _, fun h => by cases h⟩
  · rw [hres, hrt]
    exact ChangeShapes.trodAll_mk1 (RowKit.shut_bool hbt _)
  · rw [hargs]; exact below_trodAll hl hr bel hA
  · rw [hvs, hvars]; exact rfl
end

/-! Shapes, opened. -/
section
variable {P : Program} {n : Nat} {t e : TypeId} {xs : List AVal}
theorem as_bool (hu : P.underlying t = some .bool) (h : AS P n t xs) : ∃ b, xs = [.bool b] := by
  cases n with
  | zero => exact h.elim
  | succ n => simpa only [AS, hu] using h
theorem as_int {k : IntKind} (hu : P.underlying t = some (.int k)) (h : AS P n t xs) : ∃ m, xs = [.int k m] ∧ k.min ≤ m ∧ m ≤ k.max := by
  cases n with
  | zero => exact h.elim
  | succ n =>
    simp only [AS, hu] at h
    obtain ⟨m, h1, h2⟩ := h
    simp only [Lit.wf, Bool.and_eq_true, decide_eq_true_eq] at h2
    exact ⟨m, h1, h2.1, h2.2⟩
theorem as_str (hu : P.underlying t = some .string) (h : AS P n t xs) : ∃ s, xs = [.str s] ∧ s.length ≤ maxLen := by
  cases n with
  | zero => exact h.elim
  | succ n => simpa only [AS, hu] using h
theorem as_slice (hu : P.underlying t = some (.slice e)) (h : AS P n t xs) : ∃ rows cap, xs = [.slc (P.cellsOf e) rows (some cap)] ∧ rows.length ≤ cap ∧ cap ≤ maxLen ∧ ∃ m, m < n ∧ ∀ r, r ∈ rows → AS P m e r := by
  cases n with
  | zero => exact h.elim
  | succ n =>
    simp only [AS, hu] at h
    obtain ⟨rows, cap, h1, h2, h3, h4⟩ := h
    exact ⟨rows, cap, h1, h2, h3, n, Nat.lt_succ_self n, h4⟩
theorem as_struct {fs : Array Field} (hu : P.underlying t = some (.struct fs)) (h : AS P n t xs) : ∃ m, m < n ∧ fieldsS (AS P m) fs.toList xs := by
  cases n with
  | zero => exact h.elim
  | succ n => exact ⟨n, Nat.lt_succ_self n, by simpa only [AS, hu] using h⟩
theorem as_array {k : Nat} (hu : P.underlying t = some (.array k e)) (h : AS P n t xs) : ∃ m, m < n ∧ timesS (AS P m e) k xs := by
  cases n with
  | zero => exact h.elim
  | succ n => exact ⟨n, Nat.lt_succ_self n, by simpa only [AS, hu] using h⟩
theorem rows_map {α : Type} {f : α → List AVal} {q : α → Prop} : ∀ {rows : List (List AVal)}, (∀ r, r ∈ rows → ∃ a, r = f a ∧ q a) → ∃ l : List α, rows = l.map f ∧ ∀ a, a ∈ l → q a
  | [], _ => ⟨[], rfl, fun a h => by cases h⟩
  | r :: rows, h => by
    obtain ⟨a, h1, h2⟩ := h r List.mem_cons_self
    obtain ⟨l, h3, h4⟩ := rows_map (rows := rows) fun s hs => h s (List.mem_cons_of_mem _ hs)
    exact ⟨a :: l, by rw [h1, h3]; rfl, fun b hb => by rcases List.mem_cons.1 hb with rfl | hb; exact h2; exact h4 b hb⟩
theorem rows_bytes {rows : List (List AVal)} (hu : P.underlying e = some (.int .u8)) (h : ∀ r, r ∈ rows → AS P n e r) : ∃ l : List UInt8, rows = l.map bytesRow := by
  obtain ⟨l, h1, _⟩ := rows_map (f := bytesRow) (q := fun _ => True) fun r hr => by
    obtain ⟨m, h1, h2, h3⟩ := as_int hu (h r hr)
    have h2 : 0 ≤ m := h2
    have h3 : m ≤ 255 := h3
    refine ⟨UInt8.ofNat m.toNat, ?_, trivial⟩
    rw [h1]
    simp only [bytesRow, UInt8.toNat_ofNat']
    rw [Nat.mod_eq_of_lt (by omega), Int.toNat_of_nonneg h2]
  exact ⟨l, h1⟩
theorem aarg_bool {x : AVal} (hu : P.underlying t = some .bool) (h : AArg P t x) : ∃ b, x = .bool b := by
  obtain ⟨n, xs, h1, h2⟩ := h
  rw [hu] at h2
  obtain ⟨m, h3⟩ := as_bool hu h1
  rw [h3] at h2
  exact ⟨m, (List.cons.inj h2).1.symm⟩
theorem aarg_int {x : AVal} {k : IntKind} (hu : P.underlying t = some (.int k)) (h : AArg P t x) : ∃ m, x = .int k m ∧ k.min ≤ m ∧ m ≤ k.max := by
  obtain ⟨n, xs, h1, h2⟩ := h
  rw [hu] at h2
  obtain ⟨m, h3, h4⟩ := as_int hu h1
  rw [h3] at h2
  exact ⟨m, (List.cons.inj h2).1.symm, h4⟩
theorem aarg_str {x : AVal} (hu : P.underlying t = some .string) (h : AArg P t x) : ∃ s, x = .str s ∧ s.length ≤ maxLen := by
  obtain ⟨n, xs, h1, h2⟩ := h
  rw [hu] at h2
  obtain ⟨m, h3, h4⟩ := as_str hu h1
  rw [h3] at h2
  exact ⟨m, (List.cons.inj h2).1.symm, h4⟩
theorem aarg_slice {x : AVal} (hu : P.underlying t = some (.slice e)) (h : AArg P t x) : ∃ rows cap, x = .slc (P.cellsOf e) rows (some cap) ∧ rows.length ≤ cap ∧ cap ≤ maxLen ∧ ∃ m, ∀ r, r ∈ rows → AS P m e r := by
  obtain ⟨n, xs, h1, h2⟩ := h
  rw [hu] at h2
  obtain ⟨rows, cap, h3, h4, h5, m, _, h6⟩ := as_slice hu h1
  rw [h3] at h2
  exact ⟨rows, cap, (List.cons.inj h2).1.symm, h4, h5, m, h6⟩
theorem aarg_struct {x : AVal} {fs : Array Field} (hu : P.underlying t = some (.struct fs)) (h : AArg P t x) : ∃ xs m, x = .agg xs ∧ fieldsS (AS P m) fs.toList xs := by
  obtain ⟨n, xs, h1, h2⟩ := h
  rw [hu] at h2
  obtain ⟨m, _, h3⟩ := as_struct hu h1
  exact ⟨xs, m, h2, h3⟩
theorem aarg_array {x : AVal} {k : Nat} (hu : P.underlying t = some (.array k e)) (h : AArg P t x) : ∃ xs m, x = .agg xs ∧ timesS (AS P m e) k xs := by
  obtain ⟨n, xs, h1, h2⟩ := h
  rw [hu] at h2
  obtain ⟨m, _, h3⟩ := as_array hu h1
  exact ⟨xs, m, h2, h3⟩
end
/-- A package variable that reads as a table. -/
theorem glob_pv {P : Program} {W : World} {name : String} {d : DataW Unit} {ts : List TypeId} (hp : plainB P ts = true) (h : Lib.VarReads P W name d) {g : Nat} {t : TypeId} (hg : P.globalNamed name = some g) (ht : (P.globals[g]?).map (·.type) = some t) (hts : t ∈ ts) {ys : List AVal} (hy : flatD d = some ys) :
    PV W (fun k => k < W.heap.size) (.rptr ys) (.pointer (some ⟨g, 0, none⟩)) := by
  obtain ⟨g', t', cs, fuel, p, h1, h2, h3, h4⟩ := h
  rw [hg] at h1; cases h1
  rw [ht] at h2; cases h2
  obtain ⟨xs, _, h5, h6⟩ := read_all hp fuel t hts _ d p h4
  have hxs := h6 ys hy
  subst hxs
  unfold World.var? at h3
  rw [hg] at h3
  simp only [Option.bind_some] at h3
  split at h3
  · rename_i cs' e fr hh
    cases h3
    have hlt := (Array.getElem?_eq_some_iff.1 hh).1
    refine .rptr _ _ (fun j => cs.toList.getD j undef) hlt h5.2.2 (fun j x hj => ?_) (fun j x hj => ?_)
    · have hjl := (List.getElem?_eq_some_iff.1 hj).1
      rw [addr_plain]
      simp only [World.cell?, hh, Option.isSome_none, Bool.false_eq_true, if_false]
      rw [h5.1] at hjl
      rw [Nat.zero_add, List.getD_eq_getElem?_getD, List.getElem?_eq_getElem hjl]
      simp
    · have hjl := (List.getElem?_eq_some_iff.1 hj).1
      rw [h5.1] at hjl
      refine h5.2.1 j x _ hj ?_
      rw [List.getD_eq_getElem?_getD, List.getElem?_eq_getElem hjl]; rfl
  · cases h3
end Go.Proofs.YtaajfbcopafkaaaGreatDoor.Ai
