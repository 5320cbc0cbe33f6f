/- Slicing, indices, maps; what the model does is what 'denx' says, whole. Own work of this seat. -/
import Derived.Test.YtaajfbcopafkaaaGreatDoorAiLx
namespace Go.Proofs.YtaajfbcopafkaaaGreatDoor.Ai
open Go
set_option linter.unusedVariables false
set_option linter.unusedSimpArgs false

section
variable {C : Ctx} {E : Env} {sto : List Blk} {w w' : World} {id : Nat}

theorem good_buildX (hr : Rel C E sto w) (hid : ¬ E.al id) (hid2 : id ≤ sto.length) {ρ : Operand → AVal} {ρ' : Operand → Value} (hρ : ∀ x, V w E (ρ x) (ρ' x)) {t e : TypeId} {len : Nat} {parts : Array (Nat × Operand)} {rows : List (List AVal)}
    (he : elemT C.P t = some e) (h : rowsA C.P sto e len (parts.toList.map fun p => (p.1, ρ p.2)) = some rows) (h0 : 0 < szOf C.P e) (hlim : len * szOf C.P e ≤ 16777216)
    (hall : rows.all (fun r => r.all (solid sto)) = true) {r : Result Next} (hrun : r = (do pure (Next.value (← Instr.buildSlice t len (parts.map fun p => (p.1, ρ' p.2)))) : Sem Next).run C.P w) :
    OpGood C E sto w id r (.sub id len 0 len (some len)) [(id, .arr e (szOf C.P e) rows)] := by
  have hu := elemT_some he
  obtain ⟨i, hi, hisz, _⟩ := szOf_pos h0
  unfold rowsA at h
  cases hz : zeroT C.P e with
  | none => rw [hz] at h; simp at h
  | some zs =>
    rw [hz] at h
    simp only [Option.bind_some] at h
    split at h
    · rename_i hzl
      obtain ⟨i', z, hi', hzz, rfl⟩ := zeroT_some hz
      rw [hi] at hi'; cases hi'
      have hvl : VL w E (ofVal z).cells z.cells := VL.zero
      have hp : (parts.map fun p => (p.1, ρ' p.2)).toList = parts.toList.map fun p => (p.1, ρ' p.2) := by simp
      obtain ⟨cur', h1, h2, h3⟩ := fillR_sound hr hρ e parts.toList _ _ _ (flat_made (len := len) hvl hzl h0) h
      simp only [List.length_replicate] at h3
      have hsize : cur'.size = len * szOf C.P e := by rw [h2.1, h3]
      have hmx : len ≤ maxLen := by
        have : len ≤ len * szOf C.P e := Nat.le_mul_of_pos_right _ h0
        simp only [maxLen]; omega
      have hrun2 : r = .ok (.value (.slice (some ⟨w.heap.size, 0, none⟩) rows.length len)) { w with heap := w.heap.push (.cells cur' e) } := by
        rw [hrun, h3]
        have hlim' : ¬ (2 ^ 24 < len * szOf C.P e) := by omega
        by_cases hl0 : len = 0
        · subst hl0
          simp only [Nat.zero_mul, Array.range_zero'] at h1
          have h1' : Instr.fill (fun i => some (i * szOf C.P e, szOf C.P e)) #[] (parts.toList.map fun p => (p.1, ρ' p.2)) = some cur' := by simpa using h1
          simp [Instr.buildSlice, run_underlying hu, run_sizeOf' hi, hisz, newRow, h1', Array.range_zero']
        · have hne : ¬ (len * szOf C.P e = 0) := by
            intro h; rcases Nat.mul_eq_zero.1 h with h | h
            · exact hl0 h
            · omega
          have hne2 : ¬ szOf C.P e = 0 := by omega
          simp [Instr.buildSlice, run_underlying hu, run_sizeOf' hi, hisz, run_zero hi hzz, hlim', hl0, hne2, newRow, h1]
          intro h; exact absurd h hne
      have := good_arr hr (b := id) (id := id) (t := e) (sz := szOf C.P e) (rows := rows) (cap := some len) (c := len) (vals := cur') (r := r) (w' := { w with heap := w.heap.push (.cells cur' e) }) hid2 (.inl ⟨hid, rfl⟩) h0 hsize (by omega) hmx (fun k hk => by cases hk; rfl) h2.2.1
        (fun i r j x hi' hj => by
          have hlt : i * szOf C.P e + j < cur'.size := by
            have hj' : j < szOf C.P e := by rw [← h2.2.1 r (List.mem_of_getElem? hi')]; exact (List.getElem?_eq_some_iff.1 hj).1
            have hi2 := (List.getElem?_eq_some_iff.1 hi').1
            have := pair_lt (i := i) (j := j) (i' := i + 1) (j' := 0) (sz := szOf C.P e) (Nat.lt_succ_self _) hj'
            have h5 : (i + 1) * szOf C.P e ≤ rows.length * szOf C.P e := Nat.mul_le_mul_right _ hi2
            rw [h2.1]; omega
          have hv := h2.2.2 i r j x _ hi' hj (Array.getElem?_eq_getElem hlt)
          exact ⟨_, Array.getElem?_eq_getElem hlt, solid_one hr (List.all_eq_true.1 (List.all_eq_true.1 hall r (List.mem_of_getElem? hi')) x (List.mem_of_getElem? hj)) hv, hv⟩)
        rfl rfl rfl rfl hrun2
      rw [h3] at this
      exact this
    · cases h

theorem subCut_some {b n l0 len : Nat} {cap : Option Nat} {lo hi mx : Option AVal} {v : AVal} (h : subCut b n l0 len cap lo hi mx = some v) :
    ∃ l k, optNat 0 lo = some l ∧ optNat len hi = some k ∧ l ≤ k ∧ k ≤ len ∧
      ((mx = none ∧ v = .sub b n (l0 + l) (k - l) (cap.map (· - l))) ∨ ∃ x m y, mx = some x ∧ hi = some y ∧ asNat x = some m ∧ asNat y = some k ∧ k ≤ m ∧ m ≤ len ∧ v = .sub b n (l0 + l) (k - l) (some (m - l))) := by
  unfold subCut at h
  split at h
  · rename_i l k hl hk
    split at h
    · rename_i hle
      split at h
      · rename_i hkl
        refine ⟨l, k, hl, hk, hle, hkl, ?_⟩
        split at h
        · cases h; exact .inl ⟨rfl, rfl⟩
        · rename_i x
          split at h
          · rename_i y m hm
            split at h
            · rename_i h1
              split at h
              · rename_i h2
                cases h
                exact .inr ⟨x, m, y, rfl, rfl, hm, hk, h1, h2, rfl⟩
              · cases h
            · cases h
          · cases h
      · cases h
    · cases h
  · cases h

theorem good_sliceX (hr : Rel C E sto w) {t : TypeId} {x : AVal} {xv : Value} (hx : V w E x xv) {lo hi mx : Option AVal} {lov hiv mxv : Option Value}
    (hlo : (∀ x, lo = some x → ∃ v, lov = some v ∧ V w E x v) ∧ (lo = none → lov = none)) (hhi : (∀ x, hi = some x → ∃ v, hiv = some v ∧ V w E x v) ∧ (hi = none → hiv = none))
    (hmx : (∀ x, mx = some x → ∃ v, mxv = some v ∧ V w E x v) ∧ (mx = none → mxv = none)) {v : AVal} {ws : List (Nat × Blk)} (h : sliceX C.P sto t x lo hi mx = some (v, ws)) {r : Result Next}
    (hrun : r = (do pure (Next.value (← Instr.sliceAt t xv lov hiv mxv)) : Sem Next).run C.P w) : OpGood C E sto w id r v ws := by
  unfold sliceX at h
  split at h
  · rename_i b n l0 len cap
    cases he : elemT C.P t with
    | none => rw [he] at h; simp at h
    | some e =>
      rw [he] at h
      simp only [Option.bind_some] at h
      split at h
      · rename_i te sz rows hb
        split at h
        · rename_i hn
          split at h
          · rename_i hsz
            cases hc : subCut b n l0 len cap lo hi mx with
            | none => rw [hc] at h; cases h
            | some v' =>
              rw [hc] at h; cases h
              have hu := elemT_some he
              obtain ⟨hal, hle, hv⟩ := hx.sub_inv
              have hcur : E.cur b = some n := by rw [hr.cur, curOf_curB hb]; simp [curB, hn]
              obtain ⟨a, c, rfl, ha, hlc, hln, hcc, hck⟩ := hv hcur
              have hE : E.sz b = sz ∧ 0 < sz := by cases hr.blk b _ hb with | arr _ _ _ vals hg hn' hE hs hl hm h0 => exact ⟨hE, h0⟩
              obtain ⟨i, hi', hisz, _⟩ := szOf_pos (by rw [← hsz]; exact hE.2 : 0 < szOf C.P e)
              obtain ⟨l, k, h1, h2, hlk, hkl, h3⟩ := subCut_some hc
              have key : ∀ m, (Instr.sliceBounds true len c lov hiv mxv).run C.P w = .ok (l, k, m) w → k ≤ m → m ≤ c → ∀ cap', (∀ q, cap' = some q → m - l = q) → v = .sub b n (l0 + l) (k - l) cap' → OpGood C E sto w id r v [] := by
                intro m hb' hkm hmc cap' hcap' hv'
                subst hv'
                refine good_pure hr (u := .slice (some (if m = l then a else a.add (l * i.size))) (k - l) (m - l)) ?_ ?_
                · rw [hrun]
                  refine run_v ?_
                  by_cases hml : m = l <;> simp [Instr.sliceAt, Instr.slice, run_underlying hu, hb', run_sizeOf' hi', hml]
                · refine .sub _ _ _ _ _ _ hal hle (fun _ => ⟨_, _, rfl, fun hpos => ?_, by omega, by omega, by omega, hcap'⟩)
                  have hne : ¬ m = l := by omega
                  rw [if_neg hne, ha (by omega), addr_plain, hisz, ← hsz, hE.1, Nat.add_mul]
              rcases h3 with ⟨hm0, hv'⟩ | ⟨x, m, y, hm1, hy, hm, hk, hkm, hml, hv'⟩
              · have hb' := run_bounds2 (C := C) (isSlice := true) (cap := c) hlo.1 hlo.2 hhi.1 hhi.2 h1 h2 hlk (by omega) hlc
                rw [← hmx.2 hm0] at hb'
                exact key c hb' (by omega) (Nat.le_refl _) (cap.map (· - l)) (fun q hq => by
                  cases hcap : cap with
                  | none => rw [hcap] at hq; cases hq
                  | some c' => rw [hcap] at hq; cases hq; rw [hck c' hcap]) hv'
              · obtain ⟨xv', hx1, hx2⟩ := hmx.1 x hm1
                obtain ⟨yv, hy1, hy2⟩ := hhi.1 y hy
                have hb' := run_bounds3 (C := C) (isSlice := true) (len := len) (cap := c) hlo.1 hlo.2 hy2 hx2 h1 hk hm hlk hkm (by omega)
                rw [← hx1, ← hy1] at hb'
                exact key m hb' hkm (by omega) (some (m - l)) (fun q hq => by cases hq; rfl) hv'
          · cases h
        · cases h
      · cases h
  · rename_i b off
    split at h
    · rename_i n e ha
      split at h
      · rename_i h0
        split at h
        · rename_i l k h1 h2
          split at h
          · rename_i hlk
            split at h
            · rename_i hkn
              split at h
              · rename_i hln
                cases h
                obtain ⟨i, hi', hisz, _⟩ := szOf_pos h0
                have hu := arrT_some ha
                obtain ⟨rfl, hal, hcur⟩ := hx.ptr_inv
                have hb' := run_bounds2 (C := C) (w := w) (E := E) (isSlice := false) (len := n) (cap := n) hlo.1 hlo.2 hhi.1 hhi.2 h1 h2 hlk hkn (Nat.le_refl _)
                rw [← hmx.2 rfl] at hb'
                refine good_pure hr (u := .slice (some ⟨E.ι b, off + l * szOf C.P e, none⟩) (k - l) (n - l)) ?_ (.csl _ _ _ _ _ _ hal hcur rfl (by omega))
                rw [hrun]
                refine run_v ?_
                have hne : ¬ n = l := by omega
                simp [Instr.sliceAt, run_underlying hu, Instr.sureAddr, hb', run_sizeOf' hi', addr_plain, hne, hisz]
              · cases h
            · cases h
          · cases h
        · cases h
      · cases h
    · cases h
  · rename_i b off sz len cap
    cases he : elemT C.P t with
    | none => rw [he] at h; simp at h
    | some e =>
      rw [he] at h
      simp only [Option.bind_some] at h
      split at h
      · rename_i hsz
        split at h
        · rename_i h0
          have hu := elemT_some he
          obtain ⟨hal, hcur, rfl, hlc⟩ := hx.csl_inv
          obtain ⟨i, hi', hisz, _⟩ := szOf_pos (by rw [← hsz]; exact h0 : 0 < szOf C.P e)
          have key : ∀ l k m, (Instr.sliceBounds true len cap lov hiv mxv).run C.P w = .ok (l, k, m) w → l < m → k ≤ m → v = .csl b (off + l * sz) sz (k - l) (m - l) → ws = [] → OpGood C E sto w id r v ws := by
            intro l k m hb' hlm hkm hv' hw'
            subst hv'; subst hw'
            refine good_pure hr (u := .slice (some ⟨E.ι b, off + l * sz, none⟩) (k - l) (m - l)) ?_ (.csl _ _ _ _ _ _ hal hcur rfl (by omega))
            rw [hrun]
            refine run_v ?_
            have hne : ¬ m = l := by omega
            simp [Instr.sliceAt, Instr.slice, run_underlying hu, hb', run_sizeOf' hi', addr_plain, hne, hisz, hsz]
          have key0 : ∀ l, (Instr.sliceBounds true len cap lov hiv mxv).run C.P w = .ok (l, l, l) w → v = .slc sz [] (some 0) → ws = [] → OpGood C E sto w id r v ws := by
            intro l hb' hv' hw'
            subst hv'; subst hw'
            refine good_pure hr (u := .slice (some ⟨E.ι b, off, none⟩) 0 0) ?_ (.pure (.slc sz [] (some 0) _ 0 (fun _ _ => default) (by simp) (by simp) (Nat.le_refl _) (fun k hk => by cases hk; rfl) (fun hk => by cases hk) (by simp [maxLen]) (by simp) (by simp)))
            rw [hrun]
            refine run_v ?_
            simp [Instr.sliceAt, Instr.slice, run_underlying hu, hb', run_sizeOf' hi']
          split at h
          · rename_i l k h1 h2
            split at h
            · rename_i hlk
              split at h
              · rename_i hkn
                split at h
                · split at h
                  · rename_i hlc'
                    cases h
                    have hb' := run_bounds2 (C := C) (w := w) (E := E) (isSlice := true) (len := len) (cap := cap) hlo.1 hlo.2 hhi.1 hhi.2 h1 h2 hlk (by omega) hlc
                    rw [← hmx.2 rfl] at hb'
                    exact key _ _ _ hb' hlc' (by omega) rfl rfl
                  · rename_i hlc'
                    cases h
                    have hb' := run_bounds2 (C := C) (w := w) (E := E) (isSlice := true) (len := len) (cap := cap) hlo.1 hlo.2 hhi.1 hhi.2 h1 h2 hlk (by omega) hlc
                    rw [← hmx.2 rfl] at hb'
                    have e1 : k = l := by omega
                    have e2 : cap = l := by omega
                    subst e1
                    rw [e2] at hb'
                    exact key0 _ (by rw [e2]; exact hb') rfl rfl
                · rename_i x
                  split at h
                  · rename_i y m hm
                    split at h
                    · rename_i hkm
                      split at h
                      · rename_i hml
                        split at h
                        · rename_i hlm
                          cases h
                          obtain ⟨xv', hx1, hx2⟩ := hmx.1 x rfl
                          obtain ⟨yv, hy1, hy2⟩ := hhi.1 y rfl
                          have hb' := run_bounds3 (C := C) (isSlice := true) (len := len) (cap := cap) hlo.1 hlo.2 hy2 hx2 h1 h2 hm hlk hkm (by omega)
                          rw [← hx1, ← hy1] at hb'
                          exact key _ _ _ hb' hlm hkm rfl rfl
                        · rename_i hlm
                          cases h
                          obtain ⟨xv', hx1, hx2⟩ := hmx.1 x rfl
                          obtain ⟨yv, hy1, hy2⟩ := hhi.1 y rfl
                          have hb' := run_bounds3 (C := C) (isSlice := true) (len := len) (cap := cap) hlo.1 hlo.2 hy2 hx2 h1 h2 hm hlk hkm (by omega)
                          rw [← hx1, ← hy1] at hb'
                          have e1 : k = l := by omega
                          have e2 : m = l := by omega
                          subst e1; subst e2
                          exact key0 _ hb' rfl rfl
                      · cases h
                    · cases h
                  · cases h
              · cases h
            · cases h
          · cases h
        · cases h
      · cases h
  · cases h

theorem idxX_sound (hr : Rel C E sto w) {t : TypeId} {x v : AVal} {xv : Value} {k : IntKind} {n : Int} (hx : V w E x xv) (h : idxX C.P sto t x n = some v) : ∃ u, (Instr.indexAt t xv (.int k n)).run C.P w = .ok u w ∧ V w E v u := by
  unfold idxX at h
  split at h
  · rename_i h0
    split at h
    · rename_i b m lo len cap
      cases he : elemT C.P t with
      | none => rw [he] at h; simp at h
      | some e =>
        rw [he] at h
        simp only [Option.bind_some] at h
        split at h
        · rename_i te sz rows hb
          split at h
          · rename_i hm
            split at h
            · rename_i hsz
              split at h
              · rename_i hlt
                cases h
                have hu := elemT_some he
                obtain ⟨hal, hle, hv⟩ := hx.sub_inv
                have hc : E.cur b = some m := by rw [hr.cur, curOf_curB hb]; simp [curB, hm]
                obtain ⟨a, c, rfl, ha, hlc, hln, hcc, hck⟩ := hv hc
                have hE : E.sz b = sz ∧ 0 < sz := by cases hr.blk b _ hb with | arr _ _ _ vals hg hn' hE hs hl hm h0 => exact ⟨hE, h0⟩
                obtain ⟨i, hi, hisz, _⟩ := szOf_pos (by rw [← hsz]; exact hE.2 : 0 < szOf C.P e)
                have ha := ha (by omega)
                subst ha
                have hcond : 0 ≤ n ∧ n < len := ⟨h0, by omega⟩
                refine ⟨_, by simp [Instr.indexAt, asIntOf, run_underlying hu, hcond, run_sizeOf' hi] <;> rfl, .eptr b m _ 0 _ hal hle (fun _ => ?_)⟩
                rw [addr_plain, hisz, ← hsz, hE.1, Nat.add_mul, Nat.add_zero]
              · cases h
            · cases h
          · cases h
        · cases h
    · rename_i b off sz len cap
      cases he : elemT C.P t with
      | none => rw [he] at h; simp at h
      | some e =>
        rw [he] at h
        simp only [Option.bind_some] at h
        split at h
        · rename_i hsz
          split at h
          · rename_i hpos
            split at h
            · rename_i hlt
              cases h
              have hu := elemT_some he
              obtain ⟨hal, hcur, rfl, _⟩ := hx.csl_inv
              obtain ⟨i, hi, hisz, _⟩ := szOf_pos (by rw [← hsz]; exact hpos : 0 < szOf C.P e)
              have hcond : 0 ≤ n ∧ n < len := ⟨h0, by omega⟩
              refine ⟨.pointer (some (Addr.add ⟨E.ι b, off, none⟩ (n.toNat * i.size))), by simp [Instr.indexAt, asIntOf, run_underlying hu, hcond, run_sizeOf' hi], ?_⟩
              rw [addr_plain, hisz, ← hsz]
              exact .ptr b _ hal hcur
            · cases h
          · cases h
        · cases h
    · cases h
  · cases h

theorem mapT_some {P : Program} {t k e : TypeId} (h : mapT P t = some (k, e)) : P.underlying t = some (.map k e) := by
  unfold mapT at h
  split at h
  · rename_i k' e' hu; cases h; exact hu
  · cases h

theorem lenX_sound (hr : Rel C E sto w) {t ty : TypeId} {x v : AVal} {xv : Value} (hx : V w E x xv) (h : lenX C.P sto t x = some v) : ∃ u, (Builtin.len_ #[t] ty #[xv]).run C.P w = .ok u w ∧ V w E v u := by
  unfold lenX at h
  split at h
  · rename_i b n lo len cap
    split at h
    · rename_i ht
      split at h
      · rename_i hc
        cases h
        obtain ⟨e, he⟩ := Option.isSome_iff_exists.1 ht
        obtain ⟨hal, hle, hv⟩ := hx.sub_inv
        obtain ⟨a, c, rfl, _⟩ := hv (by rw [hr.cur]; exact hc)
        exact ⟨.int .i64 len, by simp [Builtin.len_, run_underlying (elemT_some he), goInt], V.int⟩
      · cases h
    · cases h
  · rename_i b off sz len cap
    split at h
    · rename_i ht
      cases h
      obtain ⟨e, he⟩ := Option.isSome_iff_exists.1 ht
      obtain ⟨hal, hc, rfl, _⟩ := hx.csl_inv
      exact ⟨.int .i64 len, by simp [Builtin.len_, run_underlying (elemT_some he), goInt], V.int⟩
    · cases h
  · rename_i b
    split at h
    · rename_i ht
      split at h
      · rename_i es clock hb
        cases h
        obtain ⟨q, hq⟩ := Option.isSome_iff_exists.1 ht
        obtain ⟨rfl, hal, hc⟩ := hx.mapr_inv
        cases hr.blk b _ hb with
        | map _ ents _ hg hn hs hv =>
          exact ⟨.int .i64 es.length, by simp [Builtin.len_, run_underlying (mapT_some hq), goInt, getObj, Sem.run, hg, hs], V.int⟩
      · cases h
    · cases h
  · split at h
    · rename_i ht
      cases h
      obtain ⟨q, hq⟩ := Option.isSome_iff_exists.1 ht
      have := hx.nilmap_inv
      subst this
      exact ⟨.int .i64 0, by simp [Builtin.len_, run_underlying (mapT_some hq), goInt], V.int⟩
    · cases h
  · cases h

theorem capX_sound (hr : Rel C E sto w) {t ty : TypeId} {x v : AVal} {xv : Value} (hx : V w E x xv) (h : capX C.P sto t x = some v) : ∃ u, (Builtin.cap_ #[t] ty #[xv]).run C.P w = .ok u w ∧ V w E v u := by
  unfold capX at h
  split at h
  · rename_i b n lo len c
    split at h
    · rename_i ht
      split at h
      · rename_i hc
        cases h
        obtain ⟨e, he⟩ := Option.isSome_iff_exists.1 ht
        obtain ⟨hal, hle, hv⟩ := hx.sub_inv
        obtain ⟨a, c', rfl, _, _, _, _, hk⟩ := hv (by rw [hr.cur]; exact hc)
        have := hk c rfl
        subst this
        exact ⟨.int .i64 c', by simp [Builtin.cap_, run_underlying (elemT_some he), goInt], V.int⟩
      · cases h
    · cases h
  · rename_i b off sz len c
    split at h
    · rename_i ht
      cases h
      obtain ⟨e, he⟩ := Option.isSome_iff_exists.1 ht
      obtain ⟨hal, hc, rfl, _⟩ := hx.csl_inv
      exact ⟨.int .i64 c, by simp [Builtin.cap_, run_underlying (elemT_some he), goInt], V.int⟩
    · cases h
  · cases h


theorem eqL_true {ks : List LK} : ∀ {cs ds : List AVal}, eqL ks cs ds = some true → cs.length = ds.length ∧ ∀ (i : Nat) x y, cs[i]? = some x → ds[i]? = some y → (∃ k n, x = .int k n ∧ y = .int k n) ∨ (∃ b, x = .bool b ∧ y = .bool b) ∨ ∃ s, x = .str s ∧ y = .str s := by
  induction ks with
  | nil =>
    intro cs ds h
    cases cs <;> cases ds <;> simp [eqL] at h
    exact ⟨rfl, fun i x y hx => by simp at hx⟩
  | cons k ks ih =>
    intro cs ds h
    cases cs with
    | nil => cases k <;> simp [eqL] at h
    | cons c cs =>
      cases ds with
      | nil => cases k <;> cases c <;> simp [eqL] at h
      | cons d ds =>
        have key : eqL ks cs ds = some true ∧ ((∃ k n, c = .int k n ∧ d = .int k n) ∨ (∃ b, c = .bool b ∧ d = .bool b) ∨ ∃ s, c = .str s ∧ d = .str s) := by
          cases hr : eqL ks cs ds with
          | none => cases k <;> cases c <;> cases d <;> simp [eqL, hr] at h
          | some r =>
            cases k <;> cases c <;> cases d <;> simp [eqL, hr] at h
            · obtain ⟨h1, h2⟩ := h; subst h1; subst h2; exact ⟨rfl, .inr (.inl ⟨_, rfl, rfl⟩)⟩
            · obtain ⟨h1, h2, h3⟩ := h; subst h1; subst h2; subst h3; exact ⟨rfl, .inl ⟨_, _, rfl, rfl⟩⟩
            · obtain ⟨h1, h2⟩ := h; subst h1; subst h2; exact ⟨rfl, .inr (.inr ⟨_, rfl, rfl⟩)⟩
        obtain ⟨h1, h2⟩ := ih key.1
        refine ⟨by simp [h1], fun i x y hx hy => ?_⟩
        cases i with
        | zero => simp at hx hy; subst hx; subst hy; exact key.2
        | succ i => simp at hx hy; exact h2 i x y hx hy

theorem same_bits {ks : List LK} {k ds : List AVal} {xs ys : Array Value} (hx : VL w E k xs) (hy : VL w E ds ys) (h : eqL ks k ds = some true) : Instr.sameBits 10000 (.agg ys) (.agg xs) = true := by
  obtain ⟨hl, hp⟩ := eqL_true h
  have hsz : ys.size = xs.size := by rw [hx.1, hy.1, hl]
  have key : ∀ n, Instr.sameBits (n + 1) (.agg ys) (.agg xs) = true := by
    intro n
    simp only [Instr.sameBits, Bool.and_eq_true, List.all_eq_true]
    refine ⟨by simp [hsz], fun p hpz => ?_⟩
    obtain ⟨i, hi⟩ := List.mem_iff_getElem?.1 hpz
    rw [List.getElem?_zip_eq_some] at hi
    obtain ⟨h1, h2⟩ := hi
    rw [Array.getElem?_toList] at h1 h2
    have hlt := (Array.getElem?_eq_some_iff.1 h2).1
    rw [hx.1] at hlt
    have hx' : k[i]? = some k[i] := List.getElem?_eq_getElem hlt
    have hy' : ds[i]? = some (ds[i]'(by omega)) := List.getElem?_eq_getElem _
    have v1 := hx.2 i _ _ hx' h2
    have v2 := hy.2 i _ _ hy' h1
    obtain ⟨a, b⟩ := p
    simp only at v1 v2 ⊢
    rcases hp i _ _ hx' hy' with ⟨q, m, e1, e2⟩ | ⟨q, e1, e2⟩ | ⟨q, e1, e2⟩
    · rw [e1] at v1; rw [e2] at v2
      rw [v1.int_inv, v2.int_inv]
      simp [Instr.sameBits]
    · rw [e1] at v1; rw [e2] at v2
      rw [v1.bool_inv, v2.bool_inv]
      simp [Instr.sameBits]
    · rw [e1] at v1; rw [e2] at v2
      obtain ⟨s1, r1, r2⟩ := v1.str_inv
      obtain ⟨s2, r3, r4⟩ := v2.str_inv
      rw [r1, r3]
      simp only [Instr.sameBits]
      rw [beq_bytes, r2, r4]; simp
  exact key 9999

/-! Maps. -/
theorem check_run {P : Program} {w : World} (em : Bool) (d : Nat) : ∀ (t : TypeId) (T : TypeDesc) (ks : List LK) (D : Nat) (xs : Array Value), leavesT P d t = some ks → P.underlying t = some T → d ≤ D →
    xs.size = ks.length → (Instr.checkKey em D t (toV (aggD T) xs)).run P w = .ok () w := by
  induction d with
  | zero => intro t T ks D xs h; simp [leavesT] at h
  | succ d ih =>
    intro t T ks D xs h hu hD hx
    obtain ⟨D, rfl⟩ : ∃ D', D = D' + 1 := ⟨D - 1, by omega⟩
    have hsz := leaves_size h hu
    unfold leavesT at h
    rw [hu] at h
    cases T <;> simp at h
    case bool => simp [Instr.checkKey, run_underlying hu]
    case int k0 => simp [Instr.checkKey, run_underlying hu]
    case string => simp [Instr.checkKey, run_underlying hu]
    case struct fs =>
      obtain ⟨hst, h⟩ := h
      have key : ∀ (l : List Field) (off : Nat) (ks : List LK), off + ks.length = xs.size → leavesT.go P d (szOf P t) l off = some ks →
          (forIn l PUnit.unit fun f _ =>
            if f.name = "_" then (pure (ForInStep.yield PUnit.unit) : Sem (ForInStep PUnit))
            else do
              let a ← part f.type xs f.offset
              Instr.checkKey em D f.type a
              pure (ForInStep.yield PUnit.unit)).run P w = .ok PUnit.unit w := by
        intro l
        induction l with
        | nil => intro off ks hof h; simp
        | cons f l ihl =>
          intro off ks hof h
          simp only [leavesT.go] at h
          split at h
          · cases h
          · rename_i hname
            split at h
            · rename_i hoff
              cases hf : leavesT P d f.type with
              | none => rw [hf] at h; simp at h
              | some lf =>
                rw [hf] at h
                cases hg : leavesT.go P d (szOf P t) l (off + szOf P f.type) with
                | none => rw [hg] at h; simp at h
                | some lg =>
                  rw [hg] at h; simp at h; subst h
                  obtain ⟨F, hF⟩ := leaves_under hf
                  obtain ⟨hfs, hf1⟩ := leaves_size hf hF
                  rw [List.length_append, hfs] at hof
                  have p1 := run_part (P := P) (w := w) (xs := xs) (off := f.offset) hF hf1 (by omega)
                  have q := ih f.type F lf D (xs.extract f.offset (f.offset + szOf P f.type)) hf hF (by omega) (by simp; omega)
                  have ihl' := ihl (off + szOf P f.type) lg (by omega) hg
                  simp only [List.forIn_cons, hname, if_false, Sem.run_bind, p1, q, Result.andThen_ok]
                  simpa using ihl'
            · cases h
      have := key fs.toList 0 ks (by omega) h
      simp only [aggD, toV, if_true]
      simp [Instr.checkKey, run_underlying hu]
      rw [← Array.forIn_toList]
      exact this
    case array n e =>
      obtain ⟨hsz1, l, hl, rfl⟩ := h
      obtain ⟨F, hF⟩ := leaves_under hl
      obtain ⟨hfs, hf1⟩ := leaves_size hl hF
      obtain ⟨i, hi⟩ := underlying_info hF
      simp [hfs] at hx
      have key : ∀ (m k : Nat), k + m = n →
          (forIn (List.range' k m) PUnit.unit fun i _ => (do
              let n ← sizeOf e
              let a ← part e xs (i * n)
              (fun _ => ForInStep.yield PUnit.unit) <$> Instr.checkKey em D e a : Sem (ForInStep PUnit))).run P w = .ok PUnit.unit w := by
        intro m
        induction m with
        | zero => intro k hk; simp
        | succ m ihm =>
          intro k hk
          have hb : k * szOf P e + szOf P e ≤ xs.size := by
            rw [hx]; calc k * szOf P e + szOf P e = (k + 1) * szOf P e := by rw [Nat.add_mul, Nat.one_mul]
              _ ≤ n * szOf P e := Nat.mul_le_mul_right _ (by omega)
          have p1 := run_part (P := P) (w := w) (xs := xs) (off := k * szOf P e) hF hf1 (by omega)
          have q := ih e F l D (xs.extract (k * szOf P e) (k * szOf P e + szOf P e)) hl hF (by omega) (by simp; omega)
          have ih' := ihm (k + 1) (by omega)
          have p0 := run_sizeOf' (w := w) hi
          rw [← szOf_info hi] at p0
          simp only [List.range'_succ, List.forIn_cons, Sem.run_bind, p0, p1, Result.andThen_ok]
          simp [q]
          exact ih'
      have := key n 0 (by omega)
      simp only [aggD, toV, if_true]
      simp [Instr.checkKey, run_underlying hu]
      exact this

theorem keyOK_some {P : Program} {kt : TypeId} {k : List AVal} (h : keyOK P kt k = true) : ∃ i T ks, P.info? kt = some i ∧ P.underlying kt = some T ∧ aggD T = true ∧ leavesT P 8 kt = some ks ∧ ks.length = k.length := by
  unfold keyOK at h
  split at h
  · rename_i q hq
    obtain ⟨i, T, hi, hu, rfl⟩ := lay_some hq
    simp only [Bool.and_eq_true] at h
    cases hl : leavesT P 8 kt with
    | none => rw [hl] at h; exact absurd h.2 (by simp)
    | some ks =>
      rw [hl] at h
      exact ⟨i, T, ks, hi, hu, h.1, rfl, by simpa using h.2⟩
  · cases h

theorem find_run (kt : TypeId) {k : List AVal} {xs : Array Value} (hk : keyOK C.P kt k = true) (hx : VL w E k xs) : ∀ (es : List (AVal × AVal × Nat)) (ents : List MapEntry) (i : Nat) (r : Option (Nat × AVal × Nat)), es.length = ents.length →
    (∀ (j : Nat) p ent, es[j]? = some p → ents[j]? = some ent → V w E p.1 ent.key ∧ V w E p.2.1 ent.val ∧ ent.born = p.2.2) → findX C.P kt k es i = some r →
    (∀ (D : Unit), (Instr.findAsking kt (.agg xs) ents i).run C.P w = .ok (r.map fun q => (q.1, (ents.getD (q.1 - i) default).val)) w) ∧
      (∀ q, r = some q → i ≤ q.1 ∧ ∃ p ent ds, es[q.1 - i]? = some p ∧ ents[q.1 - i]? = some ent ∧ p.1 = .agg ds ∧ p.2.1 = q.2.1 ∧ p.2.2 = q.2.2 ∧ (leavesT C.P 8 kt).bind (fun ks => eqL ks k ds) = some true) := by
  obtain ⟨info, T, ks, hi, hu, hg, hl, hlen⟩ := keyOK_some hk
  intro es
  induction es with
  | nil =>
    intro ents i r hle hv h
    have : ents = [] := List.eq_nil_of_length_eq_zero hle.symm
    subst this
    simp only [findX, Option.some.injEq] at h; subst h
    exact ⟨fun _ => by simp [Instr.findAsking], fun q hq => by cases hq⟩
  | cons p es ih =>
    intro ents i r hle hv h
    cases ents with
    | nil => simp at hle
    | cons ent ents =>
      obtain ⟨pk, pv, pn⟩ := p
      cases pk <;> simp only [findX] at h <;> try (cases h; done)
      rename_i ds
      obtain ⟨hv1, hv2, hv3⟩ := hv 0 _ _ rfl rfl
      obtain ⟨ys, hke, hyl⟩ := hv1.agg_inv
      rw [hl] at h
      simp only [Option.bind_some] at h
      cases he : eqL ks k ds with
      | none => rw [he] at h; simp at h
      | some bb =>
        rw [he] at h
        have hrun := eq_run 8 kt T ks 10000 k ds xs ys bb hl hu (by omega) hx hyl he
        rw [hg] at hrun
        have hrun : (Op.equal kt (.agg xs) ent.key).run C.P w = .ok bb w := by rw [hke]; exact hrun
        cases bb with
        | true =>
          simp only [Option.some.injEq] at h
          subst h
          refine ⟨fun _ => ?_, fun q hq => ?_⟩
          · simp [Instr.findAsking, hrun]
          · cases hq
            refine ⟨Nat.le_refl _, (.agg ds, pv, pn), ent, ds, by simp, by simp, rfl, rfl, rfl, ?_⟩
            rw [hl]; exact he
        | false =>
          simp only at h
          obtain ⟨h1, h2⟩ := ih ents (i + 1) r (by simpa using hle) (fun j p ent hp hent => hv (j + 1) p ent (by simpa using hp) (by simpa using hent)) h
          refine ⟨fun _ => ?_, fun q hq => ?_⟩
          · have h1 := h1 ()
            simp only [Instr.findAsking, Sem.run_bind, hrun, Result.andThen_ok]
            simp only [Bool.false_eq_true, if_false]
            rw [h1]
            cases r with
            | none => rfl
            | some q =>
              have hq := (h2 q rfl).1
              have e : q.1 - i = (q.1 - (i + 1)) + 1 := by omega
              simp only [Option.map_some, e, List.getD_cons_succ]
          · obtain ⟨h3, p, ent', ds', h4, h5, h6⟩ := h2 q hq
            have e : q.1 - i = (q.1 - (i + 1)) + 1 := by omega
            exact ⟨by omega, p, ent', ds', by rw [e]; simpa using h4, by rw [e]; simpa using h5, h6⟩

theorem findNow_agg {k : IntKind} {T : TypeDesc} (hg : aggD T = true) (xs : Array Value) : ∀ (ents : List MapEntry) (i : Nat), Instr.findNow T (.agg xs) ents i = if ents = [] then some none else none := by
  intro ents i
  cases ents with
  | nil => rfl
  | cons e es =>
    rw [if_neg (by simp)]
    simp only [Instr.findNow]
    have : Instr.sameNow T (.agg xs) e.key = none := by
      cases T <;> simp [aggD] at hg <;> rfl
    rw [this]

/-- Looking for a key. -/
theorem findKey_run {kt : TypeId} {k : List AVal} {xs : Array Value} (hk : keyOK C.P kt k = true) (hx : VL w E k xs) {es : List (AVal × AVal × Nat)} {ents : Array MapEntry} {r : Option (Nat × AVal × Nat)} (hs : ents.size = es.length)
    (hv : ∀ (j : Nat) p ent, es[j]? = some p → ents[j]? = some ent → V w E p.1 ent.key ∧ V w E p.2.1 ent.val ∧ ent.born = p.2.2) (h : findX C.P kt k es 0 = some r) :
    (Instr.findKey kt (.agg xs) ents.toList).run C.P w = .ok (r.map fun q => (q.1, (ents.toList.getD q.1 default).val)) w ∧ (∀ em, (Instr.checkKey em 10000 kt (.agg xs)).run C.P w = .ok () w) ∧
      (∀ q, r = some q → ∃ p ent ds, es[q.1]? = some p ∧ ents[q.1]? = some ent ∧ p.1 = .agg ds ∧ p.2.1 = q.2.1 ∧ p.2.2 = q.2.2 ∧ Instr.sameBits 10000 ent.key (.agg xs) = true) := by
  obtain ⟨info, T, ks, hi, hu, hg, hl, hlen⟩ := keyOK_some hk
  obtain ⟨h1, h2⟩ := find_run kt hk hx es ents.toList 0 r (by simp [hs]) (fun j p ent hp he => hv j p ent hp (by simpa using he)) h
  refine ⟨?_, fun em => ?_, fun q hq => ?_⟩
  · have h1 := h1 ()
    simp only [Nat.sub_zero] at h1
    by_cases hn : ents.toList = []
    · have he : es = [] := List.eq_nil_of_length_eq_zero (by rw [← hs]; simpa using congrArg List.length hn)
      subst he
      simp only [findX, Option.some.injEq] at h; subst h
      simp [Instr.findKey, run_underlying hu, findNow_agg (k := .i64) hg, hn]
    · simp [Instr.findKey, run_underlying hu, findNow_agg (k := .i64) hg, hn]
      simpa using h1
  · have := check_run (P := C.P) (w := w) em 8 kt T ks 10000 xs hl hu (by omega) (by rw [hx.1, hlen])
    rw [hg] at this
    exact this
  · obtain ⟨_, p, ent, ds, h4, h5, h6, h7, h8, h9⟩ := h2 q hq
    rw [Nat.sub_zero] at h4 h5
    refine ⟨p, ent, ds, h4, by simpa using h5, h6, h7, h8, ?_⟩
    obtain ⟨hv1, _⟩ := hv q.1 p ent h4 (by simpa using h5)
    rw [h6] at hv1
    obtain ⟨ys, hke, hyl⟩ := hv1.agg_inv
    rw [hl] at h9
    exact hke ▸ same_bits hx hyl h9

theorem sameS_now {q : AVal} {x y : AVal} {a b : Value} {T : TypeDesc} (hT : (∃ k, T = .int k) ∧ (∃ k n, x = .int k n) ∨ T = .string ∧ (∃ s, x = .str s)) {r : Bool} (hx : V w E x a) (hy : V w E y b) (h : sameS x y = some r) : Instr.sameNow T a b = some r ∧ (r = true → Instr.sameBits 10000 b a = true) := by
  rcases hT with ⟨⟨k, rfl⟩, k', n, rfl⟩ | ⟨rfl, s, rfl⟩
  · cases y <;> simp only [sameS] at h <;> try (cases h; done)
    rename_i k2 n2
    split at h
    · rename_i e; subst e
      have h1 := hx.int_inv
      have h2 := hy.int_inv
      subst h1 h2
      cases h
      refine ⟨?_, fun hr => ?_⟩
      · simp only [Instr.sameNow, if_true]
        by_cases e : n = n2
        · subst e; simp
        · simp [e]
      · have : n = n2 := of_decide_eq_true hr
        subst this
        simp [Instr.sameBits]
    · cases h
  · cases y <;> simp only [sameS] at h <;> try (cases h; done)
    rename_i s2
    obtain ⟨sa, rfl, ha⟩ := hx.str_inv
    obtain ⟨sb, rfl, hb⟩ := hy.str_inv
    cases h
    refine ⟨?_, fun hr => ?_⟩
    · simp only [Instr.sameNow, beq_bytes, ha, hb]
    · have : s = s2 := of_decide_eq_true hr
      subst this
      simp only [Instr.sameBits, beq_bytes, ha, hb, decide_true]

theorem findS_run {k : AVal} {kv : Value} {T : TypeDesc} (hT : (∃ q, T = .int q) ∧ (∃ q n, k = .int q n) ∨ T = .string ∧ (∃ s, k = .str s)) (hx : V w E k kv) : ∀ (es : List (AVal × AVal × Nat)) (ents : List MapEntry) (i : Nat) (r : Option (Nat × AVal × Nat)), es.length = ents.length →
    (∀ (j : Nat) p ent, es[j]? = some p → ents[j]? = some ent → V w E p.1 ent.key ∧ V w E p.2.1 ent.val ∧ ent.born = p.2.2) → findS k es i = some r →
    Instr.findNow T kv ents i = some (r.map fun q => (q.1, (ents.getD (q.1 - i) default).val)) ∧
      (∀ q, r = some q → i ≤ q.1 ∧ ∃ p ent, es[q.1 - i]? = some p ∧ ents[q.1 - i]? = some ent ∧ p.2.1 = q.2.1 ∧ p.2.2 = q.2.2 ∧ Instr.sameBits 10000 ent.key kv = true) := by
  intro es
  induction es with
  | nil =>
    intro ents i r hle hv h
    have : ents = [] := List.eq_nil_of_length_eq_zero hle.symm
    subst this
    simp only [findS, Option.some.injEq] at h; subst h
    exact ⟨rfl, fun q hq => by cases hq⟩
  | cons p es ih =>
    intro ents i r hle hv h
    cases ents with
    | nil => simp at hle
    | cons ent ents =>
      obtain ⟨pk, pv, pn⟩ := p
      obtain ⟨hv1, hv2, hv3⟩ := hv 0 _ _ rfl rfl
      simp only [findS] at h
      cases he : sameS k pk with
      | none => rw [he] at h; cases h
      | some bb =>
        rw [he] at h
        obtain ⟨g1, g2⟩ := sameS_now (q := k) hT hx hv1 he
        cases bb with
        | true =>
          simp only [Option.some.injEq] at h
          subst h
          refine ⟨?_, fun q hq => ?_⟩
          · simp only [Instr.findNow, g1, Option.map_some, Nat.sub_self, List.getD_cons_zero]
          · cases hq
            exact ⟨Nat.le_refl _, (pk, pv, pn), ent, by simp, by simp, rfl, rfl, g2 rfl⟩
        | false =>
          simp only at h
          obtain ⟨h1, h2⟩ := ih ents (i + 1) r (by simpa using hle) (fun j p ent hp hent => hv (j + 1) p ent (by simpa using hp) (by simpa using hent)) h
          refine ⟨?_, fun q hq => ?_⟩
          · simp only [Instr.findNow, g1, h1]
            cases r with
            | none => rfl
            | some q =>
              have hq := (h2 q rfl).1
              have e : q.1 - i = (q.1 - (i + 1)) + 1 := by omega
              simp only [Option.map_some, e, List.getD_cons_succ]
          · obtain ⟨h3, p, ent', h4, h5, h6⟩ := h2 q hq
            have e : q.1 - i = (q.1 - (i + 1)) + 1 := by omega
            exact ⟨by omega, p, ent', by rw [e]; simpa using h4, by rw [e]; simpa using h5, h6⟩

/-- Looking for a key of any kind. -/
theorem findKey_runK {kt : TypeId} {k : AVal} {kv : Value} (hk : keyK C.P kt k = true) (hx : V w E k kv) {es : List (AVal × AVal × Nat)} {ents : Array MapEntry} {r : Option (Nat × AVal × Nat)} (hs : ents.size = es.length)
    (hv : ∀ (j : Nat) p ent, es[j]? = some p → ents[j]? = some ent → V w E p.1 ent.key ∧ V w E p.2.1 ent.val ∧ ent.born = p.2.2) (h : findK C.P kt k es = some r) :
    (Instr.findKey kt kv ents.toList).run C.P w = .ok (r.map fun q => (q.1, (ents.toList.getD q.1 default).val)) w ∧ (∀ em, (Instr.checkKey em 10000 kt kv).run C.P w = .ok () w) ∧
      (∀ q, r = some q → ∃ p ent, es[q.1]? = some p ∧ ents[q.1]? = some ent ∧ p.2.1 = q.2.1 ∧ p.2.2 = q.2.2 ∧ Instr.sameBits 10000 ent.key kv = true) := by
  have scalar : ∀ (T : TypeDesc), C.P.underlying kt = some T → ((∃ q, T = .int q) ∧ (∃ q n, k = .int q n) ∨ T = .string ∧ (∃ s, k = .str s)) → findS k es 0 = some r →
      (Instr.findKey kt kv ents.toList).run C.P w = .ok (r.map fun q => (q.1, (ents.toList.getD q.1 default).val)) w ∧ (∀ em, (Instr.checkKey em 10000 kt kv).run C.P w = .ok () w) ∧
      (∀ q, r = some q → ∃ p ent, es[q.1]? = some p ∧ ents[q.1]? = some ent ∧ p.2.1 = q.2.1 ∧ p.2.2 = q.2.2 ∧ Instr.sameBits 10000 ent.key kv = true) := fun T hu hT hf => by
    obtain ⟨h1, h2⟩ := findS_run hT hx es ents.toList 0 r (by simp [hs]) (fun j p ent hp he => hv j p ent hp (by simpa using he)) hf
    simp only [Nat.sub_zero] at h1
    refine ⟨?_, fun em => ?_, fun q hq => ?_⟩
    · simp only [Instr.findKey, Sem.run_bind, run_underlying hu, Result.andThen_ok, h1, Sem.run_pure]
    · have h0 : (Instr.checkKey em 10000 kt kv) = Instr.checkKey em (9999 + 1) kt kv := rfl
      rw [h0, Instr.checkKey]
      rcases hT with ⟨⟨q, rfl⟩, _⟩ | ⟨rfl, _⟩ <;> simp only [Sem.run_bind, run_underlying hu, Result.andThen_ok, Sem.run_pure]
    · obtain ⟨_, p, ent, h4, h5, h6⟩ := h2 q hq
      rw [Nat.sub_zero] at h4 h5
      exact ⟨p, ent, h4, by simpa using h5, h6⟩
  cases k with
  | agg ks =>
    obtain ⟨xs, rfl, hxl⟩ := hx.agg_inv
    obtain ⟨h1, h2, h3⟩ := findKey_run hk hxl hs hv h
    exact ⟨h1, h2, fun q hq => let ⟨p, ent, ds, g1, g2, g3, g4, g5, g6⟩ := h3 q hq; ⟨p, ent, g1, g2, g4, g5, g6⟩⟩
  | int q n =>
    simp only [keyK] at hk
    split at hk
    · rename_i q' hu
      exact scalar _ hu (.inl ⟨⟨_, rfl⟩, _, _, rfl⟩) h
    · cases hk
  | str s =>
    simp only [keyK, strT] at hk
    split at hk
    · rename_i hu
      exact scalar _ hu (.inr ⟨rfl, _, rfl⟩) h
    · cases hk
  | _ => cases hk

end
end Go.Proofs.YtaajfbcopafkaaaGreatDoor.Ai

namespace Go.Proofs.YtaajfbcopafkaaaGreatDoor.Ai
open Go
set_option linter.unusedVariables false
set_option linter.unusedSimpArgs false

section
variable {C : Ctx} {E : Env} {sto : List Blk} {w w' : World} {id : Nat}

theorem zeroV_some {P : Program} {e : TypeId} {z : AVal} (h : zeroV P e = some z) : ∃ i v, P.info? e = some i ∧ i.zero = some v ∧ z = ofVal v := by
  unfold zeroV at h
  obtain ⟨v, hv, rfl⟩ := Option.map_eq_some_iff.1 h
  obtain ⟨i, hi, hz⟩ := Option.bind_eq_some_iff.1 hv
  exact ⟨i, v, hi, hz, rfl⟩

theorem tup2 {x y : AVal} {a b : Value} (hx : V w E x a) (hy : V w E y b) : V w E (.tup [x, y]) (.tuple #[a, b]) := by
  refine .tup _ _ rfl (fun i z v hz hv => ?_)
  match i with
  | 0 => simp at hz hv; subst hz; subst hv; exact hx
  | 1 => simp at hz hv; subst hz; subst hv; exact hy
  | n + 2 => simp at hz

theorem lookX_sound (hr : Rel C E sto w) {t : TypeId} {m k v : AVal} {mv kv : Value} {ok : Bool} (hm : V w E m mv) (hk : V w E k kv) (h : lookX C.P sto t m k ok = some v) : ∃ u, (Instr.lookup t mv kv ok).run C.P w = .ok u w ∧ V w E v u := by
  unfold lookX at h
  split at h
  · rename_i kt e hmt
    split at h
    · rename_i hkk
      have hu := mapT_some hmt
      obtain ⟨q, hq, h⟩ := Option.bind_eq_some_iff.1 h
      have fin : ∀ (ents : Array MapEntry), (∀ w' : World, w' = w → True) → (∀ (s : Sem Value), (Instr.lookup t mv kv ok).run C.P w = ((do
            Instr.checkKey ents.isEmpty 10000 kt kv
            let (v, b) ← match ← Instr.findKey kt kv ents.toList with
              | some (_, v) => pure (v, true)
              | none => pure (← zeroValue e, false)
            pure (if ok then Value.tuple #[v, .bool b] else v) : Sem Value)).run C.P w) →
          (Instr.findKey kt kv ents.toList).run C.P w = .ok (q.map fun q => (q.1, (ents.toList.getD q.1 default).val)) w → (∀ em, (Instr.checkKey em 10000 kt kv).run C.P w = .ok () w) →
          (∀ r, q = some r → V w E r.2.1 (ents.toList.getD r.1 default).val) → ∃ u, (Instr.lookup t mv kv ok).run C.P w = .ok u w ∧ V w E v u := by
        intro ents _ hrun h1 h2 h3
        cases q with
        | some r =>
          obtain ⟨i, y, n⟩ := r
          simp only [Option.some.injEq] at h
          have hy := h3 _ rfl
          refine ⟨if ok = true then .tuple #[(ents.toList.getD i default).val, .bool true] else (ents.toList.getD i default).val, ?_, ?_⟩
          · rw [hrun (pure default)]
            simp only [Sem.run_bind, h2, h1, Result.andThen_ok, Option.map_some, Sem.run_pure]
          · subst h
            by_cases ho : ok = true
            · rw [if_pos ho, if_pos ho]; exact tup2 hy V.bool
            · rw [if_neg ho, if_neg ho]; exact hy
        | none =>
          simp only at h
          obtain ⟨z, hz, hzv⟩ := Option.map_eq_some_iff.1 h
          obtain ⟨i, v0, hi, hz0, rfl⟩ := zeroV_some hz
          refine ⟨if ok = true then .tuple #[v0, .bool false] else v0, ?_, ?_⟩
          · rw [hrun (pure default)]
            simp only [Sem.run_bind, h2, h1, Result.andThen_ok, Option.map_none, Sem.run_pure, run_zero hi hz0]
          · rw [← hzv]
            by_cases ho : ok = true
            · rw [if_pos ho, if_pos ho]; exact tup2 (V.of_val v0) V.bool
            · rw [if_neg ho, if_neg ho]; exact V.of_val v0
      unfold lookM at hq
      split at hq
      · rename_i b
        split at hq
        · rename_i es clock hb
          obtain ⟨rfl, hal, hc⟩ := hm.mapr_inv
          cases hr.blk b _ hb with
          | map _ ents _ hg hn hs hv =>
            obtain ⟨h1, h2, h3⟩ := findKey_runK hkk hk hs hv hq
            refine fin ents (fun _ _ => trivial) (fun s => ?_) h1 h2 (fun r hr' => ?_)
            · simp only [Instr.lookup, Sem.run_bind, run_underlying hu, Result.andThen_ok, getObj, Sem.run, hg, Sem.run_pure]
              rfl
            · obtain ⟨p, ent, g1, g2, g4, g5, g6⟩ := h3 r hr'
              have := (hv r.1 p ent g1 g2).2.1
              rw [g4] at this
              have e : ents.toList.getD r.1 default = ent := by
                rw [List.getD_eq_getElem?_getD, Array.getElem?_toList, g2]; rfl
              rw [e]; exact this
        · cases hq
      · have := hm.nilmap_inv
        subst this
        cases hq
        obtain ⟨h1, h2, h3⟩ := findKey_runK (C := C) (w := w) (E := E) (es := []) (ents := #[]) (r := none) hkk hk rfl (fun j p ent hp => by simp at hp) (by unfold findK; split <;> rfl)
        refine fin #[] (fun _ _ => trivial) (fun s => ?_) h1 h2 (fun r hr' => by cases hr')
        simp only [Instr.lookup, Sem.run_bind, run_underlying hu, Result.andThen_ok, Sem.run_pure]
        rfl
      · cases hq
    · cases h
  · cases h

/-- A map is written. -/
theorem rel_map (hr : Rel C E sto w) {b : Nat} {es es' : List (AVal × AVal × Nat)} {clock clock' : Nat} (hb : sto[b]? = some (.map es clock)) (ents' : Array MapEntry) (hs : ents'.size = es'.length)
    (hv : ∀ (i : Nat) p ent, es'[i]? = some p → ents'[i]? = some ent → V w E p.1 ent.key ∧ V w E p.2.1 ent.val ∧ ent.born = p.2.2) :
    ∃ E', Rel C E' (wr1 sto b (.map es' clock')) { w with heap := w.heap.setIfInBounds (E.ι b) (.map ents' clock') } ∧ Step E sto w E' (wr1 sto b (.map es' clock')) { w with heap := w.heap.setIfInBounds (E.ι b) (.map ents' clock') } ∧ (∀ y, E'.al y → E.al y) := by
  have hlive : live sto b := live_iff.2 ⟨_, hb, rfl⟩
  have hblt := live_lt hlive
  have hal := hr.al b hlive
  have hcur : E.cur b = none := by rw [hr.cur, curOf_curB hb]; rfl
  have hother : ∀ k, k < w.heap.size → (live sto b → E.ι b ≠ k) → ({ w with heap := w.heap.setIfInBounds (E.ι b) (.map ents' clock') } : World).heap[k]? = w.heap[k]? := fun k hk hne => by
    show (w.heap.setIfInBounds _ _)[k]? = _
    rw [Array.getElem?_setIfInBounds_ne (hne hlive)]
  have hal' : (E.al b ∧ (E.cur b = none → curB (.map es' clock') = none ∧ E.ι b = E.ι b) ∧ (∀ m, E.cur b = some m → ∃ m', curB (.map es' clock') = some m' ∧ m ≤ m' ∧ E.sz b = E.sz b ∧ (m' = m → E.ι b = E.ι b ∧ E.cap b = E.cap b ∧ E.hd b = E.hd b))) ∨ (¬ E.al b ∧ b ≤ sto.length) :=
    .inl ⟨hal, fun _ => ⟨rfl, rfl⟩, fun m hm => by (rw [hcur] at hm; cases hm)⟩
  have hst := step_upd hr b (.map es' clock') (E.ι b) (E.cap b) (E.sz b) (E.hd b) (Nat.le_of_lt hblt) (w' := { w with heap := w.heap.setIfInBounds (E.ι b) (.map ents' clock') }) rfl rfl rfl (by simp) hother (fun _ => .inl ⟨hlive, rfl⟩) hal'
  cases hr.blk b _ hb with
  | map _ ents _ hg hn hs0 hv0 =>
    have hrel := rel_upd hr b (.map es' clock') (E.ι b) (E.cap b) (E.sz b) (E.hd b) (Nat.le_of_lt hblt) (w' := { w with heap := w.heap.setIfInBounds (E.ι b) (.map ents' clock') }) rfl rfl rfl (by simp) hother (fun _ => .inl ⟨hlive, rfl⟩) hal'
      (.map es' ents' clock' (by rw [env_set_new.1]; show (w.heap.setIfInBounds _ _)[_]? = _; rw [Array.getElem?_setIfInBounds_self_of_lt (Array.getElem?_eq_some_iff.1 hg).1]) (by rw [env_set_new.1]; exact hn) hs
        (fun i p ent hp he => ⟨(hv i p ent hp he).1.step hr hst, (hv i p ent hp he).2.1.step hr hst, (hv i p ent hp he).2.2⟩))
    refine ⟨_, hrel.1, hrel.2, fun y hy => ?_⟩
    rcases hy with rfl | hy
    · exact hal
    · exact hy

theorem modify_get {ents : Array MapEntry} {f : MapEntry → MapEntry} {i j : Nat} : (ents.modify i f)[j]? = if i = j then (ents[j]?).map f else ents[j]? := Array.getElem?_modify ..

/-- What stands in a map where one entry is put anew. -/
theorem map_set {es : List (AVal × AVal × Nat)} {ents : Array MapEntry} (hs : ents.size = es.length) (hv : ∀ (i : Nat) p ent, es[i]? = some p → ents[i]? = some ent → V w E p.1 ent.key ∧ V w E p.2.1 ent.val ∧ ent.born = p.2.2) {i : Nat} {p' : AVal × AVal × Nat} {f : MapEntry → MapEntry}
    (hp : ∀ p ent, es[i]? = some p → ents[i]? = some ent → V w E p'.1 (f ent).key ∧ V w E p'.2.1 (f ent).val ∧ (f ent).born = p'.2.2) :
    (ents.modify i f).size = (es.set i p').length ∧ ∀ (j : Nat) p ent, (es.set i p')[j]? = some p → (ents.modify i f)[j]? = some ent → V w E p.1 ent.key ∧ V w E p.2.1 ent.val ∧ ent.born = p.2.2 := by
  refine ⟨by simp [hs], fun j p ent h1 h2 => ?_⟩
  rw [modify_get] at h2
  rw [List.getElem?_set] at h1
  by_cases e : i = j
  · subst e
    rw [if_pos rfl] at h1 h2
    by_cases hlt : i < es.length
    · rw [if_pos hlt] at h1; cases h1
      cases he : ents[i]? with
      | none => rw [he] at h2; cases h2
      | some e0 =>
        rw [he] at h2; cases h2
        exact hp es[i] e0 (List.getElem?_eq_getElem hlt) he
    · rw [if_neg hlt] at h1; cases h1
  · rw [if_neg e] at h1 h2
    exact hv j p ent h1 h2

theorem map_push {es : List (AVal × AVal × Nat)} {ents : Array MapEntry} (hs : ents.size = es.length) (hv : ∀ (i : Nat) p ent, es[i]? = some p → ents[i]? = some ent → V w E p.1 ent.key ∧ V w E p.2.1 ent.val ∧ ent.born = p.2.2) {p' : AVal × AVal × Nat} {e' : MapEntry}
    (hp : V w E p'.1 e'.key ∧ V w E p'.2.1 e'.val ∧ e'.born = p'.2.2) :
    (ents.push e').size = (es ++ [p']).length ∧ ∀ (j : Nat) p ent, (es ++ [p'])[j]? = some p → (ents.push e')[j]? = some ent → V w E p.1 ent.key ∧ V w E p.2.1 ent.val ∧ ent.born = p.2.2 := by
  refine ⟨by simp [hs], fun j p ent h1 h2 => ?_⟩
  rw [List.getElem?_append] at h1
  rw [Array.getElem?_push] at h2
  by_cases hlt : j < es.length
  · rw [if_pos hlt] at h1
    rw [if_neg (by omega)] at h2
    exact hv j p ent h1 h2
  · rw [if_neg hlt] at h1
    have hj : j - es.length = 0 := by
      have := (List.getElem?_eq_some_iff.1 h1).1
      simp at this; omega
    rw [hj] at h1
    simp at h1
    rw [if_pos (by omega)] at h2
    cases h2; subst h1; exact hp

theorem good_updX (hr : Rel C E sto w) {t : TypeId} {m k v : AVal} {mv kv vv : Value} {ws : List (Nat × Blk)} (hm : V w E m mv) (hk : V w E k kv) (hv' : V w E v vv) (h : updX C.P sto t m k v = some ws) {r : Result Next}
    (hrun : r = (do Instr.mapUpdate t mv kv vv; pure Next.skip : Sem Next).run C.P w) : OpGood C E sto w id r .undef ws := by
  unfold updX at h
  split at h
  · rename_i kt e b hmt
    split at h
    · rename_i hkk
      split at h
      · rename_i es clock hb
        obtain ⟨q, hq, h⟩ := Option.map_eq_some_iff.1 h
        have hu := mapT_some hmt
        obtain ⟨rfl, hal, hc⟩ := hm.mapr_inv
        have hblt := (List.getElem?_eq_some_iff.1 hb).1
        cases hr.blk b _ hb with
        | map _ ents _ hg hn hs hv =>
          obtain ⟨h1, h2, h3⟩ := findKey_runK hkk hk hs hv hq
          cases q with
          | none =>
            simp only at h; subst h
            obtain ⟨p1, p2⟩ := map_push hs hv (p' := (k, v, clock)) (e' := { key := kv, val := vv, born := clock }) ⟨hk, hv', rfl⟩
            obtain ⟨E', g1, g2, g3⟩ := rel_map hr hb (clock' := clock + 1) (ents.push { key := kv, val := vv, born := clock }) p1 p2
            refine ⟨.skip, _, _, E', ?_, rfl, g1, g2, .pure .undef, fun y hy => .inl (g3 y hy)⟩
            rw [hrun]
            simp only [Instr.mapUpdate, Sem.run_bind, run_underlying hu, Result.andThen_ok, getObj, setObj, Sem.run, hg, h2, h1, Option.map_none, Sem.run_pure]
          | some q =>
            obtain ⟨i, y, n⟩ := q
            simp only at h; subst h
            obtain ⟨p, ent, f1, f2, f4, f5, f6⟩ := h3 _ rfl
            simp only at f1 f2 f4 f5
            obtain ⟨p1, p2⟩ := map_set hs hv (i := i) (p' := (k, v, n)) (f := fun e => { e with key := kv, val := vv }) (fun p2 e2 k1 k2 => by
              rw [f1] at k1; cases k1
              exact ⟨hk, hv', by rw [← f5]; exact (hv i _ _ f1 k2).2.2⟩)
            obtain ⟨E', g1, g2, g3⟩ := rel_map hr hb (clock' := clock) (ents.modify i fun e => { e with key := kv, val := vv }) p1 p2
            refine ⟨.skip, _, _, E', ?_, rfl, g1, g2, .pure .undef, fun y hy => .inl (g3 y hy)⟩
            rw [hrun]
            have hst : (Instr.keyThatStays ent.key kv).run C.P w = .ok kv w := by simp [Instr.keyThatStays, f6]
            simp only [Instr.mapUpdate, Sem.run_bind, run_underlying hu, Result.andThen_ok, getObj, setObj, Sem.run, hg, h2, h1, Option.map_some, Sem.run_pure, f2, Option.getD_some, hst]
      · cases h
    · cases h
  · cases h

theorem map_erase {es : List (AVal × AVal × Nat)} {ents : Array MapEntry} (hs : ents.size = es.length) (hv : ∀ (i : Nat) p ent, es[i]? = some p → ents[i]? = some ent → V w E p.1 ent.key ∧ V w E p.2.1 ent.val ∧ ent.born = p.2.2) {i : Nat} (hi : i < ents.size) :
    (ents.eraseIdxIfInBounds i).size = (es.eraseIdx i).length ∧ ∀ (j : Nat) p ent, (es.eraseIdx i)[j]? = some p → (ents.eraseIdxIfInBounds i)[j]? = some ent → V w E p.1 ent.key ∧ V w E p.2.1 ent.val ∧ ent.born = p.2.2 := by
  have hsub : (ents.eraseIdxIfInBounds i).toList = ents.toList.eraseIdx i := by
    unfold Array.eraseIdxIfInBounds
    rw [dif_pos hi]
    simp
  refine ⟨?_, fun j p ent h1 h2 => ?_⟩
  · have : (ents.eraseIdxIfInBounds i).size = (ents.toList.eraseIdx i).length := by rw [← hsub]; exact Array.length_toList.symm
    rw [this, List.length_eraseIdx, List.length_eraseIdx]
    simp only [Array.length_toList, hs]
  · rw [← Array.getElem?_toList, hsub, List.getElem?_eraseIdx] at h2
    rw [List.getElem?_eraseIdx] at h1
    split at h1
    · rename_i hlt
      rw [if_pos hlt] at h2
      exact hv j p ent h1 (by simpa using h2)
    · rename_i hlt
      rw [if_neg hlt] at h2
      exact hv (j + 1) p ent h1 (by simpa using h2)
theorem good_delX (hr : Rel C E sto w) {t tk ty : TypeId} {m k : AVal} {mv kv : Value} {ws : List (Nat × Blk)} (hm : V w E m mv) (hk : V w E k kv) (h : delX C.P sto t m k = some ws) {r : Result Next}
    (hrun : r = (do pure (Next.value (← Builtin.delete_ #[t, tk] ty #[mv, kv])) : Sem Next).run C.P w) : OpGood C E sto w id r (.tup []) ws := by
  unfold delX at h
  split at h
  · rename_i kt e b hmt
    split at h
    · rename_i hkk
      split at h
      · rename_i es clock hb
        obtain ⟨q, hq, h⟩ := Option.map_eq_some_iff.1 h
        have hu := mapT_some hmt
        obtain ⟨rfl, hal, hc⟩ := hm.mapr_inv
        have hblt := (List.getElem?_eq_some_iff.1 hb).1
        cases hr.blk b _ hb with
        | map _ ents _ hg hn hs hv =>
          obtain ⟨h1, h2, h3⟩ := findKey_runK hkk hk hs hv hq
          cases q with
          | none =>
            simp only at h; subst h
            obtain ⟨E', g1, g2, g3⟩ := rel_map hr hb (clock' := clock) ents hs hv
            refine ⟨.value (.tuple #[]), _, _, E', ?_, rfl, g1, g2, .tup [] #[] rfl (fun i x v hx => by cases hx), fun y hy => .inl (g3 y hy)⟩
            rw [hrun]
            refine run_v ?_
            simp [Builtin.delete_, run_underlying hu, MapKept.run_getObj_map hg, h2, h1, MapKept.run_setObj_map _ hg, Result.andThen]
          | some q =>
            obtain ⟨i, y, n⟩ := q
            simp only at h; subst h
            obtain ⟨p, ent, f1, f2, f4, f5, f6⟩ := h3 _ rfl
            simp only at f1 f2 f4 f5
            obtain ⟨p1, p2⟩ := map_erase hs hv (i := i) (Array.getElem?_eq_some_iff.1 f2).1
            obtain ⟨E', g1, g2, g3⟩ := rel_map hr hb (clock' := clock) (ents.eraseIdxIfInBounds i) p1 p2
            refine ⟨.value (.tuple #[]), _, _, E', ?_, rfl, g1, g2, .tup [] #[] rfl (fun i x v hx => by cases hx), fun y hy => .inl (g3 y hy)⟩
            rw [hrun]
            refine run_v ?_
            simp [Builtin.delete_, run_underlying hu, MapKept.run_getObj_map hg, h2, h1, MapKept.run_setObj_map _ hg, Result.andThen]
      · cases h
    · cases h
  · cases h

theorem good_entX (hr : Rel C E sto w) {t : TypeId} {m k v : AVal} {mv kv : Value} {ws : List (Nat × Blk)} (hm : V w E m mv) (hk : V w E k kv) (h : entX C.P sto t m k = some (v, ws)) {r : Result Next}
    (hrun : r = (do pure (Next.value (← Instr.mapEntry t mv kv)) : Sem Next).run C.P w) : OpGood C E sto w id r v ws := by
  unfold entX at h
  split at h
  · rename_i kt e b hmt
    split at h
    · rename_i hkk
      split at h
      · rename_i es clock hb
        obtain ⟨q, hq, h⟩ := Option.bind_eq_some_iff.1 h
        have hu := mapT_some hmt
        obtain ⟨rfl, hal, hc⟩ := hm.mapr_inv
        cases hr.blk b _ hb with
        | map _ ents _ hg hn hs hv =>
          obtain ⟨h1, h2, h3⟩ := findKey_runK hkk hk hs hv hq
          cases q with
          | none =>
            simp only at h
            obtain ⟨z, hz, hzz⟩ := Option.map_eq_some_iff.1 h
            cases hzz
            obtain ⟨i, v0, hi, hz0, rfl⟩ := zeroV_some hz
            obtain ⟨p1, p2⟩ := map_push hs hv (p' := (k, ofVal v0, clock)) (e' := { key := kv, val := v0, born := clock }) ⟨hk, V.of_val v0, rfl⟩
            obtain ⟨E', g1, g2, g3⟩ := rel_map hr hb (clock' := clock + 1) (ents.push { key := kv, val := v0, born := clock }) p1 p2
            refine ⟨.value (.tuple #[v0, .int .i64 clock]), _, _, E', ?_, rfl, g1, g2, tup2 (V.of_val v0) V.int, fun y hy => .inl (g3 y hy)⟩
            rw [hrun]
            refine run_v ?_
            simp only [Instr.mapEntry, Sem.run_bind, run_underlying hu, Result.andThen_ok, getObj, setObj, Sem.run, hg, h2, h1, Option.map_none, Sem.run_pure, run_zero hi hz0, goInt]
          | some q =>
            obtain ⟨i, y, n⟩ := q
            simp only [Option.some.injEq] at h
            cases h
            obtain ⟨p, ent, f1, f2, f4, f5, f6⟩ := h3 _ rfl
            simp only at f1 f2 f4 f5
            obtain ⟨p1, p2⟩ := map_set hs hv (i := i) (p' := (k, y, n)) (f := fun e => { e with key := kv }) (fun p2 e2 k1 k2 => by
              rw [f1] at k1; cases k1
              have := hv i _ _ f1 k2
              exact ⟨hk, by rw [← f4]; exact this.2.1, by rw [← f5]; exact this.2.2⟩)
            obtain ⟨E', g1, g2, g3⟩ := rel_map hr hb (clock' := clock) (ents.modify i fun e => { e with key := kv }) p1 p2
            have hval := hv i _ _ f1 f2
            have e1 : ents.toList.getD i default = ent := by
              rw [List.getD_eq_getElem?_getD, Array.getElem?_toList, f2]; rfl
            refine ⟨.value (.tuple #[ent.val, .int .i64 n]), _, _, E', ?_, rfl, g1, g2, tup2 ?_ V.int, fun y hy => .inl (g3 y hy)⟩
            · rw [hrun]
              refine run_v ?_
              have hst : (Instr.keyThatStays ent.key kv).run C.P w = .ok kv w := by simp [Instr.keyThatStays, f6]
              have hbn : ent.born = n := by rw [hval.2.2, f5]
              simp only [Instr.mapEntry, Sem.run_bind, run_underlying hu, Result.andThen_ok, getObj, setObj, Sem.run, hg, h2, h1, Option.map_some, Sem.run_pure, f2, Option.getD_some, hst, goInt, e1, hbn]
            · rw [← f4]; exact hval.2.1.step hr g2
      · cases h
    · cases h
  · cases h

theorem good_storeX (hr : Rel C E sto w) {t : TypeId} {m s v : AVal} {mv sv vv : Value} {ws : List (Nat × Blk)} (hm : V w E m mv) (hs' : V w E s sv) (hv' : V w E v vv) (h : storeX sto m s v = some ws) {r : Result Next}
    (hrun : r = (do Instr.entryStore t mv sv vv; pure Next.skip : Sem Next).run C.P w) : OpGood C E sto w id r .undef ws := by
  unfold storeX at h
  split at h
  · rename_i b k n
    split at h
    · rename_i es clock hb
      obtain ⟨i, hi, h⟩ := Option.bind_eq_some_iff.1 h
      obtain ⟨p, hp, rfl⟩ := Option.map_eq_some_iff.1 h
      obtain ⟨rfl, hal, hc⟩ := hm.mapr_inv
      have := hs'.int_inv
      subst this
      cases hr.blk b _ hb with
      | map _ ents _ hg hn hs hv =>
        have hidx : ents.findIdx? (fun e => (e.born : Int) == n) = some i := by
          rw [List.findIdx?_eq_some_iff_getElem] at hi
          obtain ⟨hlt, h1, h2⟩ := hi
          rw [Array.findIdx?_eq_some_iff_getElem]
          refine ⟨by omega, ?_, fun j hj => ?_⟩
          · have := hv i es[i] (ents[i]'(by omega)) (List.getElem?_eq_getElem hlt) (Array.getElem?_eq_getElem _)
            rw [this.2.2]; simpa using h1
          · have := hv j (es[j]'(by omega)) (ents[j]'(by omega)) (List.getElem?_eq_getElem _) (Array.getElem?_eq_getElem _)
            rw [this.2.2]; simpa using h2 j hj
        obtain ⟨p1, p2⟩ := map_set hs hv (i := i) (p' := (p.1, v, p.2.2)) (f := fun e => { e with val := vv }) (fun p2 e2 k1 k2 => by
          rw [hp] at k1; cases k1
          have := hv i _ _ hp k2
          exact ⟨this.1, hv', this.2.2⟩)
        obtain ⟨E', g1, g2, g3⟩ := rel_map hr hb (clock' := clock) (ents.modify i fun e => { e with val := vv }) p1 p2
        refine ⟨.skip, _, _, E', ?_, rfl, g1, g2, .pure .undef, fun y hy => .inl (g3 y hy)⟩
        rw [hrun]
        simp only [Instr.entryStore, Sem.run_bind, Result.andThen_ok, getObj, setObj, Sem.run, hg, Sem.run_pure, asInt, asIntOf, hidx]
    · cases h
  · cases h

theorem good_makeMap (hr : Rel C E sto w) (hid : ¬ E.al id) (hid2 : id ≤ sto.length) {r : Result Next} (hh : w'.heap = w.heap.push (.map #[] 0)) (hos : w'.os = w.os) (htape : w'.tape = w.tape) (hout : w'.output = w.output)
    (h : r = .ok (.value (.map (some w.heap.size))) w') : OpGood C E sto w id r (.mapr id) [(id, .map [] 0)] := by
  have hs : w.heap.size ≤ w'.heap.size := by rw [hh]; simp
  have hold : ∀ k, k < w.heap.size → w'.heap[k]? = w.heap[k]? := fun k hk => by rw [hh]; exact push_old hk
  have hrel := rel_upd hr id (.map [] 0) w.heap.size 0 0 none hid2 hos htape hout hs (fun k hk _ => hold k hk) (fun _ => .inr (Nat.le_refl _)) (.inr ⟨hid, hid2⟩)
    (.map [] #[] 0 (by rw [env_set_new.1, hh]; exact push_new) (by rw [env_set_new.1]; exact fun hk => Nat.lt_irrefl _ (hr.okb _ hk)) rfl (fun i p ent hp => by simp at hp))
  refine ⟨_, _, _, _, h, rfl, hrel.1, hrel.2, ?_, fun b hb => ?_⟩
  · have := V.mapr (w := w') (E := E.set id (curB (.map [] 0)) w.heap.size 0 0 none) id (.inl rfl) (by simp [Env.set, curB])
    rw [env_set_new.1] at this
    exact this
  · rcases hb with rfl | hb
    · exact .inr rfl
    · exact .inl hb

theorem newsV_ints {rows : List (List AVal)} {xv : Value} {news : List Value} {k : IntKind} {ns : List Int} (h : SrcV C E w 1 xv rows news) (hr : rows = ns.map fun n => [AVal.int k n]) : news = ns.map (Value.int k) := by
  apply List.ext_getElem?
  intro i
  have hlen : news.length = ns.length := by rw [h.n, hr]; simp
  by_cases hi : i < ns.length
  · obtain ⟨v, hv1, _, hv2⟩ := h.val i [AVal.int k ns[i]] 0 (AVal.int k ns[i]) (by rw [hr, List.getElem?_map, List.getElem?_eq_getElem hi]; rfl) rfl
    rw [Nat.mul_one, Nat.add_zero] at hv1
    rw [hv1, hv2.int_inv, List.getElem?_map, List.getElem?_eq_getElem hi]; rfl
  · rw [List.getElem?_eq_none (by omega), List.getElem?_eq_none (by simp; omega)]
theorem SrcV.slice {x : Value} {rows : List (List AVal)} {news : List Value} (h : SrcV C E w 1 x rows news) (hx : ∃ A n c, x = .slice A n c) : ∃ A c, x = .slice A rows.length c ∧ (A = none → rows.length = 0) ∧ ∀ a, A = some a → (loadCells a rows.length).run C.P w = .ok news.toArray w := by
  obtain ⟨A, n, c, rfl⟩ := hx
  have h1 := h.len w
  simp [Builtin.lenOf] at h1
  subst h1
  refine ⟨A, c, rfl, fun hA => ?_, fun a hA => ?_⟩
  · subst hA
    have := h.run w rfl
    simp [Builtin.firstCells] at this
    have h2 := h.n
    rw [this] at h2; simpa using h2.symm
  · subst hA
    have := h.run w rfl
    simpa [Builtin.firstCells] using this
theorem good_convX (hr : Rel C E sto w) {src dst : TypeId} {x : AVal} {xv : Value} (hx : V w E x xv) {v : AVal} (h : convX C.P sto src dst x = some v) {r : Result Next}
    (hrun : r = (do pure (Next.value (← convert src dst xv)) : Sem Next).run C.P w) : OpGood C E sto w id r v [] := by
  unfold convX at h
  split at h
  · rename_i hax
    split at h
    · rename_i ht
      split at h
      · rename_i e he
        split at h
        · rename_i hk
          split at h
          · rename_i sx rows hn
            split at h
            · rename_i hs
              subst hs
              cases hb : bytesOfRows rows with
              | none => rw [hb] at h; cases h
              | some l =>
                rw [hb] at h; cases h
                obtain ⟨⟨news, hsrc⟩, _⟩ := srcv_sound (size := 1) hr hx hn (by omega) (.inl rfl)
                have hsl : ∃ A n c, xv = .slice A n c := by
                  cases x <;> simp only [arrX, Bool.false_eq_true] at hax
                  · rename_i b n lo len cap
                    obtain ⟨_, _, hv⟩ := hx.sub_inv
                    simp only [newRowsX] at hn
                    split at hn
                    · split at hn
                      · rename_i hbb
                        split at hn
                        · rename_i hnn
                          obtain ⟨a, c, h1, _⟩ := hv (by rw [hr.cur, curOf_curB hbb]; simp [curB, hnn])
                          exact ⟨_, _, _, h1⟩
                        · cases hn
                      · cases hn
                    · cases hn
                  · obtain ⟨_, _, h1, _⟩ := hx.csl_inv
                    exact ⟨_, _, _, h1⟩
                obtain ⟨A, c, rfl, hA0, hAs⟩ := hsrc.slice hsl
                obtain ⟨ns, h1, h2⟩ := bytesOfRows_spec rows l hb
                have hnews := newsV_ints hsrc h1
                have hconv := run_convert_bytes_string (P := C.P) w src dst e A rows.length c (elemT_some he) (intT_some hk) (strT_true ht)
                cases A with
                | none =>
                  have h3 := hA0 rfl
                  have : l = [] := by rw [h2]; have : ns = [] := List.eq_nil_of_length_eq_zero (by rw [h1] at h3; simpa using h3); rw [this]; rfl
                  subst this
                  exact good_pure hr (u := .string .empty) (by rw [hrun]; exact run_v (hconv.trans (by simp [Conv.bytesToString]))) (V.str rfl)
                | some a =>
                  have h4 := hAs a rfl
                  rw [hnews] at h4
                  refine good_pure hr (u := .string (ns.foldl (fun r n => r.push (UInt8.ofNat n.toNat)) ByteArray.empty)) (by rw [hrun]; exact run_v (hconv.trans (run_bytesToString w a _ c ns h4))) (V.str ?_)
                  rw [fold_bytes, h2]; rfl
            · cases h
          · cases h
        · cases h
      · cases h
    · cases h
  · cases h

theorem denx_sound (hr : Rel C E sto w) (hid : ¬ E.al id) (hid2 : id ≤ sto.length) {ρ : Operand → AVal} {ρ' : Operand → Value} (hρ : ∀ x, V w E (ρ x) (ρ' x)) {o : Oper} {v : AVal} {ws : List (Nat × Blk)}
    (h : denx C ρ sto id o.op = some (v, ws)) : OpGood C E sto w id ((execOp ρ' o).run C.P w) v ws := by
  unfold denx at h
  split at h
  case h_1 t len parts hop =>
    split at h
    · rename_i e he
      cases hb : rowsA C.P sto e len (parts.toList.map fun p => (p.1, ρ p.2)) with
      | none => rw [hb] at h; cases h
      | some rows =>
        rw [hb] at h
        simp only [Option.bind_some] at h
        split at h
        · rename_i h0
          split at h
          · rename_i hlim
            split at h
            · rename_i hall
              cases h
              exact good_buildX hr hid hid2 hρ he hb h0 hlim hall (by simp only [execOp, hop])
            · cases h
          · cases h
        · cases h
    · cases h
  case h_2 t l c hop => exact good_makeX hr hid hid2 (hρ l) (hρ c) h (by simp only [execOp, hop])
  case h_3 src dst x hop =>
    obtain ⟨u, hu, h⟩ := Option.map_eq_some_iff.1 h
    cases h
    exact good_convX hr (hρ x) hu (by simp only [execOp, hop])
  case h_4 t x lo hi mx hop => exact good_sliceX hr (hρ x) (opt_val hρ lo) (opt_val hρ hi) (opt_val hρ mx) h (by simp only [execOp, hop])
  case h_5 t x i hop =>
    split at h
    · rename_i k n hi
      obtain ⟨z, hz, h⟩ := Option.map_eq_some_iff.1 h
      cases h
      have hiv := hρ i
      rw [hi] at hiv
      obtain ⟨u, h1, h2⟩ := idxX_sound (k := k) hr (hρ x) hz
      refine good_pure hr (u := u) ?_ h2
      simp only [execOp, hop, hiv.int_inv]
      exact run_v h1
    · cases h
  case h_6 t rs hop =>
    split at h
    · split at h
      · rename_i hmt
        cases h
        exact good_makeMap hr hid hid2 (w' := { w with heap := w.heap.push (.map #[] 0) }) rfl rfl rfl rfl (by simp only [execOp, hop]; exact run_v (by simp [Instr.makeMap, newObj, Sem.run]))
      · cases h
    · rename_i hh
      split at h
      · rename_i k n hi
        split at h
        · rename_i hmt
          cases h
          obtain ⟨q, hq⟩ := Option.isSome_iff_exists.1 hmt
          have hiv := hρ hh
          rw [hi] at hiv
          have hu := mapT_some (k := q.1) (e := q.2) hq
          exact good_makeMap hr hid hid2 (w' := { w with heap := w.heap.push (.map #[] 0) }) rfl rfl rfl rfl (by simp only [execOp, hop]; exact run_v (by simp [Instr.makeMap, newObj, Sem.run, run_underlying hu, hiv.int_inv, asInt, asIntOf]))
        · cases h
      · cases h
  case h_7 t m k ok hop =>
    obtain ⟨z, hz, h⟩ := Option.map_eq_some_iff.1 h
    cases h
    obtain ⟨u, h1, h2⟩ := lookX_sound hr (hρ m) (hρ k) hz
    exact good_pure hr (u := u) (by simp only [execOp, hop]; exact run_v h1) h2
  case h_8 t m k x hop =>
    obtain ⟨z, hz, h⟩ := Option.map_eq_some_iff.1 h
    cases h
    exact good_updX hr (hρ m) (hρ k) (hρ x) hz (by simp only [execOp, hop])
  case h_9 t m k hop => exact good_entX hr (hρ m) (hρ k) h (by simp only [execOp, hop])
  case h_10 t m s x hop =>
    obtain ⟨z, hz, h⟩ := Option.map_eq_some_iff.1 h
    cases h
    exact good_storeX (t := t) hr (hρ m) (hρ s) (hρ x) hz (by simp only [execOp, hop])
  case h_11 t m k x hop =>
    obtain ⟨z, hz, h⟩ := Option.map_eq_some_iff.1 h
    cases h
    exact good_updX hr (hρ m) (hρ k) (hρ x) hz (by simp only [execOp, hop])
  case h_12 c hop =>
    split at h
    · rename_i b hc
      have hargs := list_vl hρ c.args
      obtain ⟨cs, hexec⟩ : ∃ cs, (execOp ρ' o).run C.P w = (builtin b c.argTypes o.type cs (c.args.map ρ')).run C.P w :=
        ⟨_, by simp only [execOp, hop, resolve, hc, invoke, Sem.run_bind, Sem.run_pure, Result.andThen_ok]; rfl⟩
      rw [hexec]
      clear hexec
      generalize hxs : c.args.toList.map ρ = xs at h hargs
      generalize hvs : c.args.map ρ' = vs at hargs
      have hts : c.argTypes = c.argTypes.toList.toArray := by simp
      generalize hts' : c.argTypes.toList = ts at h hts
      rw [hts]
      unfold builtinX at h
      have one : ∀ {x : AVal}, VL w E [x] vs → ∃ u, vs = #[u] ∧ V w E x u := fun {x} hv => by
        have hsz := hv.1
        simp at hsz
        refine ⟨vs[0], ?_, hv.2 0 x _ rfl (Array.getElem?_eq_getElem _)⟩
        apply Array.ext
        · simpa using hsz
        · intro i h1 h2; simp at h2; subst h2; simp
      have two : ∀ {x y : AVal}, VL w E [x, y] vs → ∃ u z, vs = #[u, z] ∧ V w E x u ∧ V w E y z := fun {x y} hv => by
        have hsz := hv.1
        simp at hsz
        refine ⟨vs[0], vs[1], ?_, hv.2 0 x _ rfl (Array.getElem?_eq_getElem _), hv.2 1 y _ rfl (Array.getElem?_eq_getElem _)⟩
        apply Array.ext
        · simpa using hsz
        · intro i h1 h2
          simp at h2
          match i with
          | 0 => simp
          | 1 => simp
          | n + 2 => omega
      split at h
      · obtain ⟨z, hz, h⟩ := Option.map_eq_some_iff.1 h
        cases h
        obtain ⟨u, rfl, hu⟩ := one hargs
        obtain ⟨q, h1, h2⟩ := lenX_sound (ty := o.type) hr hu hz
        exact good_pure hr (u := q) (by simp only [builtin]; exact run_v h1) h2
      · obtain ⟨z, hz, h⟩ := Option.map_eq_some_iff.1 h
        cases h
        obtain ⟨u, rfl, hu⟩ := one hargs
        obtain ⟨q, h1, h2⟩ := capX_sound (ty := o.type) hr hu hz
        exact good_pure hr (u := q) (by simp only [builtin]; exact run_v h1) h2
      · obtain ⟨u, z, rfl, hu, hz⟩ := two hargs
        exact good_appendX (ty := o.type) hr hid hid2 hu hz h (by simp only [builtin])
      · obtain ⟨u, z, rfl, hu, hz⟩ := two hargs
        exact good_copyX (ty := o.type) hr hu hz h (by simp only [builtin])
      · obtain ⟨ws', hz', h⟩ := Option.map_eq_some_iff.1 h
        cases h
        obtain ⟨u, z, rfl, hu, hz⟩ := two hargs
        exact good_delX (ty := o.type) hr hu hz hz' (by simp only [builtin]; rfl)
      · obtain ⟨ws', hz', h⟩ := Option.map_eq_some_iff.1 h
        cases h
        obtain ⟨u, rfl, hu⟩ := one hargs
        exact good_clearX (ty := o.type) hr hu hz' (by simp only [builtin])
      · cases h
    · cases h
  case h_13 => cases h

end
end Go.Proofs.YtaajfbcopafkaaaGreatDoor.Ai
