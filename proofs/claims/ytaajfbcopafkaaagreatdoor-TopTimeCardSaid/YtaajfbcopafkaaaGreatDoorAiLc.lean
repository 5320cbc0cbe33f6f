/- Slicing, indexing, conversions, makeSlice. Slicing, conversions, indexing. Conversions, indexing. Every operation that is no call of a function does what `den` says. Own work of this seat. -/
import Derived.Test.YtaajfbcopafkaaaGreatDoorAiLb
import Derived.Laws.BytesString
import Derived.Lib.ConvBytes
import Derived.Laws.Runes
namespace Go.Proofs.YtaajfbcopafkaaaGreatDoor.Ai
open Go
set_option linter.unusedVariables false
set_option linter.unusedSimpArgs false

section
variable {C : Ctx} {E : Env} {sto : List Blk} {w : World} {id : Nat}

theorem good_make (hr : Rel C E sto w) (hid : ¬ E.al id) (hid2 : id ≤ sto.length) {t : TypeId} {l c : AVal} {lv cv : Value} (hl : V w E l lv) (hc : V w E c cv) {v : AVal} {ws : List (Nat × Blk)} (h : makeA C.P id t l c = some (v, ws)) {r : Result Next}
    (hrun : r = (do pure (Next.value (← Instr.makeSlice t lv cv)) : Sem Next).run C.P w) : OpGood C E sto w id r v ws := by
  unfold makeA at h
  split at h
  · rename_i e kl l kc c he
    split at h
    · rename_i h0
      split at h
      · rename_i hlc
        split at h
        · rename_i h63
          split at h
          · rename_i hsz
            split at h
            · rename_i hby
              obtain ⟨i, hi, hisz, hiby⟩ := szOf_pos hsz
              cases hzz : zeroT C.P e with
              | none => rw [hzz] at h; simp at h
              | some zs =>
                rw [hzz] at h
                simp only [Option.bind_some] at h
                split at h
                · rename_i hzl
                  split at h
                  · rename_i hcell
                    cases h
                    obtain ⟨i', z, hi', hz, rfl⟩ := zeroT_some hzz
                    rw [hi] at hi'; cases hi'
                    rw [hl.int_inv, hc.int_inv] at hrun
                    have hb2 : (i.bytes : Int) * c ≤ 281474976710656 := by
                      have h1 : ((c.toNat * byOf C.P e : Nat) : Int) ≤ 281474976710656 := by
                        have : maxRoom = 140737488355328 := rfl
                        omega
                      rw [Int.natCast_mul, Int.toNat_of_nonneg (by omega), Int.mul_comm] at h1
                      rw [hiby]; exact h1
                    have hrm := run_make (P := C.P) w t e i z (elemT_some he) hi hz kl kc l c h0 hlc hb2 h63
                    have hvl : VL w E (ofVal z).cells z.cells := VL.zero
                    have hflat := flat_made (len := c.toNat) hvl hzl hsz
                    have hcm : c.toNat ≤ maxLen := by simp only [maxLen]; omega
                    have hrl : (List.replicate l.toNat (ofVal z).cells).length = l.toNat := by simp
                    have hpv : ∀ (x : AVal), x ∈ (ofVal z).cells → cellish x = true ∧ noref x = true := fun x hx => by
                      have := List.all_eq_true.1 hcell x hx; simpa using this
                    have := good_buf hr (b := id) (t := e) (sz := szOf C.P e) (rows := List.replicate l.toNat (ofVal z).cells) (cap := some c.toNat) (c := c.toNat) (vals := madeCells z.cells (c.toNat * i.size)) (r := r) (id := id)
                      (w' := w.alloc (.cells (madeCells z.cells (c.toNat * i.size)) e)) hid2 (.inl ⟨hid, rfl⟩) hsz (by rw [size_madeCells, hisz]) (by simp; omega) hcm (fun k hk => by cases hk; rfl)
                      (fun r hr => by rw [List.eq_of_mem_replicate hr]; exact hzl) (fun r hr x hx => by rw [List.eq_of_mem_replicate hr] at hx; exact (hpv x hx).1)
                      (fun k r j x hk hj => by
                        have hk' := (List.getElem?_eq_some_iff.1 hk).1
                        simp only [List.length_replicate] at hk'
                        rw [List.getElem?_replicate, if_pos hk'] at hk
                        cases hk
                        have hj' : j < szOf C.P e := by rw [← hzl]; exact (List.getElem?_eq_some_iff.1 hj).1
                        have hlt : k * szOf C.P e + j < (madeCells z.cells (c.toNat * i.size)).size := by
                          rw [size_madeCells, hisz]
                          have := pair_lt (i := k) (j := j) (i' := k + 1) (j' := 0) (sz := szOf C.P e) (Nat.lt_succ_self _) hj'
                          have h2 : (k + 1) * szOf C.P e ≤ c.toNat * szOf C.P e := Nat.mul_le_mul_right _ (by omega)
                          omega
                        refine ⟨_, Array.getElem?_eq_getElem hlt, ?_⟩
                        refine (hflat.2.2 k (ofVal z).cells j x _ (by rw [List.getElem?_replicate, if_pos (by omega)]) hj ?_).pv (hpv x (List.mem_of_getElem? hj)).2
                        rw [← Array.getElem?_eq_getElem hlt, hisz]; rfl)
                      rfl rfl rfl rfl (by rw [hrun, hrl]; exact run_v hrm)
                    rw [hrl] at this
                    exact this
                  · cases h
                · cases h
            · cases h
          · cases h
        · cases h
      · cases h
    · cases h
  · cases h

/-! Bounds. -/
theorem asNat_some {x : AVal} {n : Nat} (h : asNat x = some n) : ∃ k m, x = .int k m ∧ 0 ≤ m ∧ n = m.toNat := by
  unfold asNat at h
  split at h
  · rename_i k m
    split at h
    · rename_i h0; cases h; exact ⟨k, m, rfl, h0, rfl⟩
    · cases h
  · cases h

theorem run_bound {x : AVal} {xv : Value} (hx : V w E x xv) {n y : Nat} {code : BoundsCode} (h : asNat x = some n) (hle : n ≤ y) : (Instr.sliceBound xv y code).run C.P w = .ok n w := by
  obtain ⟨k, m, rfl, h0, rfl⟩ := asNat_some h
  rw [hx.int_inv]
  have : 0 ≤ m ∧ m ≤ y := ⟨h0, by omega⟩
  simp [Instr.sliceBound, asIntOf, this]

/-- The bounds of `x[lo:hi]`. -/
theorem run_bounds2 {lo hi : Option AVal} {lov hiv : Option Value} (hlo : ∀ x, lo = some x → ∃ v, lov = some v ∧ V w E x v) (hlo0 : lo = none → lov = none) (hhi : ∀ x, hi = some x → ∃ v, hiv = some v ∧ V w E x v) (hhi0 : hi = none → hiv = none)
    {isSlice : Bool} {len cap l h : Nat} (h1 : optNat 0 lo = some l) (h2 : optNat len hi = some h) (hle : l ≤ h) (hc : h ≤ cap) (hlc : len ≤ cap) :
    (Instr.sliceBounds isSlice len cap lov hiv none).run C.P w = .ok (l, h, cap) w := by
  cases lo with
  | none =>
    rw [hlo0 rfl]
    simp only [optNat, Option.some.injEq] at h1; subst h1
    cases hi with
    | none =>
      rw [hhi0 rfl]
      simp only [optNat, Option.some.injEq] at h2; subst h2
      simp [Instr.sliceBounds]
    | some x =>
      obtain ⟨v, rfl, hv⟩ := hhi x rfl
      have hb : ∀ code, (Instr.sliceBound v cap code).run C.P w = .ok h w := fun code => run_bound hv h2 hc
      cases isSlice <;> simp [Instr.sliceBounds, hb]
  | some y =>
    obtain ⟨u, rfl, hu⟩ := hlo y rfl
    have hb2 : ∀ code, (Instr.sliceBound u h code).run C.P w = .ok l w := fun code => run_bound hu h1 hle
    cases hi with
    | none =>
      rw [hhi0 rfl]
      simp only [optNat, Option.some.injEq] at h2; subst h2
      simp [Instr.sliceBounds, hb2]
    | some x =>
      obtain ⟨v, rfl, hv⟩ := hhi x rfl
      have hb : ∀ code, (Instr.sliceBound v cap code).run C.P w = .ok h w := fun code => run_bound hv h2 hc
      cases isSlice <;> simp [Instr.sliceBounds, hb, hb2]

/-- The bounds of `x[lo:hi:mx]`. -/
theorem run_bounds3 {lo : Option AVal} {lov : Option Value} {hx mx : AVal} {hxv mxv : Value} (hlo : ∀ x, lo = some x → ∃ v, lov = some v ∧ V w E x v) (hlo0 : lo = none → lov = none) (hhi : V w E hx hxv) (hmx : V w E mx mxv)
    {isSlice : Bool} {len cap l h m : Nat} (h1 : optNat 0 lo = some l) (h2 : asNat hx = some h) (h3 : asNat mx = some m) (hle : l ≤ h) (hm : h ≤ m) (hc : m ≤ cap) :
    (Instr.sliceBounds isSlice len cap lov (some hxv) (some mxv)).run C.P w = .ok (l, h, m) w := by
  have hb1 : ∀ code, (Instr.sliceBound mxv cap code).run C.P w = .ok m w := fun code => run_bound hmx h3 hc
  have hb2 : ∀ code, (Instr.sliceBound hxv m code).run C.P w = .ok h w := fun code => run_bound hhi h2 hm
  cases lo with
  | none =>
    rw [hlo0 rfl]
    simp only [optNat, Option.some.injEq] at h1; subst h1
    cases isSlice <;> simp [Instr.sliceBounds, hb1, hb2]
  | some y =>
    obtain ⟨u, rfl, hu⟩ := hlo y rfl
    have hb3 : ∀ code, (Instr.sliceBound u h code).run C.P w = .ok l w := fun code => run_bound hu h1 hle
    cases isSlice <;> simp [Instr.sliceBounds, hb1, hb2, hb3]

/-- Rows that are cut. -/
theorem cut_pv {sz s : Nat} {rows : List (List AVal)} {cap : Option Nat} {A : Option Addr} {c l h m : Nat} {cap' : Option Nat} (hp : PV w E.ok (.slc sz rows cap) (.slice A rows.length c)) (hle : l ≤ h) (hh : h ≤ rows.length) (hhm : h ≤ m) (hm : m ≤ c)
    (hcap' : ∀ k, cap' = some k → m - l = k) (hss : sz = s ∨ rows.length = 0) : PV w E.ok (.slc sz ((rows.take h).drop l) cap') (.slice (if m = l then A else A.map (·.add (l * s))) (h - l) (m - l)) := by
  cases hp with
  | slc _ _ _ _ _ val hsz hcell hc hcap hnil hmx hr hv =>
    have hlen : ((rows.take h).drop l).length = h - l := by simp; omega
    rw [← hlen]
    have hget : ∀ (i : Nat) r, ((rows.take h).drop l)[i]? = some r → rows[l + i]? = some r := by
      intro i r hi
      rw [List.getElem?_drop, List.getElem?_take] at hi
      split at hi
      · exact hi
      · cases hi
    refine .slc sz _ cap' _ (m - l) (fun i j => val (l + i) j) (fun r hr' => ?_) (fun r hr' => ?_) (by rw [hlen]; omega) hcap' (fun hA => ?_) (by omega) (fun i r j x hi hj => ?_) (fun i r j x hi hj => hv _ r j x (hget i r hi) hj)
    · exact hsz r (List.mem_of_mem_take (List.mem_of_mem_drop hr'))
    · exact hcell r (List.mem_of_mem_take (List.mem_of_mem_drop hr'))
    · split at hA
      · omega
      · cases A with
        | none => have := hnil rfl; omega
        | some a => cases hA
    · obtain ⟨a, rfl, hok, hcl⟩ := hr _ r j x (hget i r hi) hj
      have hlt := (List.getElem?_eq_some_iff.1 hi).1
      rw [hlen] at hlt
      have hs' : sz = s := hss.resolve_right (by omega)
      subst hs'
      refine ⟨a.add (l * sz), by rw [if_neg (by omega)]; rfl, by rw [addr_add_block]; exact hok, ?_⟩
      rw [addr_add_add]
      rw [show l * sz + (i * sz + j) = (l + i) * sz + j by rw [Nat.add_mul]; omega]
      exact hcl

theorem cutRows_sound {P : Program} {sz s : Nat} {rows : List (List AVal)} {cap : Option Nat} {A : Option Addr} {c : Nat} {lo hi mx : Option AVal} {lov hiv mxv : Option Value} {v : AVal}
    (hlo : ∀ x, lo = some x → ∃ v, lov = some v ∧ V w E x v) (hlo0 : lo = none → lov = none) (hhi : ∀ x, hi = some x → ∃ v, hiv = some v ∧ V w E x v) (hhi0 : hi = none → hiv = none)
    (hmx : ∀ x, mx = some x → ∃ v, mxv = some v ∧ V w E x v) (hmx0 : mx = none → mxv = none)
    (hp : PV w E.ok (.slc sz rows cap) (.slice A rows.length c)) (h : cutRows sz rows cap lo hi mx = some v) (hss : sz = s ∨ rows.length = 0) (isSlice : Bool) :
    ∃ l h m, (Instr.sliceBounds isSlice rows.length c lov hiv mxv).run C.P w = .ok (l, h, m) w ∧ l ≤ m ∧ PV w E.ok v (.slice (if m = l then A else A.map (·.add (l * s))) (h - l) (m - l)) := by
  have hc : rows.length ≤ c ∧ ∀ k, cap = some k → c = k := by cases hp with | slc _ _ _ _ _ _ _ _ h1 h2 => exact ⟨h1, h2⟩
  unfold cutRows at h
  split at h
  · rename_i l h' hl hh
    split at h
    · rename_i hle
      split at h
      · split at h
        · rename_i hhl
          cases h
          rw [hmx0 rfl]
          refine ⟨l, h', c, run_bounds2 hlo hlo0 hhi hhi0 hl hh hle (by omega) hc.1, by omega, cut_pv hp hle hhl (by omega) (Nat.le_refl _) (fun k hk => ?_) hss⟩
          cases cap with
          | none => cases hk
          | some k0 => simp at hk; rw [hc.2 k0 rfl]; exact hk
        · cases h
      · rename_i mxx
        cases hi with
        | none => simp at h
        | some hxx =>
          cases hm : asNat mxx with
          | none => simp [hm] at h
          | some m =>
            simp only [hm] at h
            split at h
            · rename_i hhm
              split at h
              · rename_i hml
                cases h
                obtain ⟨mv, rfl, hmv⟩ := hmx mxx rfl
                obtain ⟨hv, rfl, hhv⟩ := hhi hxx rfl
                refine ⟨l, h', m, run_bounds3 hlo hlo0 hhv hmv hl (by simpa [optNat] using hh) hm hle hhm (by omega), by omega, cut_pv hp hle (by omega) hhm (by omega) (fun k hk => by cases hk; rfl) hss⟩
              · cases h
            · cases h
    · cases h
  · cases h

end
end Go.Proofs.YtaajfbcopafkaaaGreatDoor.Ai

namespace Go.Proofs.YtaajfbcopafkaaaGreatDoor.Ai
open Go
set_option linter.unusedVariables false
set_option linter.unusedSimpArgs false

section
variable {C : Ctx} {E : Env} {sto : List Blk} {w : World} {id : Nat}

/-- A buffer, looked at as a slice that is only read. -/
theorem buf_pv (hr : Rel C E sto w) {b : Nat} {t : TypeId} {sz : Nat} {rows : List (List AVal)} {cap : Option Nat} (hb : sto[b]? = some (.buf t sz rows cap)) :
    PV w (E.give sto [b]).ok (.slc sz rows cap) (.slice (E.hd b) rows.length (E.cap b)) := by
  have hlive : live sto b := live_iff.2 ⟨_, hb, rfl⟩
  cases hr.blk b _ hb with
  | buf _ _ _ _ vals hg hn hE hh hs hl hm hcap h0 hsz hcell hv =>
    rw [hh]
    refine .slc sz rows cap _ (E.cap b) (fun i j => vals.getD (i * sz + j) undef) hsz hcell hl (fun k hk => hcap k hk) (fun h => by cases h) hm (fun i r j x hi hj => ?_) (fun i r j x hi hj => ?_)
    · obtain ⟨v, hv1, hv2⟩ := hv i r j x hi hj
      refine ⟨_, rfl, .inr ⟨b, by simp, hlive, rfl⟩, ?_⟩
      rw [addr_plain]
      simp only [World.cell?, hg, Option.isSome_none, Bool.false_eq_true, if_false]
      simp [hv1]
    · obtain ⟨v, hv1, hv2⟩ := hv i r j x hi hj
      have : vals.getD (i * sz + j) undef = v := by simp [hv1]
      rw [this]
      exact hv2.mono (fun _ h => .inl h) (fun _ _ => rfl)

theorem nil_pv {ok : Nat → Prop} {sz : Nat} {A : Option Addr} : PV w ok (.slc sz [] (some 0)) (.slice A 0 0) :=
  .slc sz [] (some 0) A 0 (fun _ _ => undef) (by simp) (by simp) (by simp) (by simp) (fun _ => rfl) (by simp) (by simp) (by simp)

theorem wrs_gone {b : Nat} (hb : b < sto.length) : wrs sto [(b, .gone)] = gones sto [b] := by
  simp [wrs, wr1, hb, gones]

theorem good_gone (hr : Rel C E sto w) {b : Nat} (hb : b < sto.length) {r : Result Next} {v : AVal} {u : Value} (h : r = .ok (.value u) w) (hv : V w (E.give sto [b]) v u) : OpGood C E sto w id r v [(b, .gone)] := by
  obtain ⟨h1, h2⟩ := rel_give hr [b]
  refine ⟨_, u, w, _, h, rfl, ?_, ?_, hv, fun _ h => .inl h⟩
  · rw [wrs_gone hb]; exact h1
  · rw [wrs_gone hb]; exact h2

theorem chunks_length {sz : Nat} : ∀ (n : Nat) (cs : List AVal), (chunks sz n cs).length = n := by
  intro n; induction n with
  | zero => intro cs; rfl
  | succ n ih => intro cs; simp [chunks, ih]

theorem chunks_get {sz : Nat} : ∀ (n : Nat) (cs : List AVal) (i : Nat), i < n → (chunks sz n cs)[i]? = some ((cs.drop (i * sz)).take sz) := by
  intro n; induction n with
  | zero => intro cs i h; omega
  | succ n ih =>
    intro cs i h
    cases i with
    | zero => simp [chunks]
    | succ i =>
      simp only [chunks, List.getElem?_cons_succ]
      rw [ih _ i (by omega), List.drop_drop, Nat.add_mul, Nat.one_mul, Nat.add_comm sz]

theorem opt_val {ρ : Operand → AVal} {ρ' : Operand → Value} (hρ : ∀ x, V w E (ρ x) (ρ' x)) (o : Option Operand) : (∀ x, o.map ρ = some x → ∃ v, o.map ρ' = some v ∧ V w E x v) ∧ (o.map ρ = none → o.map ρ' = none) := by
  cases o with
  | none => exact ⟨fun x h => by (cases h), fun _ => rfl⟩
  | some y => exact ⟨fun x h => by (cases h; exact ⟨_, rfl, hρ y⟩), fun h => by cases h⟩

/-- An array that is read through memory that is only read, cut. -/
theorem rptr_cut {E : Env} {t e : TypeId} {n : Nat} {cs : List AVal} {xv : Value} {lo hi mx : Option AVal} {lov hiv mxv : Option Value}
    (hlo : (∀ x, lo = some x → ∃ v, lov = some v ∧ V w E x v) ∧ (lo = none → lov = none)) (hhi : (∀ x, hi = some x → ∃ v, hiv = some v ∧ V w E x v) ∧ (hi = none → hiv = none))
    (hmx : (∀ x, mx = some x → ∃ v, mxv = some v ∧ V w E x v) ∧ (mx = none → mxv = none)) {v' : AVal} (hp : PV w E.ok (.rptr cs) xv) (ha : arrT C.P t = some (n, e)) (hcn : cs.length = n * szOf C.P e) (h0 : 0 < szOf C.P e) (hn16 : n ≤ 16777216)
    (hc : cutRows (szOf C.P e) (chunks (szOf C.P e) n cs) (some n) lo hi mx = some v') : ∃ u, (Instr.sliceAt t xv lov hiv mxv).run C.P w = .ok u w ∧ PV w E.ok v' u := by
  obtain ⟨i, hi', hisz, _⟩ := szOf_pos h0
  have hu := arrT_some ha
  cases hp with
  | rptr _ a val hok hcell hrr hvv =>
    have hget : ∀ (k : Nat) (r : List AVal), (chunks (szOf C.P e) n cs)[k]? = some r → k < n ∧ r = (cs.drop (k * szOf C.P e)).take (szOf C.P e) := by
      intro k r hk
      have hlt := (List.getElem?_eq_some_iff.1 hk).1
      rw [chunks_length] at hlt
      rw [chunks_get n cs k hlt] at hk
      exact ⟨hlt, (Option.some.inj hk).symm⟩
    have hfull : ∀ k, k < n → (k + 1) * szOf C.P e ≤ cs.length := fun k hk => by rw [hcn]; exact Nat.mul_le_mul_right _ hk
    have hcell2 : ∀ (k : Nat) (r : List AVal) (j : Nat) (x : AVal), (chunks (szOf C.P e) n cs)[k]? = some r → r[j]? = some x → cs[k * szOf C.P e + j]? = some x := by
      intro k r j x hk hj
      obtain ⟨hlt, rfl⟩ := hget k r hk
      rw [List.getElem?_take] at hj
      split at hj
      · rw [List.getElem?_drop] at hj; exact hj
      · cases hj
    have hp : PV w E.ok (.slc (szOf C.P e) (chunks (szOf C.P e) n cs) (some n)) (.slice (some a) (chunks (szOf C.P e) n cs).length n) := by
      refine .slc _ _ _ _ n (fun k j => val (k * szOf C.P e + j)) (fun r hr' => ?_) (fun r hr' x hx' => ?_) (by rw [chunks_length]; exact Nat.le_refl _) (fun k hk => by cases hk; rfl) (fun h => by cases h) (by simp only [maxLen]; omega)
        (fun k r j x hk hj => ⟨a, rfl, hok, hrr _ x (hcell2 k r j x hk hj)⟩) (fun k r j x hk hj => hvv _ x (hcell2 k r j x hk hj))
      · obtain ⟨k, hk⟩ := List.mem_iff_getElem?.1 hr'
        obtain ⟨hlt, rfl⟩ := hget k r hk
        have := hfull k hlt
        rw [Nat.add_mul, Nat.one_mul] at this
        simp; omega
      · obtain ⟨k, hk⟩ := List.mem_iff_getElem?.1 hr'
        obtain ⟨hlt, rfl⟩ := hget k r hk
        exact hcell x (List.mem_of_mem_drop (List.mem_of_mem_take hx'))
    obtain ⟨l, h', m, hbd, hlm, hpv⟩ := cutRows_sound (P := C.P) (C := C) (s := i.size) hlo.1 hlo.2 hhi.1 hhi.2 hmx.1 hmx.2 hp hc (.inl hisz.symm) false
    rw [chunks_length] at hbd
    refine ⟨.slice (some (if m = l then a else a.add (l * i.size))) (h' - l) (m - l), ?_, ?_⟩
    · simp [Instr.sliceAt, run_underlying hu, Instr.sureAddr, hbd, run_sizeOf' hi']
    · have e1 : (some (if m = l then a else a.add (l * i.size)) : Option Addr) = (if m = l then some a else (some a).map (·.add (l * i.size))) := by split <;> rfl
      rw [e1]; exact hpv

theorem good_slice (hr : Rel C E sto w) {t : TypeId} {x : AVal} {xv : Value} (hx : V w E x xv) {lo hi mx : Option AVal} {lov hiv mxv : Option Value}
    (hlo : (∀ x, lo = some x → ∃ v, lov = some v ∧ V w E x v) ∧ (lo = none → lov = none)) (hhi : (∀ x, hi = some x → ∃ v, hiv = some v ∧ V w E x v) ∧ (hi = none → hiv = none))
    (hmx : (∀ x, mx = some x → ∃ v, mxv = some v ∧ V w E x v) ∧ (mx = none → mxv = none)) {v : AVal} {ws : List (Nat × Blk)} (h : sliceA C.P sto t x lo hi mx = some (v, ws)) {r : Result Next}
    (hrun : r = (do pure (Next.value (← Instr.sliceAt t xv lov hiv mxv)) : Sem Next).run C.P w) : OpGood C E sto w id r v ws := by
  unfold sliceA at h
  split at h
  · rename_i s
    split at h
    · rename_i ht
      have hu := strT_true ht
      split at h
      · split at h
        · rename_i l h' hl hh
          split at h
          · rename_i hle
            split at h
            · rename_i hhs
              cases h
              obtain ⟨sb, rfl, hsb⟩ := hx.str_inv
              have hsz : sb.size = s.length := by rw [← hsb, Array.length_toList]; rfl
              have hb := run_bounds2 (C := C) (isSlice := false) (cap := s.length) hlo.1 hlo.2 hhi.1 hhi.2 hl hh hle hhs (Nat.le_refl _)
              rw [← hsz] at hb
              refine good_pure hr (u := .string (sb.extract l h')) ?_ (V.str ?_)
              · rw [hrun, hmx.2 rfl]
                simp [Instr.sliceAt, Instr.slice, run_underlying hu, hb]
              · rw [← hsb]; simp [List.drop_take]
            · cases h
          · cases h
        · cases h
      · cases h
    · cases h
  · rename_i sz rows cap
    cases he : elemT C.P t with
    | none => rw [he] at h; simp at h
    | some e =>
      rw [he] at h
      simp only [Option.bind_some] at h
      split at h
      · cases h
      · rename_i hlay
        split at h
        · rename_i hsz
          cases hc : cutRows sz rows cap lo hi mx with
          | none => rw [hc] at h; cases h
          | some v' =>
            rw [hc] at h; cases h
            have hu := elemT_some he
            obtain ⟨q, hq⟩ : ∃ q, lay C.P e = some q := by
              cases hq : lay C.P e with
              | none => exact (hlay hq).elim
              | some q => exact ⟨q, rfl⟩
            obtain ⟨i, d, hi, hd, rfl⟩ := lay_some hq
            have hp := hx.slc_inv
            have hp' := hp
            cases hp with
            | slc _ _ _ A c val hsz' hcell hcc hcap hnil hm hrd hvv =>
              obtain ⟨l, h', m, hb, hlm, hpv⟩ := cutRows_sound (P := C.P) (C := C) (s := i.size) hlo.1 hlo.2 hhi.1 hhi.2 hmx.1 hmx.2 hp' hc (by rw [← szOf_info hi]; exact hsz) true
              refine good_pure hr (u := .slice (if m = l then A else A.map (·.add (l * i.size))) (h' - l) (m - l)) ?_ (.pure hpv)
              rw [hrun]
              simp [Instr.sliceAt, Instr.slice, run_underlying hu, hb, run_sizeOf' hi]
        · cases h
  · rename_i b n
    -- a buffer: it is given up
    have buf : ∀ (B : Blk) (sz : Nat) (rows : List (List AVal)) (cap : Option Nat) (e : TypeId), sto[b]? = some B → elemT C.P t = some e → sz = szOf C.P e → 0 < sz →
        PV w (E.give sto [b]).ok (.slc sz rows cap) (.slice (E.hd b) rows.length (E.cap b)) → xv = .slice (E.hd b) rows.length (E.cap b) → ∀ v', cutRows sz rows cap lo hi mx = some v' → OpGood C E sto w id r v' [(b, .gone)] := by
      intro B sz rows cap e hb he hsz h0 hp hxv v' hc
      obtain ⟨h1, h2⟩ := rel_give hr [b]
      have hblt : b < sto.length := (List.getElem?_eq_some_iff.1 hb).1
      obtain ⟨i, hi, hisz, _⟩ := szOf_pos (by rw [← hsz]; exact h0 : 0 < szOf C.P e)
      have tr : ∀ {o : Option AVal} {ov : Option Value}, (∀ x, o = some x → ∃ v, ov = some v ∧ V w E x v) → ∀ x, o = some x → ∃ v, ov = some v ∧ V w (E.give sto [b]) x v := fun h x hx => let ⟨v, h3, h4⟩ := h x hx; ⟨v, h3, h4.step hr h2⟩
      obtain ⟨l, h', m, hbd, hlm, hpv⟩ := cutRows_sound (P := C.P) (C := C) (s := i.size) (tr hlo.1) hlo.2 (tr hhi.1) hhi.2 (tr hmx.1) hmx.2 hp hc (.inl (by rw [hisz]; exact hsz)) true
      have hu := elemT_some he
      refine good_gone hr hblt (u := .slice (if m = l then E.hd b else (E.hd b).map (·.add (l * i.size))) (h' - l) (m - l)) ?_ (.pure hpv)
      rw [hrun, hxv]
      simp [Instr.sliceAt, Instr.slice, run_underlying hu, hbd, run_sizeOf' hi]
    split at h
    · rename_i t0 sz rows cap hb
      split at h
      · rename_i hn
        cases he : elemT C.P t with
        | none => rw [he] at h; simp at h
        | some e =>
          rw [he] at h
          simp only [Option.bind_some] at h
          split at h
          · rename_i hsz
            cases hc : cutRows sz rows cap lo hi mx with
            | none => rw [hc] at h; cases h
            | some v' =>
              rw [hc] at h; cases h
              obtain ⟨hal, hle, hv⟩ := hx.bsl_inv
              have hv := hv (by rw [hr.cur, curOf_curB hb]; simp [curB, hn])
              rw [← hn] at hv
              have h0 : 0 < sz := by cases hr.blk b _ hb with | buf _ _ _ _ _ _ _ _ _ _ _ _ _ h0 => exact h0
              exact buf _ sz rows cap e hb he hsz h0 (buf_pv hr hb) hv _ hc
          · cases h
      · cases h
    · rename_i t0 sz hb
      split at h
      · rename_i hn
        cases he : elemT C.P t with
        | none => rw [he] at h; simp at h
        | some e =>
          rw [he] at h
          simp only [Option.bind_some] at h
          split at h
          · rename_i hsz
            split at h
            · rename_i h0
              cases hc : cutRows sz [] (some 0) lo hi mx with
              | none => rw [hc] at h; cases h
              | some v' =>
                rw [hc] at h; cases h
                obtain ⟨hal, hle, hv⟩ := hx.bsl_inv
                have hv := hv (by rw [hr.cur, curOf_curB hb]; simp [curB, hn])
                have hcp : E.cap b = 0 := by cases hr.blk b _ hb with | nbuf _ _ hc _ => exact hc
                rw [hn] at hv
                exact buf _ sz [] (some 0) e hb he hsz h0 (by rw [hcp]; exact nil_pv) hv _ hc
            · cases h
          · cases h
      · cases h
    · cases h
  · rename_i cs
    split at h
    · rename_i n e ha
      split at h
      · rename_i hcn
        split at h
        · rename_i h0
          cases hc : cutRows (szOf C.P e) (chunks (szOf C.P e) n cs) (some n) lo hi mx with
          | none => rw [hc] at h; cases h
          | some v' =>
            rw [hc] at h; cases h
            obtain ⟨u, h1, h2⟩ := rptr_cut hlo hhi hmx hx.rptr_inv ha hcn h0.1 h0.2 hc
            exact good_pure hr (u := u) (by rw [hrun]; exact run_v h1) (.pure h2)
        · cases h
      · cases h
    · cases h
  · rename_i b off
    split at h
    · rename_i ty cs hb
      split at h
      · rename_i hall
        split at h
        · rename_i n e ha
          split at h
          · rename_i hcn
            split at h
            · rename_i h0
              cases hc : cutRows (szOf C.P e) (chunks (szOf C.P e) n (cs.drop off)) (some n) lo hi mx with
              | none => rw [hc] at h; cases h
              | some v' =>
                rw [hc] at h; cases h
                obtain ⟨rfl, hal, hcur⟩ := hx.ptr_inv
                have hlive : live sto b := live_iff.2 ⟨_, hb, rfl⟩
                cases hr.blk b _ hb with
                | cells _ _ vals hg hn' hs hvv =>
                  have hin : ∀ (j : Nat) x, (cs.drop off)[j]? = some x → ∃ v, vals[off + j]? = some v ∧ PV w (E.give sto [b]).ok x v := by
                    intro j x hj
                    rw [List.getElem?_drop] at hj
                    have hlt : off + j < vals.size := by rw [hs]; exact (List.getElem?_eq_some_iff.1 hj).1
                    have hq := List.all_eq_true.1 hall x (List.mem_of_getElem? hj)
                    simp only [Bool.and_eq_true] at hq
                    exact ⟨vals[off + j], Array.getElem?_eq_getElem hlt, ((hvv _ x _ hj (Array.getElem?_eq_getElem hlt)).pv hq.2).mono (fun _ h => .inl h) (fun _ _ => rfl)⟩
                  have hp : PV w (E.give sto [b]).ok (.rptr (cs.drop off)) (.pointer (some ⟨E.ι b, off, none⟩)) := by
                    refine .rptr _ ⟨E.ι b, off, none⟩ (fun j => vals.getD (off + j) undef) (.inr ⟨b, List.mem_singleton.2 rfl, hlive, rfl⟩) (fun x hx' => ?_) (fun j x hj => ?_) (fun j x hj => ?_)
                    · have := List.all_eq_true.1 hall x (List.mem_of_mem_drop hx')
                      simp only [Bool.and_eq_true] at this
                      exact this.1
                    · obtain ⟨v, h1, h2⟩ := hin j x hj
                      rw [addr_plain]
                      simp only [World.cell?, hg, Option.isSome_none, Bool.false_eq_true, if_false]
                      simp [h1]
                    · obtain ⟨v, h1, h2⟩ := hin j x hj
                      have : vals.getD (off + j) undef = v := by simp [h1]
                      rw [this]; exact h2
                  obtain ⟨g1, g2⟩ := rel_give hr [b]
                  obtain ⟨u, h1, h2⟩ := rptr_cut (E := E.give sto [b]) ⟨fun x hx => let ⟨v, k1, k2⟩ := hlo.1 x hx; ⟨v, k1, k2.step hr g2⟩, hlo.2⟩ ⟨fun x hx => let ⟨v, k1, k2⟩ := hhi.1 x hx; ⟨v, k1, k2.step hr g2⟩, hhi.2⟩ ⟨fun x hx => let ⟨v, k1, k2⟩ := hmx.1 x hx; ⟨v, k1, k2.step hr g2⟩, hmx.2⟩ hp ha hcn h0.1 h0.2 hc
                  exact good_gone hr (List.getElem?_eq_some_iff.1 hb).1 (u := u) (by rw [hrun]; exact run_v h1) (.pure h2)
            · cases h
          · cases h
        · cases h
      · cases h
    · cases h
  · cases h

end
end Go.Proofs.YtaajfbcopafkaaaGreatDoor.Ai

namespace Go.Proofs.YtaajfbcopafkaaaGreatDoor.Ai
open Go
set_option linter.unusedVariables false
set_option linter.unusedSimpArgs false

section
variable {C : Ctx} {E : Env} {sto : List Blk} {w : World} {id : Nat}

theorem bytesOfRows_spec : ∀ (rows : List (List AVal)) (l : List UInt8), bytesOfRows rows = some l → ∃ ns : List Int, rows = ns.map (fun n => [AVal.int .u8 n]) ∧ l = ns.map fun n => UInt8.ofNat n.toNat := by
  intro rows
  induction rows with
  | nil => intro l h; simp [bytesOfRows] at h; subst h; exact ⟨[], rfl, rfl⟩
  | cons r rows ih =>
    intro l h
    unfold bytesOfRows at h
    split at h
    · rename_i h1; cases h1
    · rename_i n rest h1
      cases h1
      cases hb : bytesOfRows rows with
      | none => rw [hb] at h; cases h
      | some l' =>
        rw [hb] at h; cases h
        obtain ⟨ns, h1, h2⟩ := ih l' hb
        exact ⟨n :: ns, by simp [h1], by simp [h2]⟩
    · cases h

theorem runesOfRows_spec : ∀ (rows : List (List AVal)) (l : List Int), runesOfRows rows = some l → rows = l.map (fun n => [AVal.int .i32 n]) := by
  intro rows
  induction rows with
  | nil => intro l h; simp [runesOfRows] at h; subst h; rfl
  | cons r rows ih =>
    intro l h
    unfold runesOfRows at h
    split at h
    · rename_i h1; cases h1
    · rename_i n rest h1
      cases h1
      cases hb : runesOfRows rows with
      | none => rw [hb] at h; cases h
      | some l' => rw [hb] at h; cases h; simp [← ih l' hb]
    · cases h

theorem rowsOf_src (hr : Rel C E sto w) {x : AVal} {xv : Value} (hx : V w E x xv) {sx : Nat} {rows : List (List AVal)} (h : rowsOf sto x = some (sx, rows)) (hs : sx = 1 ∨ rows.length = 0) {tx e : TypeId} (he : elemT C.P tx = some e) : ∃ news, Src C E w 1 xv rows news := by
  have hn : newRows C.P sto tx x = some (sx, rows) := by
    unfold newRows
    split
    · simp [rowsOf] at h
    · rw [he]; simpa using h
  exact (src_sound hr hx hn (Nat.lt_succ_self 0) hs).1

/-- A source of cells is a slice: nil, or at an address. -/
theorem Src.slice {x : Value} {rows : List (List AVal)} {news : List Value} (h : Src C E w 1 x rows news) (hx : ∃ A n c, x = .slice A n c) : ∃ A c, x = .slice A rows.length c ∧ (A = none → rows.length = 0) ∧ ∀ a, A = some a → (loadCells a rows.length).run C.P w = .ok news.toArray w := by
  obtain ⟨A, n, c, rfl⟩ := hx
  have h1 := h.len w
  simp [Builtin.lenOf] at h1
  subst h1
  refine ⟨A, c, rfl, fun hA => ?_, fun a hA => ?_⟩
  · subst hA
    have := h.run w rfl
    simp [Builtin.firstCells] at this
    have h2 := h.n
    rw [this] at h2; simpa using h2.symm
  · subst hA
    have := h.run w rfl
    simpa [Builtin.firstCells] using this

theorem run_forIn_runes {P : Program} {w : World} (f : Value → ByteArray → Sem (ForInStep ByteArray))
    (hf : ∀ (n : Int) (r : ByteArray), (f (.int .i32 n) r).run P w = .ok (.yield (r ++ Utf8.encode n)) w) :
    ∀ (ns : List Int) (s : ByteArray), (forIn (ns.map (Value.int .i32)) s f).run P w = .ok (ns.foldl (fun r n => r ++ Utf8.encode n) s) w := by
  intro ns
  induction ns with
  | nil => intro s; simp [Sem.run_pure]
  | cons n ns ih =>
    intro s
    simp only [List.map_cons, List.forIn_cons, Sem.run_bind, hf, Result.andThen, List.foldl_cons]
    exact ih _

theorem run_runesToString {P : Program} (w : World) (a : Addr) (len cap : Nat) (ns : List Int) (h : (loadCells a len).run P w = .ok (ns.map (Value.int .i32)).toArray w) :
    (Conv.runesToString (.slice (some a) len cap)).run P w = .ok (.string (ns.foldl (fun r n => r ++ Utf8.encode n) ByteArray.empty)) w := by
  unfold Conv.runesToString
  simp only [Sem.run_bind, h, Result.andThen, List.forIn_toArray]
  rw [run_forIn_runes _ (by intro n r; simp [Sem.run_pure])]
  simp [Sem.run_pure]

theorem fold_bytes (ns : List Int) (s : ByteArray) : (ns.foldl (fun r n => r.push (UInt8.ofNat n.toNat)) s).data.toList = s.data.toList ++ ns.map fun n => UInt8.ofNat n.toNat := by
  induction ns generalizing s with
  | nil => simp
  | cons n ns ih => simp [List.foldl_cons, ih]

theorem fold_runes (ns : List Int) (s : ByteArray) : (ns.foldl (fun r n => r ++ Utf8.encode n) s).data.toList = s.data.toList ++ (ns.map encRune).flatten := by
  induction ns generalizing s with
  | nil => simp
  | cons n ns ih => simp [List.foldl_cons, ih, encRune]

theorem news_ints {rows : List (List AVal)} {xv : Value} {news : List Value} {k : IntKind} {ns : List Int} (h : Src C E w 1 xv rows news) (hr : rows = ns.map fun n => [AVal.int k n]) : news = ns.map (Value.int k) := by
  apply List.ext_getElem?
  intro i
  have hlen : news.length = ns.length := by rw [h.n, hr]; simp
  by_cases hi : i < ns.length
  · obtain ⟨v, hv1, hv2⟩ := h.val i [AVal.int k ns[i]] 0 (AVal.int k ns[i]) (by rw [hr, List.getElem?_map, List.getElem?_eq_getElem hi]; rfl) rfl
    rw [Nat.mul_one, Nat.add_zero] at hv1
    rw [hv1]
    cases hv2
    rw [List.getElem?_map, List.getElem?_eq_getElem hi]; rfl
  · rw [List.getElem?_eq_none (by omega), List.getElem?_eq_none (by simp; omega)]

theorem runesFrom_eq (s : ByteArray) : ∀ (bound i : Nat) (acc : Array Value), (Conv.runesFrom s bound i acc).toList = acc.toList ++ (runesL s.data.toList bound i).map (Value.int .i32) := by
  intro bound
  induction bound with
  | zero => intro i acc; simp [Conv.runesFrom, runesL]
  | succ b ih =>
    intro i acc
    have hsz : s.size = s.data.toList.length := by rw [Array.length_toList]; rfl
    unfold Conv.runesFrom runesL
    by_cases h : i < s.size
    · rw [if_pos h, if_pos (by rw [← hsz]; exact h)]
      simp only [decodeL, Array.toArray_toList]
      rw [ih]; simp
    · rw [if_neg h, if_neg (by rw [← hsz]; exact h)]; simp

theorem runesL_length (s : List UInt8) : ∀ (bound i : Nat), (runesL s bound i).length ≤ bound := by
  intro bound
  induction bound with
  | zero => intro i; simp [runesL]
  | succ b ih =>
    intro i
    unfold runesL
    split
    · simp only [List.length_cons]; have := ih (i + (decodeL s i).2); omega
    · simp

theorem good_conv (hr : Rel C E sto w) {src dst : TypeId} {x : AVal} {xv : Value} (hx : V w E x xv) {own : Bool} {v : AVal} (h : convA C.P sto own src dst x = some v) {r : Result Next}
    (hrun : r = (do pure (Next.value (← convert src dst xv)) : Sem Next).run C.P w) : OpGood C E sto w id r v [] := by
  unfold convA at h
  split at h
  · rename_i hok
    obtain ⟨S, hS⟩ := Option.isSome_iff_exists.1 hok
    split at h
    · rename_i k n
      rw [hx.int_inv] at hrun
      split at h
      · rename_i k' hk
        cases h
        exact good_pure hr (u := .int k' (k'.wrap n)) (by rw [hrun]; simp [convert, run_underlying hS, run_underlying (intT_some hk), Conv.intToInt]) V.int
      · split at h
        · rename_i ht
          cases h
          exact good_pure hr (u := .string (Utf8.encode n)) (by rw [hrun]; simp [convert, run_underlying hS, run_underlying (strT_true ht), Conv.intToString]) (V.str rfl)
        · cases h
    · rename_i s
      obtain ⟨sb, rfl, hsb⟩ := hx.str_inv
      split at h
      · rename_i ht
        cases h
        exact good_pure hr (u := .string sb) (by rw [hrun]; simp [convert, run_underlying hS, run_underlying (strT_true ht)]) hx
      · split at h
        · rename_i e he
          split at h
          · cases h
          · split at h
            · rename_i hlen
              have hsz : sb.size = s.length := by rw [← hsb, Array.length_toList]; rfl
              split at h
              · rename_i hk
                cases h
                have hrc := Lib.run_convert_string_bytes (P := C.P) w src dst e sb hS (elemT_some he) (intT_some hk)
                have hmx : sb.size ≤ maxLen := by simp only [maxLen]; omega
                have hge := grownCap_ge w sb.size 0 e
                refine good_slc' hr (w' := Lib.bytesWorld w e sb) (c := grownCap w sb.size 0 e) (vals := Lib.bytesCells w e sb) (by simp; omega) (grownCap_le_maxLen w sb.size 0 e hmx) (fun k hk => by cases hk) ?_ ?_ ?_ rfl rfl rfl
                  (by rw [Lib.bytesWorld_size]; omega) (fun k hk => Lib.bytesWorld_at_old w e sb k hk) (Lib.bytesWorld_at_new w e sb) (by rw [hrun, List.length_map, ← hsz]; exact run_v hrc)
                · intro r hr'; obtain ⟨b, _, rfl⟩ := List.mem_map.1 hr'; rfl
                · intro r hr' y hy; obtain ⟨b, _, rfl⟩ := List.mem_map.1 hr'; simp [bytesRow] at hy; rw [hy]; rfl
                · intro i r j y hi hj
                  rw [List.getElem?_map] at hi
                  cases hb : s[i]? with
                  | none => rw [hb] at hi; cases hi
                  | some b =>
                    rw [hb] at hi; simp [bytesRow] at hi; subst hi
                    cases j with
                    | zero =>
                      simp at hj; subst hj
                      refine ⟨.int .u8 b.toNat, ?_, .int _ _⟩
                      have hlt := (List.getElem?_eq_some_iff.1 hb).1
                      rw [← hsb, Array.getElem?_toList] at hb
                      rw [Nat.mul_one, Nat.add_zero, Lib.bytesCells, Array.getElem?_append, if_pos (by rw [Array.size_map]; exact (Array.getElem?_eq_some_iff.1 hb).1), Array.getElem?_map, hb]; rfl
                    | succ j => simp at hj
              · rename_i hk
                cases h
                have hel := runesFrom_eq sb sb.size 0 #[]
                have hsize : (Conv.runesFrom sb sb.size 0 #[]).size = (runesL s s.length 0).length := by
                  rw [← Array.length_toList, hel, hsb, hsz]; simp
                have hle := runesL_length s s.length 0
                have hmx : (Conv.runesFrom sb sb.size 0 #[]).size ≤ maxLen := by simp only [maxLen]; omega
                have hge := grownCap_ge w (Conv.runesFrom sb sb.size 0 #[]).size 0 e
                have hrc : (convert src dst (.string sb)).run C.P w = .ok (.slice (some ⟨w.heap.size, 0, none⟩) (Conv.runesFrom sb sb.size 0 #[]).size (grownCap w (Conv.runesFrom sb sb.size 0 #[]).size 0 e))
                    (w.drew.alloc (.cells (Conv.runesFrom sb sb.size 0 #[] ++ Array.replicate (grownCap w (Conv.runesFrom sb sb.size 0 #[]).size 0 e - (Conv.runesFrom sb sb.size 0 #[]).size) (.int .i32 0)) e)) := by
                  simp [convert, run_underlying hS, run_underlying (elemT_some he), run_underlying (intT_some hk), Conv.stringToRunes, newRow, Question.forced, grownCap]
                refine good_slc' hr (w' := w.drew.alloc (.cells (Conv.runesFrom sb sb.size 0 #[] ++ Array.replicate (grownCap w (Conv.runesFrom sb sb.size 0 #[]).size 0 e - (Conv.runesFrom sb sb.size 0 #[]).size) (.int .i32 0)) e))
                  (c := grownCap w (Conv.runesFrom sb sb.size 0 #[]).size 0 e) (vals := Conv.runesFrom sb sb.size 0 #[] ++ Array.replicate (grownCap w (Conv.runesFrom sb sb.size 0 #[]).size 0 e - (Conv.runesFrom sb sb.size 0 #[]).size) (.int .i32 0))
                  (by rw [List.length_map]; omega) (grownCap_le_maxLen w _ 0 e hmx) (fun k hk => by cases hk) ?_ ?_ ?_ rfl rfl rfl (by show w.heap.size < (w.heap.push _).size; simp) (fun k hk => push_old hk) push_new
                  (by rw [hrun, List.length_map, ← hsize]; exact run_v hrc)
                · intro r hr'; obtain ⟨b, _, rfl⟩ := List.mem_map.1 hr'; rfl
                · intro r hr' y hy; obtain ⟨b, _, rfl⟩ := List.mem_map.1 hr'; simp [runeRow] at hy; rw [hy]; rfl
                · intro i r j y hi hj
                  rw [List.getElem?_map] at hi
                  cases hb : (runesL s s.length 0)[i]? with
                  | none => rw [hb] at hi; cases hi
                  | some b =>
                    rw [hb] at hi; simp [runeRow] at hi; subst hi
                    cases j with
                    | zero =>
                      simp at hj; subst hj
                      refine ⟨.int .i32 b, ?_, .int _ _⟩
                      have hlt := (List.getElem?_eq_some_iff.1 hb).1
                      rw [Nat.mul_one, Nat.add_zero, Array.getElem?_append, if_pos (by omega), ← Array.getElem?_toList, hel]
                      simp only [List.nil_append, hsb, hsz]
                      rw [List.getElem?_map, hb]; rfl
                    | succ j => simp at hj
              · cases h
            · cases h
        · cases h
    · rename_i hni hns
      split at h
      · rename_i ht
        split at h
        · rename_i e sz rows he hro
          split at h
          · rename_i hs
            obtain ⟨news, hsrc⟩ := rowsOf_src hr hx hro hs he
            have hsl : ∃ A n c, xv = .slice A n c := by
              unfold rowsOf at hro
              split at hro
              · have hp := hx.slc_inv
                cases hp with | slc _ _ _ A c => exact ⟨A, _, c, rfl⟩
              · rename_i b n
                obtain ⟨_, _, hv⟩ := hx.bsl_inv
                split at hro
                · rename_i hb
                  split at hro
                  · rename_i hn; exact ⟨_, _, _, hv (by rw [hr.cur, curOf_curB hb]; simp [curB, hn])⟩
                  · cases hro
                · rename_i hb
                  split at hro
                  · rename_i hn; exact ⟨_, _, _, hv (by rw [hr.cur, curOf_curB hb]; simp [curB, hn])⟩
                  · cases hro
                · cases hro
              · cases hro
            obtain ⟨A, c, rfl, hA0, hAs⟩ := hsrc.slice hsl
            split at h
            · rename_i hk
              cases hb : bytesOfRows rows with
              | none => rw [hb] at h; cases h
              | some l =>
                rw [hb] at h; cases h
                obtain ⟨ns, h1, h2⟩ := bytesOfRows_spec rows l hb
                have hnews := news_ints hsrc h1
                have hconv := run_convert_bytes_string (P := C.P) w src dst e A rows.length c (elemT_some he) (intT_some hk) (strT_true ht)
                cases A with
                | none =>
                  have h3 := hA0 rfl
                  have : l = [] := by rw [h2]; have : ns = [] := List.eq_nil_of_length_eq_zero (by rw [h1] at h3; simpa using h3); rw [this]; rfl
                  subst this
                  exact good_pure hr (u := .string .empty) (by rw [hrun]; exact run_v (hconv.trans (by simp [Conv.bytesToString]))) (V.str rfl)
                | some a =>
                  have h4 := hAs a rfl
                  rw [hnews] at h4
                  refine good_pure hr (u := .string (ns.foldl (fun r n => r.push (UInt8.ofNat n.toNat)) ByteArray.empty)) (by rw [hrun]; exact run_v (hconv.trans (run_bytesToString w a _ c ns h4))) (V.str ?_)
                  rw [fold_bytes, h2]; rfl
            · rename_i hk
              cases hb : runesOfRows rows with
              | none => rw [hb] at h; cases h
              | some l =>
                rw [hb] at h; cases h
                have h1 := runesOfRows_spec rows l hb
                have hnews := news_ints hsrc h1
                have hconv : (convert src dst (.slice A rows.length c)).run C.P w = (Conv.runesToString (.slice A rows.length c)).run C.P w := by
                  simp [convert, run_underlying (elemT_some he), run_underlying (strT_true ht), run_underlying (intT_some hk)]
                cases A with
                | none =>
                  have h3 := hA0 rfl
                  have : l = [] := List.eq_nil_of_length_eq_zero (by rw [h1] at h3; simpa using h3)
                  subst this
                  exact good_pure hr (u := .string .empty) (by rw [hrun]; exact run_v (hconv.trans (by simp [Conv.runesToString]))) (V.str rfl)
                | some a =>
                  have h4 := hAs a rfl
                  rw [hnews] at h4
                  refine good_pure hr (u := .string (l.foldl (fun r n => r ++ Utf8.encode n) ByteArray.empty)) (by rw [hrun]; exact run_v (hconv.trans (run_runesToString w a _ c l h4))) (V.str ?_)
                  rw [fold_runes]; rfl
            · cases h
          · cases h
        · cases h
      · cases h
  · cases h

/-! Addresses. -/
theorem ptrAdd_sound (hr : Rel C E sto w) {x v : AVal} {xv : Value} {off : Nat} (hx : V w E x xv) (h : ptrAdd sto x off = some v) : ∃ a, xv = .pointer (some a) ∧ V w E v (.pointer (some (a.add off))) := by
  unfold ptrAdd at h
  split at h
  · rename_i b o
    cases h
    obtain ⟨rfl, hal, hc⟩ := hx.ptr_inv
    exact ⟨_, rfl, by rw [addr_plain]; exact .ptr b _ hal hc⟩
  · rename_i b n i j
    split at h
    · rename_i hc
      cases h
      obtain ⟨hal, hle, hv⟩ := hx.eptr_inv
      have hv := hv (by rw [hr.cur]; exact hc)
      subst hv
      refine ⟨_, rfl, .eptr b n i _ _ hal hle (fun _ => ?_)⟩
      rw [addr_plain, Nat.add_assoc]
    · cases h
  · rename_i cs
    cases h
    have hp := hx.rptr_inv
    cases hp with
    | rptr _ a val hok hcell hr hv =>
      refine ⟨a, rfl, .pure (.rptr _ _ (fun j => val (off + j)) (by rw [addr_add_block]; exact hok) (fun x hx' => hcell x (List.mem_of_mem_drop hx')) (fun j x hj => ?_) (fun j x hj => ?_))⟩
      · rw [List.getElem?_drop] at hj
        rw [addr_add_add]; exact hr _ x hj
      · rw [List.getElem?_drop] at hj
        exact hv _ x hj
  · cases h

theorem idx_sound (hr : Rel C E sto w) {t : TypeId} {x v : AVal} {xv : Value} {k : IntKind} {n : Int} (hx : V w E x xv) (h : idxA C.P sto t x n = some v) : ∃ u, (Instr.indexAt t xv (.int k n)).run C.P w = .ok u w ∧ V w E v u := by
  unfold idxA at h
  split at h
  · rename_i h0
    split at h
    · rename_i sz rows cap
      cases he : elemT C.P t with
      | none => rw [he] at h; simp at h
      | some e =>
        rw [he] at h
        simp only [Option.bind_some] at h
        split at h
        · rename_i hsz
          split at h
          · rename_i hpos
            split at h
            · rename_i r hri
              cases h
              have hu := elemT_some he
              obtain ⟨i, hi, hisz, _⟩ := szOf_pos (by rw [← hsz]; exact hpos : 0 < szOf C.P e)
              have hp := hx.slc_inv
              cases hp with
              | slc _ _ _ A c val hsz' hcell hc hcap hnil hm hrd hvv =>
                have hlt := (List.getElem?_eq_some_iff.1 hri).1
                have hrl := hsz' r (List.mem_of_getElem? hri)
                have hj : r[0]? = some (r[0]'(by omega)) := List.getElem?_eq_getElem _
                obtain ⟨a, rfl, hok, _⟩ := hrd _ r 0 _ hri hj
                have hcond : 0 ≤ n ∧ n < rows.length := ⟨h0, by omega⟩
                refine ⟨.pointer (some (a.add (n.toNat * i.size))), by simp [Instr.indexAt, asIntOf, run_underlying hu, hcond, run_sizeOf' hi], .pure (.rptr _ _ (fun j => val n.toNat j) (by rw [addr_add_block]; exact hok) (hcell r (List.mem_of_getElem? hri)) (fun j y hj => ?_) (fun j y hj => hvv _ r j y hri hj))⟩
                obtain ⟨a', ha', _, hcl⟩ := hrd _ r j y hri hj
                cases ha'
                rw [addr_add_add, hisz, ← hsz]; exact hcl
            · cases h
          · cases h
        · cases h
    · rename_i b m
      cases he : elemT C.P t with
      | none => rw [he] at h; simp at h
      | some e =>
        rw [he] at h
        simp only [Option.bind_some] at h
        split at h
        · rename_i t0 sz rows cap hb
          split at h
          · rename_i hm
            split at h
            · rename_i hsz
              split at h
              · rename_i hlt
                cases h
                have hu := elemT_some he
                obtain ⟨hal, hle, hv⟩ := hx.bsl_inv
                have hc : E.cur b = some m := by rw [hr.cur, curOf_curB hb]; simp [curB, hm]
                have hv := hv hc
                cases hr.blk b _ hb with
                | buf _ _ _ _ vals hg hn hE hh hs hl hmx hcap h00 hrsz hcell hval =>
                  obtain ⟨i, hi, hisz, _⟩ := szOf_pos (by rw [← hsz]; exact h00 : 0 < szOf C.P e)
                  rw [hh] at hv
                  subst hv
                  have hcond : 0 ≤ n ∧ n < m := ⟨h0, by omega⟩
                  refine ⟨_, by simp [Instr.indexAt, asIntOf, run_underlying hu, hcond, run_sizeOf' hi] <;> rfl, .eptr b m _ 0 _ hal hle (fun _ => ?_)⟩
                  rw [addr_plain, hE, hisz, ← hsz]; simp
              · cases h
            · cases h
          · cases h
        · cases h
    · rename_i x' hx1 hx2
      split at h
      · rename_i m e ha
        split at h
        · rename_i hlt
          cases hq : lay C.P e with
          | none => rw [hq] at h; simp at h
          | some q =>
            rw [hq] at h
            simp only [Option.bind_some] at h
            obtain ⟨i, d, hi, hd, rfl⟩ := lay_some hq
            have hu := arrT_some ha
            obtain ⟨a, rfl, hv⟩ := ptrAdd_sound hr hx h
            have hcond : 0 ≤ n ∧ n < m := ⟨h0, by omega⟩
            exact ⟨_, by simp [Instr.indexAt, asIntOf, run_underlying hu, Instr.sureAddr, hcond, run_sizeOf' hi] <;> rfl, hv⟩
        · cases h
      · cases h
  · cases h

theorem index_sound {t : TypeId} {x v : AVal} {xv : Value} {k : IntKind} {n : Int} (hx : V w E x xv) (h : indexA C.P t x n = some v) : ∃ u, (Instr.index t xv (.int k n)).run C.P w = .ok u w ∧ V w E v u := by
  unfold indexA at h
  split at h
  · rename_i h0
    split at h
    · rename_i s
      split at h
      · rename_i ht
        split at h
        · rename_i b hb
          cases h
          obtain ⟨sb, rfl, hsb⟩ := hx.str_inv
          have hsz : sb.size = s.length := by rw [← hsb, Array.length_toList]; rfl
          have hlt := (List.getElem?_eq_some_iff.1 hb).1
          have hg : sb[n.toNat]? = some b := by
            rw [← hsb, Array.getElem?_toList] at hb
            have hlt2 : n.toNat < sb.size := by omega
            rw [getElem?_pos sb n.toNat hlt2]
            have hlt3 : n.toNat < sb.data.size := hlt2
            rw [Array.getElem?_eq_getElem hlt3] at hb
            exact hb
          exact ⟨.int .u8 b.toNat, by simp [Instr.index, asIntOf, run_underlying (strT_true ht), h0, hg], V.int⟩
        · cases h
      · cases h
    · rename_i cs
      split at h
      · rename_i m e ha
        split at h
        · rename_i hlt
          cases hq : lay C.P e with
          | none => rw [hq] at h; simp at h
          | some q =>
            rw [hq] at h
            simp only [Option.bind_some] at h
            cases ht : takeN (if q.1 = true then q.2 else 1) (cs.drop (n.toNat * q.2)) with
            | none => rw [ht] at h; simp at h
            | some ds =>
              rw [ht] at h
              simp only [Option.bind_some] at h
              obtain ⟨vs, rfl, hvl⟩ := hx.agg_inv
              obtain ⟨u, hu, hv⟩ := part_sound (C := C) hq hvl ht h
              obtain ⟨i, d, hi, hd, rfl⟩ := lay_some hq
              have hcond : 0 ≤ n ∧ n < m := ⟨h0, by omega⟩
              refine ⟨u, ?_, hv⟩
              simp [Instr.index, asIntOf, run_underlying (arrT_some ha), hcond, run_sizeOf' hi, hu]
        · cases h
      · cases h
    · cases h
  · cases h


/-- A buffer is given up, and its block is marked. -/
theorem rel_mark (hr : Rel C E sto w) {b : Nat} {t : TypeId} {sz : Nat} {rows : List (List AVal)} {cap : Option Nat} (hb : sto[b]? = some (.buf t sz rows cap)) {w' : World} (hos : w'.os = w.os) (htape : w'.tape = w.tape) (hout : w'.output = w.output)
    (hsize : w'.heap.size = w.heap.size) (hother : ∀ k, k ≠ E.ι b → w'.heap[k]? = w.heap[k]?) (hblk : ∀ vals, w.heap[E.ι b]? = some (.cells vals t (0, 0)) → ∃ fr, w'.heap[E.ι b]? = some (.cells vals t fr)) :
    Rel C (E.give sto [b]) (gones sto [b]) w' ∧ Step E sto w (E.give sto [b]) (gones sto [b]) w' ∧ PV w' (E.give sto [b]).ok (.slc sz rows cap) (.slice (E.hd b) rows.length (E.cap b)) := by
  have hlive : live sto b := live_iff.2 ⟨_, hb, rfl⟩
  have hst : Step E sto w (E.give sto [b]) (gones sto [b]) w' := by
    refine ⟨hos, htape, hout, by omega, fun _ h => .inl h, fun k hk => ?_, fun k _ hne => hother k fun e => hne b hlive e.symm, fun _ h => h, fun b' hb' => .inl ⟨(live_gones.1 hb').1, rfl⟩, fun b' hb' hc => ⟨?_, rfl⟩, fun b' m hb' hc => ?_⟩
    · rcases hk with h | ⟨b', _, h1, h2⟩
      · exact .inl h
      · exact .inr (.inr ⟨b', h1, h2⟩)
    · simp only [Env.give]; split
      · rfl
      · exact hc
    · by_cases h : b' ∈ [b]
      · exact .inl (by simp only [Env.give]; rw [if_pos h])
      · exact .inr ⟨m, by simp only [Env.give]; rw [if_neg h]; exact hc, Nat.le_refl _, rfl, fun _ => ⟨rfl, rfl, rfl⟩⟩
  have hmono : ∀ {x : AVal} {v : Value}, PV w E.ok x v → PV w' (E.give sto [b]).ok x v := fun h => h.mono (fun _ h => .inl h) (Step.okHeap hr hst)
  refine ⟨⟨fun b' hb' => ?_, fun b' hb' => hr.al b' (live_gones.1 hb').1, fun b' => ?_, fun k hk => ?_, fun b1 b2 hb1 hb2 he => hr.inj b1 b2 (live_gones.1 hb1).1 (live_gones.1 hb2).1 he, fun b' B hB => ?_, fun g => glob_step hr hst g⟩, hst, ?_⟩
  · rw [gones_length]; exact hr.n b' hb'
  · simp only [Env.give, hr.cur b', curOf, gones_get]
    by_cases h : b' ∈ [b]
    · by_cases h2 : b' < sto.length
      · rw [if_pos h, if_pos ⟨h, h2⟩]
      · rw [if_pos h, if_neg (fun h => h2 h.2), List.getElem?_eq_none (by omega)]
    · rw [if_neg h, if_neg (fun h' => h h'.1)]
  · rw [hsize]
    rcases hk with h | ⟨b', _, h1, rfl⟩
    · exact hr.okb k h
    · exact (hr.liveBlk h1).2
  · rw [gones_get] at hB
    by_cases h1 : b' ∈ [b] ∧ b' < sto.length
    · rw [if_pos h1] at hB; cases hB; exact .gone
    · rw [if_neg h1] at hB
      by_cases hg : dull B = true
      · cases hr.blk b' B hB with
        | nbuf t sz h1 h2 => exact .nbuf t sz h1 h2
        | gone => exact .gone
        | _ => cases hg
      · have hl : live sto b' := live_iff.2 ⟨B, hB, by simpa using hg⟩
        have hbn : b' ∉ [b] := fun hm => h1 ⟨hm, live_lt hl⟩
        have hne : E.ι b' ≠ E.ι b := fun e => hbn (by rw [hr.inj b' b hl hlive e]; simp)
        have hn : ¬ (E.give sto [b]).ok (E.ι b') := by
          rintro (h | ⟨b2, hm, hl', he⟩)
          · exact (hr.liveBlk hl).1 h
          · exact hbn (hr.inj b2 b' hl' hl he ▸ hm)
        have hv : ∀ {x : AVal} {v : Value}, V w E x v → V w' (E.give sto [b]) x v := fun h => h.step hr hst
        have hg' := hother (E.ι b') hne
        cases hr.blk b' B hB with
        | cells t cs vals h1 h2 h3 h4 => exact .cells t cs vals (hg'.trans h1) hn h3 (fun i x v hx hv' => hv (h4 i x v hx hv'))
        | buf t sz rows cap vals h1 h2 h3 hh h4 h5 h6 h7 h8 h9 h10 h11 =>
          exact .buf t sz rows cap vals (hg'.trans h1) hn h3 hh h4 h5 h6 h7 h8 h9 h10 (fun i r j x hi hj => let ⟨v, hv1, hv2⟩ := h11 i r j x hi hj; ⟨v, hv1, hmono hv2⟩)
        | iter s pos sb hsb h1 h2 => exact .iter s pos sb hsb (hg'.trans h1) hn
        | arr t sz rows vals h1 h2 h3 h4 h5 h6 h8 h9 h11 =>
          exact .arr t sz rows vals (hg'.trans h1) hn h3 h4 h5 h6 h8 h9 (fun i r j x hi hj => let ⟨v, hv1, hv2, hv3⟩ := h11 i r j x hi hj; ⟨v, hv1, hv2, hv hv3⟩)
        | map es ents clock h1 h2 h3 h4 => exact .map es ents clock (hg'.trans h1) hn h3 (fun i p ent hx hv' => ⟨hv (h4 i p ent hx hv').1, hv (h4 i p ent hx hv').2.1, (h4 i p ent hx hv').2.2⟩)
        | miter mv mr s se l h0 h1 h2 => exact .miter mv mr s se l (hv h0) (hg'.trans h1) hn
        | nbuf t sz h1 h2 => exact .nbuf t sz h1 h2
        | gone => exact .gone
  · cases hr.blk b _ hb with
    | buf _ _ _ _ vals hg hn hE hh hs hl hm hcap h0 hsz hcell hv =>
      obtain ⟨fr, hfr⟩ := hblk vals hg
      rw [hh]
      refine .slc sz rows cap _ (E.cap b) (fun i j => vals.getD (i * sz + j) undef) hsz hcell hl (fun k hk => hcap k hk) (fun h => by cases h) hm (fun i r j x hi hj => ?_) (fun i r j x hi hj => ?_)
      · obtain ⟨v, hv1, hv2⟩ := hv i r j x hi hj
        refine ⟨_, rfl, .inr ⟨b, by simp, hlive, rfl⟩, ?_⟩
        rw [addr_plain]
        simp only [World.cell?, hfr, Option.isSome_none, Bool.false_eq_true, if_false]
        simp [hv1]
      · obtain ⟨v, hv1, hv2⟩ := hv i r j x hi hj
        have : vals.getD (i * sz + j) undef = v := by simp [hv1]
        rw [this]
        exact hmono hv2

theorem good_mark (hr : Rel C E sto w) {src dst : TypeId} {x : AVal} {xv : Value} (hx : V w E x xv) {v : AVal} {ws : List (Nat × Blk)} (h : markA C.P sto src dst x = some (v, ws)) {r : Result Next}
    (hrun : r = (do pure (Next.value (← convert src dst xv)) : Sem Next).run C.P w) : OpGood C E sto w id r v ws := by
  unfold markA at h
  split at h
  · rename_i b n
    split at h
    · rename_i t sz rows cap hb
      split at h
      · rename_i hcond
        obtain ⟨hsd, hbk, hn⟩ := hcond
        obtain ⟨e, he, hk⟩ := Option.bind_eq_some_iff.1 hbk
        subst hsd
        cases h
        obtain ⟨hal, hle, hv⟩ := hx.bsl_inv
        have hv := hv (by rw [hr.cur, curOf_curB hb]; simp [curB, hn])
        subst hv
        obtain ⟨vals, hg, hh⟩ : ∃ vals, w.heap[E.ι b]? = some (.cells vals t (0, 0)) ∧ E.hd b = some ⟨E.ι b, 0, none⟩ := by
          cases hr.blk b _ hb with
          | buf _ _ _ _ vals hg hn hE hh => exact ⟨vals, hg, hh⟩
        have hlt := (Array.getElem?_eq_some_iff.1 hg).1
        let w' : World := w.freeze ⟨E.ι b, vals.size, none⟩ 1
        have hheap : w'.heap = w.heap.modify (E.ι b) fun o => match o with
            | .cells c elem (lo, hi) => .cells c elem (if lo == hi then (vals.size, vals.size + 1) else (min lo vals.size, max hi (vals.size + 1)))
            | o => o := by
          show (w.freeze _ 1).heap = _
          unfold World.freeze
          rw [if_neg (by decide)]
          rfl
        have hm := rel_mark hr hb (w' := w') (by show (w.freeze _ 1).os = _; unfold World.freeze; rw [if_neg (by decide)]) (by show (w.freeze _ 1).tape = _; unfold World.freeze; rw [if_neg (by decide)]) (by show (w.freeze _ 1).output = _; unfold World.freeze; rw [if_neg (by decide)])
          (by rw [hheap, Array.size_modify]) (fun k hk => by rw [hheap, Array.getElem?_modify, if_neg (fun e => hk e.symm)]) (fun vs hvs => by
            rw [hheap, Array.getElem?_modify, if_pos rfl, hvs]
            exact ⟨_, rfl⟩)
        have hb' := live_lt (live_iff.2 ⟨_, hb, rfl⟩)
        refine ⟨.value (.slice (E.hd b) rows.length (E.cap b)), _, w', E.give sto [b], ?_, rfl, ?_, ?_, .pure hm.2.2, fun _ h => .inl h⟩
        · rw [hrun, ← hn, hh]
          have hsh : w.shape? (E.ι b) = some (t, vals.size) := by unfold World.shape?; rw [hg]
          simp [convert, run_underlying (elemT_some he), run_underlying (intT_some hk), markStringish, hsh]
          rfl
        · rw [wrs_gone hb']; exact hm.1
        · rw [wrs_gone hb']; exact hm.2.1
      · cases h
    · cases h
  · cases h

end
end Go.Proofs.YtaajfbcopafkaaaGreatDoor.Ai

namespace Go.Proofs.YtaajfbcopafkaaaGreatDoor.Ai
open Go
set_option linter.unusedVariables false
set_option linter.unusedSimpArgs false

theorem guardType_false {P : Program} {d : Nat} : ∀ {t : TypeId} {ks : List LK} {D : Nat}, leavesT P d t = some ks → d ≤ D → P.eqGuardType D t = false := by
  induction d with
  | zero => intro t ks D h; simp [leavesT] at h
  | succ d ih =>
    intro t ks D h hD
    obtain ⟨D, rfl⟩ : ∃ D', D = D' + 1 := ⟨D - 1, by omega⟩
    obtain ⟨T, hu⟩ := leaves_under h
    unfold leavesT at h
    rw [hu] at h
    unfold Program.eqGuardType
    rw [hu]
    cases T <;> simp at h ⊢
    case struct fs =>
      obtain ⟨_, h⟩ := h
      have key : ∀ (l : List Field) (off : Nat) (ks : List LK), leavesT.go P d (szOf P t) l off = some ks → ∀ f ∈ l, f.name = "_" ∨ P.eqGuardType D f.type = false := by
        intro l
        induction l with
        | nil => intro off ks h f hf; cases hf
        | cons f l ihl =>
          intro off ks h g hg
          simp only [leavesT.go] at h
          split at h
          · cases h
          · split at h
            · cases hf : leavesT P d f.type with
              | none => rw [hf] at h; simp at h
              | some lf =>
                rw [hf] at h
                cases hgo : leavesT.go P d (szOf P t) l (off + szOf P f.type) with
                | none => rw [hgo] at h; simp at h
                | some lg =>
                  rcases List.mem_cons.1 hg with rfl | hg
                  · exact .inr (ih hf (by omega))
                  · exact ihl _ _ hgo g hg
            · cases h
      intro i hi
      exact fun hne => (key _ _ _ h fs[i] (by simp)).resolve_left hne
    case array n e =>
      obtain ⟨_, l, hl, _⟩ := h
      exact ih hl (by omega)

section
variable {C : Ctx} {E : Env} {sto : List Blk} {w : World} {id : Nat}

theorem depth_ge (P : Program) : 8 ≤ P.depth := by unfold Program.depth Made.depth; omega

theorem guard_plain {P : Program} {w : World} {op : BinOp} {t : TypeId} {x y : Operand} {a b : Value} (h1 : a ≠ .nilIface) (h2 : ∀ cs, a ≠ .agg cs) : (eqGuard op t x y a b).run P w = .ok () w := by
  unfold eqGuard
  cases op <;> first
    | rfl
    | (cases a <;> first
        | rfl
        | exact (h1 rfl).elim
        | exact (h2 _ rfl).elim)

theorem guard_agg {P : Program} {w : World} {op : BinOp} {t : TypeId} {x y : Operand} {xs ys : Array Value} (hgt : P.eqGuardType P.depth t = false) : (eqGuard op t x y (.agg xs) (.agg ys)).run P w = .ok () w := by
  have key : ((do if !(← program).eqGuardType (← program).depth t then return
                  if ← Op.eqGuardIn Op.maxDepth t (.agg xs) (.agg ys) then unsupported (.noEntry "binop/eql: two nil values of an interface type with methods, in a part of a struct or an array")) : Sem Unit).run P w = .ok () w := by
    simp only [Sem.run_bind, run_program, Result.andThen_ok, hgt]
    rfl
  unfold eqGuard
  cases op <;> first
    | rfl
    | exact key

theorem eqA_run {t : TypeId} {x y : AVal} {xv yv : Value} (hx : V w E x xv) (hy : V w E y yv) {r : Bool} (h : eqA C.P t x y = some r) : (Op.equal t xv yv).run C.P w = .ok r w ∧
    (∀ (op : BinOp) (ox oy : Operand), (eqGuard op t ox oy xv yv).run C.P w = .ok () w) ∧ (∀ k n, xv ≠ .int k n) ∧ (∀ s, xv ≠ .string s) ∧ (∀ k n, xv ≠ .float k n) ∧ (∀ k n m, xv ≠ .complex k n m) := by
  unfold eqA at h
  split at h
  · rename_i a b
    split at h
    · rename_i ht
      cases h
      have hu : C.P.underlying t = some .bool := by
        unfold boolT at ht; split at ht
        · rename_i hu; exact hu
        · cases ht
      rw [hx.bool_inv, hy.bool_inv]
      refine ⟨?_, fun op ox oy => guard_plain (by simp) (by simp), by simp, by simp, by simp, by simp⟩
      have key : ∀ D, (Op.equalIn (D + 1) t (.bool a) (.bool b)).run C.P w = .ok (decide (a = b)) w := fun D => by
        simp [Op.equalIn, run_underlying hu]
        cases a <;> cases b <;> rfl
      exact key 9999
    · cases h
  · rename_i cs ds
    cases hq : lay C.P t with
    | none => rw [hq] at h; simp at h
    | some q =>
      rw [hq] at h
      simp only [Option.bind_some] at h
      split at h
      · rename_i hq1
        cases hl : leavesT C.P 8 t with
        | none => rw [hl] at h; simp at h
        | some ks =>
          rw [hl] at h
          simp only [Option.bind_some] at h
          obtain ⟨xs, rfl, hxl⟩ := hx.agg_inv
          obtain ⟨ys, rfl, hyl⟩ := hy.agg_inv
          obtain ⟨i, T, hi, hu, rfl⟩ := lay_some hq
          refine ⟨?_, fun op ox oy => guard_agg (guardType_false hl (depth_ge C.P)), by simp, by simp, by simp, by simp⟩
          have := eq_run 8 t T ks 10000 cs ds xs ys r hl hu (by omega) hxl hyl h
          have hg : aggD T = true := hq1
          rw [hg] at this
          exact this
      · cases h
  · split at h
    · rename_i ht
      cases h
      obtain ⟨fs, cs, rfl, _, _⟩ := hx.func_inv
      rw [hy.nilfunc_inv]
      have hu : ∃ a b c, C.P.underlying t = some (.func a b c) := by
        unfold funcT at ht; split at ht
        · rename_i a b c hu; exact ⟨a, b, c, hu⟩
        · cases ht
      obtain ⟨a, b, c, hu⟩ := hu
      refine ⟨?_, fun op ox oy => guard_plain (by simp) (by simp), by simp, by simp, by simp, by simp⟩
      have key : ∀ D f fs cs, (Op.equalIn (D + 1) t (.func f fs cs) .nilFunc).run C.P w = .ok false w := fun D f fs cs => by
        simp [Op.equalIn, run_underlying hu]
      exact key 9999 _ _ _
    · cases h
  · split at h
    · rename_i ht
      cases h
      rw [hx.nilfunc_inv, hy.nilfunc_inv]
      have hu : ∃ a b c, C.P.underlying t = some (.func a b c) := by
        unfold funcT at ht; split at ht
        · rename_i a b c hu; exact ⟨a, b, c, hu⟩
        · cases ht
      obtain ⟨a, b, c, hu⟩ := hu
      refine ⟨?_, fun op ox oy => guard_plain (by simp) (by simp), by simp, by simp, by simp, by simp⟩
      have key : ∀ D, (Op.equalIn (D + 1) t .nilFunc .nilFunc).run C.P w = .ok true w := fun D => by
        simp [Op.equalIn, run_underlying hu]
      exact key 9999
    · cases h
  · cases h

theorem binOp_eql {t : TypeId} {xv yv : Value} (h1 : ∀ k n, xv ≠ .int k n) (h2 : ∀ s, xv ≠ .string s) (h3 : ∀ k n, xv ≠ .float k n) (h4 : ∀ k n m, xv ≠ .complex k n m) :
    binOp .eql t xv yv = (do pure (.bool (← Op.equal t xv yv))) ∧ binOp .neq t xv yv = (do pure (.bool (!(← Op.equal t xv yv)))) := by
  cases xv <;> first
    | exact (h1 _ _ rfl).elim
    | exact (h2 _ rfl).elim
    | exact (h3 _ _ rfl).elim
    | exact (h4 _ _ _ rfl).elim
    | exact ⟨rfl, rfl⟩

theorem bin_sound {op : BinOp} {t : TypeId} {x y v : AVal} {xv yv : Value} (hx : V w E x xv) (hy : V w E y yv) (h : binA C.P op t x y = some v) (ox oy : Operand) :
    ∃ u, ((do eqGuard op t ox oy xv yv; binOp op t xv yv) : Sem Value).run C.P w = .ok u w ∧ V w E v u := by
  unfold binA at h
  split at h
  · rename_i k a k' b
    rw [hx.int_inv, hy.int_inv]
    have hg : (eqGuard op t ox oy (.int k a) (.int k' b)).run C.P w = .ok () w := guard_plain (by simp) (by simp)
    cases op <;> simp only [] at h
    case shl =>
      obtain ⟨u, h1, h2⟩ := shift_run (P := C.P) (w := w) (k' := k') h
      exact ⟨u, by simp only [Sem.run_bind, hg, Result.andThen_ok]; exact h1, h2 E⟩
    case shr =>
      obtain ⟨u, h1, h2⟩ := shift_run (P := C.P) (w := w) (k' := k') h
      exact ⟨u, by simp only [Sem.run_bind, hg, Result.andThen_ok]; exact h1, h2 E⟩
    all_goals
      split at h
      · rename_i hk
        subst hk
        obtain ⟨u, h1, h2⟩ := int_run (P := C.P) (w := w) t h
        exact ⟨u, by simp only [Sem.run_bind, hg, Result.andThen_ok]; exact h1, h2 E⟩
      · cases h
  · rename_i a b
    obtain ⟨s, rfl, hs⟩ := hx.str_inv
    obtain ⟨s', rfl, hs'⟩ := hy.str_inv
    have hg : (eqGuard op t ox oy (.string s) (.string s')).run C.P w = .ok () w := guard_plain (by simp) (by simp)
    obtain ⟨u, h1, h2⟩ := str_run (P := C.P) (w := w) hs hs' t h
    exact ⟨u, by simp only [Sem.run_bind, hg, Result.andThen_ok]; exact h1, h2 E⟩
  · cases op <;> simp only [] at h
    case eql =>
      cases he : eqA C.P t x y with
      | none => rw [he] at h; cases h
      | some r =>
        rw [he] at h; cases h
        obtain ⟨h1, h2, h3, h4, h5, h6⟩ := eqA_run hx hy he
        refine ⟨.bool r, ?_, V.bool⟩
        rw [(binOp_eql h3 h4 h5 h6).1]
        simp only [Sem.run_bind, h2, Result.andThen_ok, h1, Sem.run_pure]
    case neq =>
      cases he : eqA C.P t x y with
      | none => rw [he] at h; cases h
      | some r =>
        rw [he] at h; cases h
        obtain ⟨h1, h2, h3, h4, h5, h6⟩ := eqA_run hx hy he
        refine ⟨.bool (!r), ?_, V.bool⟩
        rw [(binOp_eql h3 h4 h5 h6).2]
        simp only [Sem.run_bind, h2, Result.andThen_ok, h1, Sem.run_pure]
    all_goals cases h

theorem nil_of_bin {P : Program} {sto : List Blk} {op : BinOp} {t : TypeId} {y : Operand} {a b v : AVal} (h : binA P op t a b = some v) : nilA P sto op t y a b = none := by
  have key : ∀ a b, binA P op t a b = some v → (∀ q, a ≠ .str q) → (∀ q c, a ≠ .int q c) → (∀ q, a ≠ .bool q) → (∀ q, a ≠ .agg q) → (∀ f q c, a ≠ .func f q c) → a ≠ .nilfunc → False := by
    intro a b h h1 h2 h3 h4 h5 h6
    cases a <;> first
      | exact h1 _ rfl
      | exact h2 _ _ rfl
      | exact h3 _ rfl
      | exact h4 _ rfl
      | exact h5 _ _ _ rfl
      | exact h6 rfl
      | (cases op <;> simp [binA, eqA] at h)
  unfold nilA
  split
  · exact (key _ _ h (by simp) (by simp) (by simp) (by simp) (by simp) (by simp)).elim
  · exact (key _ _ h (by simp) (by simp) (by simp) (by simp) (by simp) (by simp)).elim
  · exact (key _ _ h (by simp) (by simp) (by simp) (by simp) (by simp) (by simp)).elim
  · exact (key _ _ h (by simp) (by simp) (by simp) (by simp) (by simp) (by simp)).elim
  · exact (key _ _ h (by simp) (by simp) (by simp) (by simp) (by simp) (by simp)).elim
  · split
    · rename_i hc
      simp only [Bool.and_eq_true] at hc
      have h1 := hc.2.1
      exfalso
      refine key _ _ h ?_ ?_ ?_ ?_ ?_ ?_ <;> (intros; intro e; rw [e] at h1; simp [slcX] at h1)
    · rfl
theorem eqlB_run {t : TypeId} {ox oy : Operand} {op : BinOp} {xv yv : Value} {r : Bool} {v : AVal} (h : eqlB op r = some v) (hg : (eqGuard op t ox oy xv yv).run C.P w = .ok () w) (hk : (Op.equal t xv yv).run C.P w = .ok r w)
    (h3 : ∀ k n, xv ≠ .int k n) (h4 : ∀ s, xv ≠ .string s) (h5 : ∀ k n, xv ≠ .float k n) (h6 : ∀ k n m, xv ≠ .complex k n m) :
    ∃ u, ((do eqGuard op t ox oy xv yv; binOp op t xv yv) : Sem Value).run C.P w = .ok u w ∧ V w E v u := by
  unfold eqlB at h
  split at h
  · cases h
    refine ⟨.bool r, ?_, V.bool⟩
    rw [(binOp_eql h3 h4 h5 h6).1]
    simp only [Sem.run_bind, hg, Result.andThen_ok, hk, Sem.run_pure]
  · cases h
    refine ⟨.bool (!r), ?_, V.bool⟩
    rw [(binOp_eql h3 h4 h5 h6).2]
    simp only [Sem.run_bind, hg, Result.andThen_ok, hk, Sem.run_pure]
  · cases h
theorem nil_sound {op : BinOp} {t : TypeId} {x y v : AVal} {xv yv : Value} (ox oy : Operand) (hr : Rel C E sto w) (hx : V w E x xv) (hy : V w E y yv) (hoy : ∀ c, oy = .const c → yv = c) (h : nilA C.P sto op t oy x y = some v) :
    ∃ u, ((do eqGuard op t ox oy xv yv; binOp op t xv yv) : Sem Value).run C.P w = .ok u w ∧ V w E v u := by
  have hu : ifaceT C.P t = true → ∃ ms, C.P.underlying t = some (.interface ms) := by
    intro ht
    unfold ifaceT at ht; split at ht
    · rename_i ms hu; exact ⟨ms, hu⟩
    · cases ht
  have hp : ptrT C.P t = true → ∃ e, C.P.underlying t = some (.pointer e) ∧ 0 < szOf C.P e := by
    intro ht
    unfold ptrT at ht; split at ht
    · rename_i e hu; exact ⟨e, hu, Nat.le_of_ble_eq_true ht⟩
    · cases ht
  unfold nilA at h
  split at h
  · split at h
    · rename_i hc
      simp only [Bool.and_eq_true] at hc
      obtain ⟨ms, hu⟩ := hu hc.2
      have ho : oy = .const .nilIface := by
        have h1 := hc.1
        unfold nilO at h1; split at h1
        · rfl
        · cases h1
      subst ho
      rw [hx.nilif_inv, hy.nilif_inv]
      have hg : (eqGuard op t ox (.const .nilIface) .nilIface .nilIface).run C.P w = .ok () w := by cases op <;> simp [eqGuard, Sem.run_bind]
      have key : ∀ D, (Op.equalIn (D + 1) t .nilIface .nilIface).run C.P w = .ok true w := fun D => by simp [Op.equalIn, run_underlying hu]
      exact eqlB_run h hg (key 9999) (by simp) (by simp) (by simp) (by simp)
    · cases h
  · split at h
    · rename_i hc
      obtain ⟨ms, hu⟩ := hu hc
      obtain ⟨xw, rfl⟩ := hx.iface_val
      rw [hy.nilif_inv]
      have key : ∀ D T, (Op.equalIn (D + 1) t (.iface T xw) .nilIface).run C.P w = .ok false w := fun D T => by simp [Op.equalIn, run_underlying hu]
      exact eqlB_run h (guard_plain (by simp) (by simp)) (key 9999 _) (by simp) (by simp) (by simp) (by simp)
    · cases h
  · split at h
    · rename_i hc
      obtain ⟨e, hu, _⟩ := hp hc
      rw [hx.nilptr_inv, hy.nilptr_inv]
      have key : ∀ D, (Op.equalIn (D + 1) t (.pointer none) (.pointer none)).run C.P w = .ok true w := fun D => by simp [Op.equalIn, run_underlying hu]
      exact eqlB_run h (guard_plain (by simp) (by simp)) (key 9999) (by simp) (by simp) (by simp) (by simp)
    · cases h
  · split at h
    · rename_i hc
      obtain ⟨e, hu, _⟩ := hp hc
      obtain ⟨rfl, _, _⟩ := hx.ptr_inv
      rw [hy.nilptr_inv]
      have key : ∀ D A, (Op.equalIn (D + 1) t (.pointer (some A)) (.pointer none)).run C.P w = .ok false w := fun D A => by simp [Op.equalIn, run_underlying hu]
      exact eqlB_run h (guard_plain (by simp) (by simp)) (key 9999 _) (by simp) (by simp) (by simp) (by simp)
    · cases h
  · split at h
    · rename_i hc
      simp only [Bool.and_eq_true] at hc
      obtain ⟨e, hu, h0⟩ := hp hc.1
      obtain ⟨rfl, _, _⟩ := hx.ptr_inv
      obtain ⟨rfl, _, _⟩ := hy.ptr_inv
      rw [← Nat.eq_of_beq_eq_true hc.2.1, ← Nat.eq_of_beq_eq_true hc.2.2]
      obtain ⟨i, hi, hisz, _⟩ := szOf_pos h0
      have hne : ¬ i.size = 0 := by omega
      have key : ∀ D A, (Op.equalIn (D + 1) t (.pointer (some A)) (.pointer (some A))).run C.P w = .ok true w := fun D A => by simp [Op.equalIn, run_underlying hu, run_sizeOf' hi, hne, sameAddr]
      exact eqlB_run h (guard_plain (by simp) (by simp)) (key 9999 _) (by simp) (by simp) (by simp) (by simp)
    · cases h
  · split at h
    · rename_i hc
      simp only [Bool.and_eq_true] at hc
      obtain ⟨e, he⟩ := Option.isSome_iff_exists.1 hc.2.2
      have hu := elemT_some he
      have ho : ∃ n c, yv = .slice none n c := by
        have h1 := hc.1
        unfold nilS at h1; split at h1
        · exact ⟨_, _, hoy _ rfl⟩
        · cases h1
      obtain ⟨n, c, rfl⟩ := ho
      have hs : ∃ A n c, xv = .slice (some A) n c := by
        have h1 := hc.2.1
        unfold slcX at h1; split at h1
        · rename_i b m lo len cp
          obtain ⟨_, _, hv⟩ := hx.sub_inv
          obtain ⟨a, c, h2, _⟩ := hv (by rw [hr.cur]; exact eq_of_beq h1)
          exact ⟨_, _, _, h2⟩
        · obtain ⟨_, _, h2, _⟩ := hx.csl_inv
          exact ⟨_, _, _, h2⟩
        · have h2 := hx.slc_inv
          cases h2 with
          | slc _ _ _ A c val hsz hcell hc hcap hnil hm hr hv =>
            cases A with
            | none => have := hnil rfl; simp at hc; omega
            | some a => exact ⟨_, _, _, rfl⟩
        · cases h1
      obtain ⟨A, n', c', rfl⟩ := hs
      have key : ∀ D, (Op.equalIn (D + 1) t (.slice (some A) n' c') (.slice none n c)).run C.P w = .ok false w := fun D => by simp [Op.equalIn, run_underlying hu]
      exact eqlB_run h (guard_plain (by simp) (by simp)) (key 9999) (by simp) (by simp) (by simp) (by simp)
    · cases h

theorem fieldT_some {P : Program} {t : TypeId} {f off : Nat} {ft : TypeId} (h : fieldT P t f = some (off, ft)) : ∃ fs fd, P.underlying t = some (.struct fs) ∧ fs[f]? = some fd ∧ fd.offset = off ∧ fd.type = ft := by
  unfold fieldT at h
  split at h
  · rename_i fs hu
    cases hf : fs[f]? with
    | none => rw [hf] at h; cases h
    | some fd => rw [hf] at h; cases h; exact ⟨fs, fd, hu, hf, rfl, rfl⟩
  · cases h

theorem list_vl {ρ : Operand → AVal} {ρ' : Operand → Value} (hρ : ∀ x, V w E (ρ x) (ρ' x)) (xs : Array Operand) : VL w E (xs.toList.map ρ) (xs.map ρ') := by
  refine ⟨by simp, fun i x v hx hv => ?_⟩
  rw [List.getElem?_map, Array.getElem?_toList] at hx
  rw [Array.getElem?_map] at hv
  cases h : xs[i]? with
  | none => rw [h] at hx; cases hx
  | some o => rw [h] at hx hv; cases hx; cases hv; exact hρ o

theorem decode_list (s : ByteArray) (l : List UInt8) (h : s.data.toList = l) (pos : Nat) : Utf8.decode s pos = decodeL l pos := by
  have : (⟨l.toArray⟩ : ByteArray) = s := byteArray_ext (by rw [h])
  rw [decodeL, this]

/-- Every operation that is no call of a function. -/
theorem den_sound (hr : Rel C E sto w) (hid : ¬ E.al id) (hid2 : id ≤ sto.length) {ρ : Operand → AVal} {ρ' : Operand → Value} (hρ : ∀ x, V w E (ρ x) (ρ' x)) (hconst : ∀ c, ρ' (.const c) = c) {own : Bool} {o : Oper} {v : AVal} {ws : List (Nat × Blk)}
    (h : den C ρ sto id own o.op = some (v, ws)) : OpGood C E sto w id ((execOp ρ' o).run C.P w) v ws := by
  unfold den at h
  split at h
  case h_1 x hop => cases h; exact good_pure hr (u := ρ' x) (by simp [execOp, hop]) (hρ x)
  case h_2 x hop => cases h; exact good_pure hr (u := ρ' x) (by simp [execOp, hop]) (hρ x)
  case h_3 c a b hop =>
    split at h
    · rename_i t hc
      cases h
      have hcv := hρ c
      rw [hc] at hcv
      refine good_pure hr (u := if t = true then ρ' a else ρ' b) (by simp [execOp, hop, hcv.bool_inv, asBool]) ?_
      cases t <;> simp <;> exact hρ _
    · cases h
  case h_4 t hop =>
    cases hz : zeroT C.P t with
    | none => rw [hz] at h; cases h
    | some cs =>
      rw [hz] at h; cases h
      obtain ⟨i, z, hi, hzz, rfl⟩ := zeroT_some hz
      exact good_cells hr hid hid2 (w' := w.alloc (.cells z.cells t)) VL.zero rfl rfl rfl rfl (by simp [execOp, hop, Instr.alloc, run_zero hi hzz, newVar, newRow])
  case h_5 t x hop =>
    split at h
    · rename_i hso
      cases h
      exact good_cells hr hid hid2 (w' := w.alloc (.cells (ρ' x).cells t)) (V.cells hr hso (hρ x)).1 rfl rfl rfl rfl (by simp [execOp, hop, Instr.box, newVar, newRow])
    · cases h
  case h_6 t parts hop =>
    cases hb : buildA C.P sto t (parts.toList.map fun p => (p.1, ρ p.2)) with
    | none => rw [hb] at h; cases h
    | some cs =>
      rw [hb] at h; cases h
      obtain ⟨u, hu, hv⟩ := good_build hr hρ hb
      exact good_pure hr (by simp only [execOp, hop]; exact run_v hu) hv
  case h_7 t len parts hop =>
    split at h
    · rename_i e he
      cases hb : rowsA C.P sto e len (parts.toList.map fun p => (p.1, ρ p.2)) with
      | none => rw [hb] at h; cases h
      | some rows =>
        rw [hb] at h
        simp only [Option.bind_some] at h
        split at h
        · rename_i h0
          split at h
          · rename_i hlim
            split at h
            · rename_i hall
              have h := Option.some.inj h
              rw [show v = (place own id e (szOf C.P e) rows (some len)).1 by rw [h], show ws = (place own id e (szOf C.P e) rows (some len)).2 by rw [h]]
              exact good_buildSlice hr hid hid2 hρ he hb h0 hlim hall (by simp only [execOp, hop])
            · cases h
          · cases h
        · cases h
    · cases h
  case h_8 t a hop =>
    cases hq : lay C.P t with
    | none => rw [hq] at h; cases h
    | some q =>
      rw [hq] at h
      simp only [Option.bind_some] at h
      cases hc : rdCells sto (ρ a) (if q.1 = true then q.2 else 1) with
      | none => rw [hc] at h; cases h
      | some cs =>
        rw [hc] at h
        simp only [Option.bind_some] at h
        cases hm : mkV q.1 cs with
        | none => rw [hm] at h; cases h
        | some v' =>
          rw [hm] at h; cases h
          obtain ⟨h1, ad, had, vals, hn, hcell, hv⟩ := rdCells_sound hr (hρ a) hc
          obtain ⟨u, hu, hv'⟩ := run_loadVar (C := C) (a := ad) hq hn h1 hcell hv hm
          exact good_pure hr (by simp only [execOp, hop, had]; exact run_v (by simp [Instr.loadAt, Instr.sureAddr, hu])) hv'
  case h_9 t a x hop =>
    cases hq : lay C.P t with
    | none => rw [hq] at h; cases h
    | some q =>
      rw [hq] at h
      simp only [Option.bind_some] at h
      split at h
      · rename_i hn
        split at h
        · rename_i hso
          cases hw : wrCells sto (ρ a) (ρ x).cells with
          | none => rw [hw] at h; cases h
          | some p =>
            rw [hw] at h; cases h
            exact good_store hr (hρ a) (hρ x) hq hn hso hw (by simp only [execOp, hop])
        · cases h
      · cases h
  case h_10 x hop =>
    split at h
    · rename_i b o' hx
      cases h
      have hv := hρ x
      rw [hx] at hv
      exact good_pure hr (u := ρ' x) (by simp [execOp, hop, hv.ptr_inv.1]) hv
    · rename_i cs hx
      cases h
      have hv := hρ x
      rw [hx] at hv
      have hp := hv.rptr_inv
      refine good_pure hr (u := ρ' x) ?_ hv
      generalize hxv : ρ' x = xv at hp
      cases hp with
      | rptr => simp [execOp, hop, hxv]
    · rename_i f a b hx
      cases h
      have hv := hρ x
      rw [hx] at hv
      obtain ⟨fs, cs, hxv, _, _⟩ := hv.func_inv
      exact good_pure hr (u := ρ' x) (by simp [execOp, hop, hxv]) hv
    · cases h
  case h_11 op t x y yt hop =>
    cases hn : nilA C.P sto op t y (ρ x) (ρ y) with
    | some v' =>
      rw [hn] at h; simp only [Option.some_or, Option.map_some, Option.some.injEq, Prod.mk.injEq] at h
      obtain ⟨rfl, rfl⟩ := h
      obtain ⟨u, hu, hv⟩ := nil_sound x y hr (hρ x) (hρ y) (fun c hc => by rw [hc]; exact hconst c) hn
      exact good_pure hr (by simp only [execOp, hop]; exact run_v hu) hv
    | none =>
    rw [hn, Option.none_or] at h
    cases hb : binA C.P op t (ρ x) (ρ y) with
    | none => rw [hb] at h; cases h
    | some v' =>
      rw [hb] at h; cases h
      obtain ⟨u, hu, hv⟩ := bin_sound (hρ x) (hρ y) hb x y
      exact good_pure hr (by simp only [execOp, hop]; exact run_v hu) hv
  case h_12 op t x hop =>
    cases hb : unA op (ρ x) with
    | none => rw [hb] at h; cases h
    | some v' =>
      rw [hb] at h; cases h
      obtain ⟨u, hu, hv⟩ := un_run (P := C.P) (w := w) (hρ x) hb
      exact good_pure hr (by simp only [execOp, hop]; exact run_v hu) hv
  case h_13 src dst x hop =>
    cases hmk : markA C.P sto src dst (ρ x) with
    | some r' =>
      rw [hmk] at h; cases h
      exact good_mark hr (hρ x) hmk (by simp only [execOp, hop])
    | none =>
      rw [hmk] at h
      cases hb : convA C.P sto own src dst (ρ x) with
      | none => rw [hb] at h; cases h
      | some v' =>
        rw [hb] at h; cases h
        exact good_conv hr (hρ x) hb (by simp only [execOp, hop])
  case h_14 fn first caps hop =>
    split at h
    · rename_i f
      cases h
      have h1 := list_vl hρ first
      have h2 := list_vl hρ caps
      exact good_pure hr (u := .func (.func f) (first.map ρ') (caps.map ρ')) (by simp [execOp, hop, Instr.makeFunc]) (.func f _ _ _ _ h1.1 h2.1 h1.2 h2.2)
    · cases h
  case h_15 t l c hop => exact good_make hr hid hid2 (hρ l) (hρ c) h (by simp only [execOp, hop])
  case h_16 t x lo hi mx hop => exact good_slice hr (hρ x) (opt_val hρ lo) (opt_val hρ hi) (opt_val hρ mx) h (by simp only [execOp, hop])
  case h_17 t x f hop =>
    split at h
    · rename_i off ft hf
      split at h
      · cases h
      · rename_i hne
        cases hp : ptrAdd sto (ρ x) off with
        | none => rw [hp] at h; cases h
        | some v' =>
          rw [hp] at h; cases h
          obtain ⟨fs, fd, hu, hfd, hoff, hft⟩ := fieldT_some hf
          obtain ⟨ad, had, hv⟩ := ptrAdd_sound hr (hρ x) hp
          obtain ⟨i, hi, hisz, _⟩ := szOf_pos (Nat.pos_of_ne_zero hne)
          have hne' : ¬ i.size = 0 := by rw [hisz]; exact hne
          rw [← hft] at hi
          exact good_pure hr (by simp only [execOp, hop, had]; exact run_v (by simp [Instr.fieldAt, run_underlying hu, hfd, Instr.sureAddr, fieldPlace, run_sizeOf' hi, hne', hoff])) hv
    · cases h
  case h_18 t x f hop =>
    split at h
    · rename_i off ft cs hf hx
      cases hq : lay C.P ft with
      | none => rw [hq] at h; cases h
      | some q =>
        rw [hq] at h
        simp only [Option.bind_some] at h
        cases ht : takeN (if q.1 = true then q.2 else 1) (cs.drop off) with
        | none => rw [ht] at h; cases h
        | some ds =>
          rw [ht] at h
          simp only [Option.bind_some] at h
          cases hm : mkV q.1 ds with
          | none => rw [hm] at h; cases h
          | some v' =>
            rw [hm] at h; cases h
            have hv := hρ x
            rw [hx] at hv
            obtain ⟨vs, hxv, hvl⟩ := hv.agg_inv
            obtain ⟨fs, fd, hu, hfd, hoff, hft⟩ := fieldT_some hf
            obtain ⟨u, hu', hv'⟩ := part_sound (C := C) hq hvl ht hm
            subst hoff; subst hft
            exact good_pure hr (by simp only [execOp, hop, hxv]; exact run_v (by simp [Instr.field, run_underlying hu, hfd, asAgg, hu'])) hv'
    · cases h
  case h_19 t x i hop =>
    split at h
    · rename_i k n hi
      cases hb : idxA C.P sto t (ρ x) n with
      | none => rw [hb] at h; cases h
      | some v' =>
        rw [hb] at h; cases h
        have hiv := hρ i
        rw [hi] at hiv
        obtain ⟨u, hu, hv⟩ := idx_sound (k := k) hr (hρ x) hb
        exact good_pure hr (by simp only [execOp, hop, hiv.int_inv]; exact run_v hu) hv
    · cases h
  case h_20 t x i hop =>
    split at h
    · rename_i k n hi
      cases hb : indexA C.P t (ρ x) n with
      | none => rw [hb] at h; cases h
      | some v' =>
        rw [hb] at h; cases h
        have hiv := hρ i
        rw [hi] at hiv
        obtain ⟨u, hu, hv⟩ := index_sound (C := C) (k := k) (hρ x) hb
        exact good_pure hr (by simp only [execOp, hop, hiv.int_inv]; exact run_v hu) hv
    · cases h
  case h_21 t x hop =>
    split at h
    · rename_i s hx
      split at h
      · rename_i ht
        cases h
        have hv := hρ x
        rw [hx] at hv
        obtain ⟨sb, hsb, hl⟩ := hv.str_inv
        exact good_iter hr hid hid2 (w' := w.alloc (.stringIter sb 0)) hl rfl rfl rfl rfl (by simp [execOp, hop, hsb, Instr.range, run_underlying (strT_true ht)])
      · cases h
    · cases h
  case h_22 it hop =>
    split at h
    · rename_i b hit
      have hv := hρ it
      rw [hit] at hv
      obtain ⟨hp, hal, hc⟩ := hv.ptr_inv
      split at h
      · rename_i s pos hb
        have hlive : live sto b := live_iff.2 ⟨_, hb, rfl⟩
        have hblt := live_lt hlive
        cases hr.blk b _ hb with
        | iter _ _ sb hsb hg hn =>
          have hsz : sb.size = s.length := by rw [← hsb, Array.length_toList]; rfl
          split at h
          · rename_i hlt
            cases h
            have hdec := decode_list sb s hsb pos
            have hother : ∀ k, k < w.heap.size → (live sto b → E.ι b ≠ k) → ({ w with heap := w.heap.setIfInBounds (E.ι b) (.stringIter sb (pos + (decodeL s pos).2)) } : World).heap[k]? = w.heap[k]? := fun k hk hne => by
              show (w.heap.setIfInBounds _ _)[k]? = _
              rw [Array.getElem?_setIfInBounds_ne (hne hlive)]
            have hrel := rel_upd hr b (.iter s (pos + (decodeL s pos).2)) (E.ι b) (E.cap b) (E.sz b) (E.hd b) (Nat.le_of_lt hblt) (w' := { w with heap := w.heap.setIfInBounds (E.ι b) (.stringIter sb (pos + (decodeL s pos).2)) }) rfl rfl rfl (by simp) hother
              (fun _ => .inl ⟨hlive, rfl⟩) (.inl ⟨hal, fun _ => ⟨rfl, rfl⟩, fun m hm => by (rw [hc] at hm; cases hm)⟩)
              (.iter s _ sb hsb (by rw [env_set_new.1]; show (w.heap.setIfInBounds _ _)[_]? = _; rw [Array.getElem?_setIfInBounds_self_of_lt (Array.getElem?_eq_some_iff.1 hg).1]) (by rw [env_set_new.1]; exact hn))
            refine ⟨.value (.tuple #[.bool true, .int .i64 pos, .int .i32 (decodeL s pos).1]), .tuple #[.bool true, .int .i64 pos, .int .i32 (decodeL s pos).1], _, _, ?_, rfl, hrel.1, hrel.2, ?_, fun y hy => ?_⟩
            · have hlt2 : pos < sb.size := by omega
              simp only [execOp, hop, hp]
              exact run_v (w' := { w with heap := w.heap.setIfInBounds (E.ι b) (.stringIter sb (pos + (decodeL s pos).2)) }) (by simp [Instr.next, getObj, setObj, Sem.run, hg, hlt2, hdec, goInt])
            · refine .pure (.tup _ _ rfl (fun i x v hx hv => ?_))
              match i with
              | 0 => simp at hx hv; subst hx; subst hv; exact .bool _
              | 1 => simp at hx hv; subst hx; subst hv; exact .int _ _
              | 2 => simp at hx hv; subst hx; subst hv; exact .int _ _
              | n + 3 => simp at hx
            · rcases hy with rfl | hy
              · exact .inl hal
              · exact .inl hy
          · rename_i hge
            cases h
            have hge2 : ¬ pos < sb.size := by omega
            refine good_pure hr (u := .tuple #[.bool false]) ?_ (.pure (.tup _ _ rfl (fun i x v hx hv => ?_)))
            · simp only [execOp, hop, hp]
              exact run_v (by simp [Instr.next, getObj, Sem.run, hg, hge2])
            · cases i with
              | zero => simp at hx hv; subst hx; subst hv; exact .bool _
              | succ i => simp at hx
      · cases h
    · cases h
  case h_23 x i hop =>
    split at h
    · rename_i vs hx
      cases hi : vs[i]? with
      | none => rw [hi] at h; cases h
      | some v' =>
        rw [hi] at h; cases h
        have hv := hρ x
        rw [hx] at hv
        obtain ⟨us, hxv, hvl⟩ := hv.tup_inv
        have hlt : i < us.size := by rw [hvl.1]; exact (List.getElem?_eq_some_iff.1 hi).1
        exact good_pure hr (u := us[i]) (by simp only [execOp, hop, hxv]; exact run_v (by simp [Instr.extract, hlt])) (hvl.2 i _ _ hi (Array.getElem?_eq_getElem hlt))
    · cases h
  case h_24 c hop =>
    split at h
    · rename_i b hc
      have hargs := list_vl hρ c.args
      obtain ⟨cs, hexec⟩ : ∃ cs, (execOp ρ' o).run C.P w = (builtin b c.argTypes o.type cs (c.args.map ρ')).run C.P w :=
        ⟨_, by simp only [execOp, hop, resolve, hc, invoke, Sem.run_bind, Sem.run_pure, Result.andThen_ok]; rfl⟩
      rw [hexec]
      clear hexec
      generalize hxs : c.args.toList.map ρ = xs at h hargs
      generalize hvs : c.args.map ρ' = vs at hargs
      have hts : c.argTypes = c.argTypes.toList.toArray := by simp
      have hvs' : vs = vs.toList.toArray := by simp
      have hlen : vs.toList.length = xs.length := by rw [Array.length_toList]; exact hargs.1
      unfold builtinA at h
      split at h
      · rename_i t x h1 
        obtain ⟨xv, hxv⟩ := List.length_eq_one_iff.1 (hlen : vs.toList.length = 1)
        have hx : V w E x xv := hargs.2 0 x xv rfl (by rw [← Array.getElem?_toList, hxv]; rfl)
        rw [hts, h1, hvs', hxv]
        cases hl : lenS C.P sto t x with
        | none => rw [hl] at h; cases h
        | some v' =>
          rw [hl] at h; cases h
          unfold lenS at hl
          split at hl
          · rename_i b' n
            split at hl
            · rename_i he
              split at hl
              · rename_i hcur
                cases hl
                obtain ⟨e, he⟩ := Option.isSome_iff_exists.1 he
                obtain ⟨_, _, hv⟩ := hx.bsl_inv
                have hv := hv (by rw [hr.cur]; exact hcur)
                exact good_pure hr (u := .int .i64 n) (by simp [builtin, Builtin.len_, run_underlying (elemT_some he), hv, goInt]) V.int
              · cases hl
            · cases hl
          · unfold lenA at hl
            split at hl
            · split at hl
              · rename_i s _ ht
                cases hl
                obtain ⟨sb, rfl, hsb⟩ := hx.str_inv
                have hsz : sb.size = s.length := by rw [← hsb, Array.length_toList]; rfl
                exact good_pure hr (u := .int .i64 s.length) (by simp [builtin, Builtin.len_, run_underlying (strT_true ht), goInt, hsz]) V.int
              · cases hl
            · split at hl
              · rename_i sz rows cap _ he
                cases hl
                obtain ⟨e, he⟩ := Option.isSome_iff_exists.1 he
                have hp := hx.slc_inv
                cases hp with
                | slc _ _ _ A c' => exact good_pure hr (u := .int .i64 rows.length) (by simp [builtin, Builtin.len_, run_underlying (elemT_some he), goInt]) V.int
              · cases hl
            · cases ha : arrT C.P t with
              | none => rw [ha] at hl; cases hl
              | some p =>
                rw [ha] at hl; cases hl
                obtain ⟨us, rfl, _⟩ := hx.agg_inv
                exact good_pure hr (u := .int .i64 p.1) (by simp [builtin, Builtin.len_, run_underlying (arrT_some (n := p.1) (e := p.2) ha), goInt]) V.int
            · cases hl
      · rename_i t x h1
        obtain ⟨xv, hxv⟩ := List.length_eq_one_iff.1 (hlen : vs.toList.length = 1)
        have hx : V w E x xv := hargs.2 0 x xv rfl (by rw [← Array.getElem?_toList, hxv]; rfl)
        rw [hts, h1, hvs', hxv]
        cases hl : capA C.P sto t x with
        | none => rw [hl] at h; cases h
        | some v' =>
          rw [hl] at h; cases h
          unfold capA at hl
          split at hl
          · rename_i sz rows c'
            split at hl
            · rename_i he
              cases hl
              obtain ⟨e, he⟩ := Option.isSome_iff_exists.1 he
              have hp := hx.slc_inv
              cases hp with
              | slc _ _ _ A c'' val hsz hcell hc hcap =>
                have := hcap c' rfl
                subst this
                exact good_pure hr (u := .int .i64 c'') (by simp [builtin, Builtin.cap_, run_underlying (elemT_some he), goInt]) V.int
            · cases hl
          · rename_i b' n
            split at hl
            · rename_i t0 sz rows c' hb
              split at hl
              · rename_i hn
                split at hl
                · rename_i he
                  cases hl
                  obtain ⟨e, he⟩ := Option.isSome_iff_exists.1 he
                  obtain ⟨_, _, hv⟩ := hx.bsl_inv
                  have hv := hv (by rw [hr.cur, curOf_curB hb]; simp [curB, hn])
                  have hcp : E.cap b' = c' := by cases hr.blk b' _ hb with | buf _ _ _ _ _ _ _ _ _ _ _ _ hcap => exact hcap c' rfl
                  rw [hcp] at hv
                  exact good_pure hr (u := .int .i64 c') (by simp [builtin, Builtin.cap_, run_underlying (elemT_some he), hv, goInt]) V.int
                · cases hl
              · cases hl
            · rename_i t0 sz hb
              split at hl
              · rename_i hn
                split at hl
                · rename_i he
                  cases hl
                  obtain ⟨e, he⟩ := Option.isSome_iff_exists.1 he
                  obtain ⟨_, _, hv⟩ := hx.bsl_inv
                  have hv := hv (by rw [hr.cur, curOf_curB hb]; simp [curB, hn])
                  have hcp : E.cap b' = 0 := by cases hr.blk b' _ hb with | nbuf _ _ hc _ => exact hc
                  rw [hcp] at hv
                  exact good_pure hr (u := .int .i64 0) (by simp [builtin, Builtin.cap_, run_underlying (elemT_some he), hv, goInt]) V.int
                · cases hl
              · cases hl
            · cases hl
          · cases hl
      · rename_i t tx s x h1
        obtain ⟨sv, xv, hxv⟩ : ∃ sv xv, vs.toList = [sv, xv] := by
          match hl : vs.toList, (hlen : vs.toList.length = 2) with
          | [a, b], _ => exact ⟨a, b, rfl⟩
        have hs : V w E s sv := hargs.2 0 s sv rfl (by rw [← Array.getElem?_toList, hxv]; rfl)
        have hx : V w E x xv := hargs.2 1 x xv rfl (by rw [← Array.getElem?_toList, hxv]; rfl)
        rw [hts, h1, hvs', hxv]
        exact good_append hr hid hid2 (ty := o.type) hs hx h rfl
      · obtain ⟨v', hm, hp⟩ := Option.map_eq_some_iff.1 h
        · cases hp
          unfold minA at hm
          split at hm
          · rename_i k a k' b'
            split at hm
            · rename_i hk
              subst hk
              cases hm
              obtain ⟨av, bv, hxv⟩ : ∃ sv xv, vs.toList = [sv, xv] := by
                match hl : vs.toList, (hlen : vs.toList.length = 2) with
                | [a, b], _ => exact ⟨a, b, rfl⟩
              have ha : V w E (.int k a) av := hargs.2 0 _ av rfl (by rw [← Array.getElem?_toList, hxv]; rfl)
              have hb : V w E (.int k b') bv := hargs.2 1 _ bv rfl (by rw [← Array.getElem?_toList, hxv]; rfl)
              rw [hvs', hxv, ha.int_inv, hb.int_inv]
              exact good_pure hr (u := .int k (if b' < a then b' else a)) (by simp [builtin, Builtin.min_, Builtin.min2]) V.int
            · cases hm
          · cases hm
      · obtain ⟨v', hm, hp⟩ := Option.map_eq_some_iff.1 h
        · cases hp
          unfold maxA at hm
          split at hm
          · rename_i k a k' b'
            split at hm
            · rename_i hk
              subst hk
              cases hm
              obtain ⟨av, bv, hxv⟩ : ∃ sv xv, vs.toList = [sv, xv] := by
                match hl : vs.toList, (hlen : vs.toList.length = 2) with
                | [a, b], _ => exact ⟨a, b, rfl⟩
              have ha : V w E (.int k a) av := hargs.2 0 _ av rfl (by rw [← Array.getElem?_toList, hxv]; rfl)
              have hb : V w E (.int k b') bv := hargs.2 1 _ bv rfl (by rw [← Array.getElem?_toList, hxv]; rfl)
              rw [hvs', hxv, ha.int_inv, hb.int_inv]
              exact good_pure hr (u := .int k (if b' > a then b' else a)) (by simp [builtin, Builtin.max_, Builtin.max2]) V.int
            · cases hm
          · cases hm
      · cases h
    · cases h
  case h_25 => cases h

end
end Go.Proofs.YtaajfbcopafkaaaGreatDoor.Ai
