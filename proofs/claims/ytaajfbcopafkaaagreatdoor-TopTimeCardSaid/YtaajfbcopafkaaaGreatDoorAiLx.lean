/- Arrays that slices lie in, of any values, and maps: what the model does is what 'denx' says. Own work of this seat. -/
import Derived.Test.YtaajfbcopafkaaaGreatDoorAiLc
namespace Go.Proofs.YtaajfbcopafkaaaGreatDoor.Ai
open Go
set_option linter.unusedVariables false
set_option linter.unusedSimpArgs false

section
variable {C : Ctx} {E : Env} {sto : List Blk} {w w' : World} {id : Nat}

/-- An array in a new block: a new one, or one that has grown. -/
theorem good_arr (hr : Rel C E sto w) {b : Nat} {t : TypeId} {sz : Nat} {rows : List (List AVal)} {cap : Option Nat} {c : Nat} {vals : Array Value} {r : Result Next}
    (hb : b ≤ sto.length) (hid : (¬ E.al b ∧ b = id) ∨ (E.al b ∧ E.sz b = sz ∧ ∃ m, E.cur b = some m ∧ m < rows.length))
    (h0 : 0 < sz) (hs : vals.size = c * sz) (hl : rows.length ≤ c) (hm : c ≤ maxLen) (hcap : ∀ k, cap = some k → c = k) (hsz : ∀ r, r ∈ rows → r.length = sz)
    (hv : ∀ (i : Nat) r (j : Nat) x, rows[i]? = some r → r[j]? = some x → ∃ v, vals[i * sz + j]? = some v ∧ v.oneCell' = true ∧ V w E x v)
    (hos : w'.os = w.os) (htape : w'.tape = w.tape) (hout : w'.output = w.output) (hh : w'.heap = w.heap.push (.cells vals t))
    (h : r = .ok (.value (.slice (some ⟨w.heap.size, 0, none⟩) rows.length c)) w') : OpGood C E sto w id r (.sub b rows.length 0 rows.length cap) [(b, .arr t sz rows)] := by
  have hs' : w.heap.size ≤ w'.heap.size := by rw [hh]; simp
  have hold : ∀ k, k < w.heap.size → w'.heap[k]? = w.heap[k]? := fun k hk => by rw [hh]; exact push_old hk
  have hal : (E.al b ∧ (E.cur b = none → curB (.arr t sz rows) = none ∧ w.heap.size = E.ι b) ∧
      (∀ m, E.cur b = some m → ∃ m', curB (.arr t sz rows) = some m' ∧ m ≤ m' ∧ sz = E.sz b ∧ (m' = m → w.heap.size = E.ι b ∧ c = E.cap b ∧ some (⟨w.heap.size, 0, none⟩ : Addr) = E.hd b))) ∨ (¬ E.al b ∧ b ≤ sto.length) := by
    rcases hid with ⟨h1, rfl⟩ | ⟨h2, h3, m, hc, hlt⟩
    · exact .inr ⟨h1, hb⟩
    · refine .inl ⟨h2, fun h => by (rw [hc] at h; cases h), fun m' hm' => ?_⟩
      rw [hc] at hm'; cases hm'
      exact ⟨rows.length, rfl, by omega, h3.symm, fun e => by omega⟩
  have hst := step_upd hr b (.arr t sz rows) w.heap.size c sz (some ⟨w.heap.size, 0, none⟩) hb hos htape hout hs' (fun k hk _ => hold k hk) (fun _ => .inr (Nat.le_refl _)) hal
  have hrel := rel_upd hr b (.arr t sz rows) w.heap.size c sz (some ⟨w.heap.size, 0, none⟩) hb hos htape hout hs' (fun k hk _ => hold k hk) (fun _ => .inr (Nat.le_refl _)) hal
    (.arr t sz rows vals (by rw [env_set_new.1, hh]; exact push_new) (by rw [env_set_new.1]; exact fun hk => Nat.lt_irrefl _ (hr.okb _ hk)) (by rw [env_set_new.2.2.1])
      (by rw [env_set_new.2.1]; exact hs) (by rw [env_set_new.2.1]; exact hl) (by rw [env_set_new.2.1]; exact hm) h0 hsz
      (fun i r j x hi hj => let ⟨v, h1, h2, h3⟩ := hv i r j x hi hj; ⟨v, h1, h2, h3.step hr hst⟩))
  refine ⟨_, _, _, _, h, rfl, hrel.1, hrel.2, ?_, fun x hx => ?_⟩
  · refine .sub _ _ _ _ _ _ (.inl rfl) ?_ ?_
    · intro m hm'; rw [env_set_new.2.2.2.2.1] at hm'; cases hm'; exact Nat.le_refl _
    · intro _
      refine ⟨_, c, rfl, fun _ => ?_, hl, by omega, ?_, hcap⟩
      · rw [env_set_new.1, Nat.zero_mul]
      · rw [env_set_new.2.1]; omega
  · rcases hx with rfl | hx
    · rcases hid with ⟨_, h2⟩ | ⟨h2, _⟩
      · exact .inr h2
      · exact .inl h2
    · exact .inl hx

/-- What is read of a slice or a string, of any values. -/
structure SrcV (C : Ctx) (E : Env) (w : World) (size : Nat) (x : Value) (rows : List (List AVal)) (news : List Value) : Prop where
  len : ∀ w' : World, (Builtin.lenOf x).run C.P w' = .ok rows.length w'
  run : ∀ w' : World, w'.heap = w.heap → (Builtin.firstCells size rows.length x).run C.P w' = .ok news.toArray w'
  n : news.length = rows.length * size
  sz : ∀ r, r ∈ rows → r.length = size
  val : ∀ (i : Nat) r (j : Nat) y, rows[i]? = some r → r[j]? = some y → ∃ v, news[i * size + j]? = some v ∧ v.oneCell' = true ∧ V w E y v

theorem Src.toV {size : Nat} {x : Value} {rows : List (List AVal)} {news : List Value} (h : Src C E w size x rows news) : SrcV C E w size x rows news :=
  ⟨h.len, h.run, h.n, h.sz, fun i r j y hi hj => let ⟨v, h1, h2⟩ := h.val i r j y hi hj
    ⟨v, h1, cellish_one (h.cell r (List.mem_of_getElem? hi) y (List.mem_of_getElem? hj)) h2, .pure h2⟩⟩

theorem SrcV.one {size : Nat} {x : Value} {rows : List (List AVal)} {news : List Value} (h : SrcV C E w size x rows news) (h0 : 0 < size) : ∀ u ∈ news, u.oneCell' = true := by
  intro u hu
  obtain ⟨k, hk⟩ := List.mem_iff_getElem?.1 hu
  have hlt := (List.getElem?_eq_some_iff.1 hk).1
  rw [h.n] at hlt
  have hi : k / size < rows.length := Nat.div_lt_of_lt_mul (by rw [Nat.mul_comm]; exact hlt)
  have hr : rows[k / size]? = some rows[k / size] := List.getElem?_eq_getElem hi
  have hj : k % size < rows[k / size].length := by rw [h.sz _ (List.getElem_mem hi)]; exact Nat.mod_lt _ h0
  obtain ⟨v, hv1, hv2, _⟩ := h.val _ _ _ _ hr (List.getElem?_eq_getElem hj)
  rw [Nat.mul_comm, Nat.div_add_mod, hk] at hv1
  cases hv1
  exact hv2

theorem srcv_none {size m c : Nat} {A : Option Addr} : SrcV C E w size (.slice A 0 c) [] [] := (src_none (m := m)).toV

/-- A part of an array. -/
theorem srcv_arr (hr : Rel C E sto w) {b n lo len : Nat} {cap : Option Nat} {xv : Value} (hx : V w E (.sub b n lo len cap) xv) {t : TypeId} {sz : Nat} {rows : List (List AVal)} (hb : sto[b]? = some (.arr t sz rows)) (hn : rows.length = n) :
    (∃ news, SrcV C E w sz xv ((rows.drop lo).take len) news) ∧ 0 < sz ∧ ((rows.drop lo).take len).length = len := by
  obtain ⟨hal, hle, hv⟩ := hx.sub_inv
  obtain ⟨a, c, rfl, ha, hlc, hln, hcc, _⟩ := hv (by rw [hr.cur, curOf_curB hb]; simp [curB, hn])
  cases hr.blk b _ hb with
  | arr _ _ _ vals hg hn' hE hs hl hm h0 hsz hval =>
    have hlen : ((rows.drop lo).take len).length = len := by simp; omega
    refine ⟨?_, h0, hlen⟩
    by_cases hz : len = 0
    · subst hz
      simp only [List.take_zero]
      exact ⟨[], srcv_none (m := 0)⟩
    · have ha := ha (by omega)
      subst ha
      rw [hE]
      have hlv : (lo + len) * sz ≤ vals.size := by rw [hs]; exact Nat.mul_le_mul_right _ (by omega)
      rw [Nat.add_mul] at hlv
      refine ⟨(vals.toList.drop (lo * sz)).take (len * sz), ⟨fun w' => by simp [Builtin.lenOf, hlen], fun w' hhw => ?_, by rw [hlen, List.length_take, List.length_drop, Array.length_toList]; omega, fun r hr' => hsz r (List.mem_of_mem_drop (List.mem_of_mem_take hr')), fun i r j y hi hj => ?_⟩⟩
      · rw [hlen]
        refine run_first_some hhw (by simp; omega) (fun k u hk => ?_)
        rw [List.getElem?_take] at hk
        split at hk
        · rw [List.getElem?_drop, Array.getElem?_toList] at hk
          rw [addr_plain]
          simp only [World.cell?, hg, Option.isSome_none, Bool.false_eq_true, if_false]
          exact hk
        · cases hk
      · rw [List.getElem?_take] at hi
        split at hi
        · rename_i hil
          rw [List.getElem?_drop] at hi
          obtain ⟨v, hv1, hv2, hv3⟩ := hval (lo + i) r j y hi hj
          refine ⟨v, ?_, hv2, hv3⟩
          have hj' : j < sz := by rw [← hsz r (List.mem_of_getElem? hi)]; exact (List.getElem?_eq_some_iff.1 hj).1
          have hlt : i * sz + j < len * sz := by
            have := pair_lt (i := i) (j := j) (i' := i + 1) (j' := 0) (sz := sz) (Nat.lt_succ_self _) hj'
            have h2 : (i + 1) * sz ≤ len * sz := Nat.mul_le_mul_right _ hil
            omega
          rw [List.getElem?_take, if_pos hlt, List.getElem?_drop, Array.getElem?_toList, ← hv1]
          congr 1
          rw [Nat.add_mul]; omega
        · cases hi

/-- A part of a block of cells. -/
theorem srcv_csl (hr : Rel C E sto w) {b off len cap : Nat} {xv : Value} (hx : V w E (.csl b off 1 len cap) xv) {t : TypeId} {cs : List AVal} (hb : sto[b]? = some (.cells t cs)) (hn : off + len ≤ cs.length)
    (hall : ((cs.drop off).take len).all (solid sto) = true) : ∃ news, SrcV C E w 1 xv (((cs.drop off).take len).map fun c => [c]) news := by
  obtain ⟨hal, hcur, rfl, hlc⟩ := hx.csl_inv
  have hl : ((cs.drop off).take len).length = len := by rw [List.length_take, List.length_drop]; omega
  cases hr.blk b _ hb with
  | cells _ _ vals hg hn' hs hv =>
    refine ⟨(vals.toList.drop off).take len, ⟨fun w' => by simp only [Builtin.lenOf, List.length_map, hl]; rfl, fun w' hhw => ?_, ?_, ?_, fun i r j y hi hj => ?_⟩⟩
    · rw [List.length_map, hl]
      refine run_first_some hhw (by rw [List.length_take, List.length_drop, Array.length_toList]; omega) (fun k u hk => ?_)
      rw [List.getElem?_take] at hk
      split at hk
      · rw [List.getElem?_drop, Array.getElem?_toList] at hk
        rw [addr_plain]
        simp only [World.cell?, hg, Option.isSome_none, Bool.false_eq_true, if_false]
        exact hk
      · cases hk
    · rw [List.length_map, hl, List.length_take, List.length_drop, Array.length_toList]; omega
    · intro r hr'; obtain ⟨c, _, rfl⟩ := List.mem_map.1 hr'; rfl
    · rw [List.getElem?_map] at hi
      cases hc : ((cs.drop off).take len)[i]? with
      | none => rw [hc] at hi; cases hi
      | some c =>
        rw [hc] at hi; cases hi
        cases j with
        | succ j => simp at hj
        | zero =>
          simp at hj; subst hj
          have hil : i < len := by rw [← hl]; exact (List.getElem?_eq_some_iff.1 hc).1
          have hc' := hc
          rw [List.getElem?_take, if_pos hil, List.getElem?_drop] at hc'
          have hlt : off + i < vals.size := by omega
          have hvv := hv (off + i) c _ hc' (Array.getElem?_eq_getElem hlt)
          refine ⟨vals[off + i], ?_, solid_one hr (List.all_eq_true.1 hall c (List.mem_of_getElem? hc)) hvv, hvv⟩
          rw [Nat.mul_one, Nat.add_zero, List.getElem?_take, if_pos hil, List.getElem?_drop, Array.getElem?_toList, Array.getElem?_eq_getElem hlt]

theorem srcv_sound (hr : Rel C E sto w) {tx : TypeId} {x : AVal} {xv : Value} (hx : V w E x xv) {sx size : Nat} {rows : List (List AVal)} (h : newRowsX C.P sto tx x = some (sx, rows)) (h0 : 0 < size) (hs : sx = size ∨ rows.length = 0) :
    (∃ news, SrcV C E w size xv rows news) ∧ ∃ d, C.P.underlying tx = some d ∧ (d = .string ∨ ∃ e', d = .slice e') := by
  unfold newRowsX at h
  split at h
  · rename_i b n lo len cap
    split at h
    · rename_i ht
      obtain ⟨e', he'⟩ := Option.isSome_iff_exists.1 ht
      refine ⟨?_, _, elemT_some he', .inr ⟨_, rfl⟩⟩
      split at h
      · rename_i t0 sz rows0 hb
        split at h
        · rename_i hn
          cases h
          obtain ⟨hsrc, hpos, hlen⟩ := srcv_arr hr hx hb hn
          by_cases hz : ((rows0.drop lo).take len).length = 0
          · have e : (rows0.drop lo).take len = [] := List.eq_nil_of_length_eq_zero hz
            rw [e]
            obtain ⟨hal, hle, hv⟩ := hx.sub_inv
            obtain ⟨a, c, rfl, _⟩ := hv (by rw [hr.cur, curOf_curB hb]; simp [curB, hn])
            rw [hlen] at hz
            subst hz
            exact ⟨[], srcv_none (m := 0)⟩
          · have := hs.resolve_right hz
            subst this
            exact hsrc
        · cases h
      · cases h
    · cases h
  · rename_i b off sz len cap
    split at h
    · rename_i ht
      obtain ⟨e', he'⟩ := Option.isSome_iff_exists.1 ht
      refine ⟨?_, _, elemT_some he', .inr ⟨_, rfl⟩⟩
      split at h
      · rename_i hsz
        subst hsz
        split at h
        · rename_i t0 cs hb
          split at h
          · rename_i hn
            split at h
            · rename_i hall
              cases h
              have hsrc := srcv_csl hr hx hb hn hall
              by_cases hz : (((cs.drop off).take len).map fun c => [c]).length = 0
              · have e : (((cs.drop off).take len).map fun c => [c]) = [] := List.eq_nil_of_length_eq_zero hz
                rw [e] at hsrc ⊢
                obtain ⟨news, hsrc⟩ := hsrc
                have hl := hsrc.len w
                obtain ⟨hal, hcur, rfl, hlc⟩ := hx.csl_inv
                simp [Builtin.lenOf] at hl
                subst hl
                exact ⟨[], srcv_none (m := 0)⟩
              · have := hs.resolve_right hz
                subst this
                exact hsrc
            · cases h
          · cases h
        · cases h
      · cases h
    · cases h
  · obtain ⟨⟨news, h1⟩, h2⟩ := src_sound hr hx h h0 hs
    exact ⟨⟨news, h1.toV⟩, h2⟩

/-- append, where there is room. -/
theorem run_roomV {t tx e ty : TypeId} {d : TypeDesc} {i : TypeInfo} {base : Option Addr} {n c : Nat} {x : Value} {rows : List (List AVal)} {news : List Value} (ht : C.P.underlying t = some (.slice e)) (hx : C.P.underlying tx = some d)
    (hd : d = .string ∨ ∃ e', d = .slice e') (hi : C.P.info? e = some i) (hs : SrcV C E w i.size x rows news) (hroom : n + rows.length ≤ c) {w' : World}
    (hst : (match base with | some a => storeCells (a.add (n * i.size)) news | none => pure ()).run C.P w = .ok () w') :
    (Builtin.append_ #[t, tx] ty #[.slice base n c, x]).run C.P w = .ok (.slice base (n + rows.length) c) w' := by
  have hf := hs.run w rfl
  have hl := hs.len w
  have key : ∀ d', d' = d → (d' = .string ∨ ∃ e', d' = .slice e') → (Builtin.append_ #[t, tx] ty #[.slice base n c, x]).run C.P w = .ok (.slice base (n + rows.length) c) w' := by
    intro d' hd' h
    subst hd'
    rcases h with rfl | ⟨e', rfl⟩ <;> cases base <;> simp only [] at hst
    all_goals simp [Builtin.append_, run_underlying ht, run_underlying hx, sizeOf, typeInfo, hi, hl, hroom, hf, hst]
    all_goals first | done | exact hst | (simp at hst; exact hst)
  exact key d rfl hd

/-- append, where a new block is made. -/
theorem run_growV {t tx e ty : TypeId} {d : TypeDesc} {i : TypeInfo} {z : Value} {base : Option Addr} {n c : Nat} {x : Value} {rows olds' : List (List AVal)} {news olds : List Value} (ht : C.P.underlying t = some (.slice e)) (hx : C.P.underlying tx = some d)
    (hd : d = .string ∨ ∃ e', d = .slice e') (hi : C.P.info? e = some i) (hz : i.zero = some z) (hs : SrcV C E w i.size x rows news) (ho : SrcV C E w i.size (.slice base n c) olds' olds) (hn : olds'.length = n)
    (hg : c < n + rows.length) (h63 : n + rows.length ≤ 9223372036854775807) (hfit : (n + rows.length) * i.bytes ≤ 140737488355328) :
    (Builtin.append_ #[t, tx] ty #[.slice base n c, x]).run C.P w =
      .ok (.slice (some ⟨w.heap.size, 0, none⟩) (n + rows.length) (grownCap w (n + rows.length) c e))
        (w.drew.alloc (.cells (olds.toArray ++ news.toArray ++ Builtin.zeroCells z.cells (grownCap w (n + rows.length) c e - (n + rows.length))) e)) := by
  have hnr : ¬ (n + rows.length ≤ c) := by omega
  have h63' : ¬ (9223372036854775807 < ((n : Int) + (rows.length : Int))) := by omega
  have h48' : ¬ (281474976710656 < Builtin.nextslicecap (n + rows.length) c * i.bytes) := by
    have := growslice_fits (need := n + rows.length) (old := c) (bytes := i.bytes) hg hfit
    omega
  have hf := hs.run w.drew rfl
  have hfo := ho.run w.drew rfl
  rw [hn] at hfo
  have hl := hs.len w
  rcases hd with rfl | ⟨e', rfl⟩
  · simp [Builtin.append_, run_underlying ht, run_underlying hx, sizeOf, typeInfo, zeroValue, hi, hz, hl, hnr, h63', h48', Question.forced, hf, hfo, newRow, grownCap]
    congr 2; apply Array.ext'; simp [List.append_assoc]
  · simp [Builtin.append_, run_underlying ht, run_underlying hx, sizeOf, typeInfo, zeroValue, hi, hz, hl, hnr, h63', h48', Question.forced, hf, hfo, newRow, grownCap]
    congr 2; apply Array.ext'; simp [List.append_assoc]

theorem grown_valsV {size k : Nat} {rows olds' : List (List AVal)} {xo xn : Value} {news olds : List Value} {z : Array Value} (ho : SrcV C E w size xo olds' olds) (hs : SrcV C E w size xn rows news) :
    ∀ (i : Nat) r (j : Nat) y, (olds' ++ rows)[i]? = some r → r[j]? = some y → ∃ v, (olds.toArray ++ news.toArray ++ Builtin.zeroCells z k)[i * size + j]? = some v ∧ v.oneCell' = true ∧ V w E y v := by
  intro i r j y hi hj
  rw [List.getElem?_append] at hi
  have key : ∀ (v : Value) (q : Nat), (olds ++ news)[q]? = some v → (olds.toArray ++ news.toArray ++ Builtin.zeroCells z k)[q]? = some v := by
    intro v q hq
    have hlt := (List.getElem?_eq_some_iff.1 hq).1
    rw [Array.getElem?_append, if_pos (by simpa using hlt)]
    simpa using hq
  by_cases h1 : i < olds'.length
  · rw [if_pos h1] at hi
    obtain ⟨v, hv1, hv2⟩ := ho.val i r j y hi hj
    refine ⟨v, key v _ ?_, hv2⟩
    rw [List.getElem?_append, if_pos (List.getElem?_eq_some_iff.1 hv1).1]; exact hv1
  · rw [if_neg h1] at hi
    obtain ⟨v, hv1, hv2⟩ := hs.val _ r j y hi hj
    refine ⟨v, key v _ ?_, hv2⟩
    have e : i * size + j = olds.length + ((i - olds'.length) * size + j) := by
      rw [ho.n, Nat.sub_mul]
      have : olds'.length * size ≤ i * size := Nat.mul_le_mul_right _ (by omega)
      omega
    rw [e, List.getElem?_append, if_neg (by omega)]
    rw [show olds.length + ((i - olds'.length) * size + j) - olds.length = (i - olds'.length) * size + j by omega]
    exact hv1

/-- Cells of an array are written. -/
theorem rel_arr (hr : Rel C E sto w) {b : Nat} {t : TypeId} {sz : Nat} {rows rows' : List (List AVal)} (hb : sto[b]? = some (.arr t sz rows)) (hal : E.al b) (off : Nat) (news : List Value) (hle : rows.length ≤ rows'.length)
    (hl : rows'.length ≤ E.cap b) (hsz : ∀ r, r ∈ rows' → r.length = sz) (cur : Array Value) (hg : w.heap[E.ι b]? = some (.cells cur t (0, 0)))
    (hv : ∀ (i : Nat) r (j : Nat) x, rows'[i]? = some r → r[j]? = some x → ∃ v, (setArr cur off news)[i * sz + j]? = some v ∧ v.oneCell' = true ∧ V w E x v) (hfit : off + news.length ≤ cur.size) :
    ∃ E', Rel C E' (wr1 sto b (.arr t sz rows')) (w.setRow (E.ι b) (setArr cur off news)) ∧ Step E sto w E' (wr1 sto b (.arr t sz rows')) (w.setRow (E.ι b) (setArr cur off news)) ∧
      E'.ι b = E.ι b ∧ E'.cap b = E.cap b ∧ E'.sz b = E.sz b ∧ E'.cur b = some rows'.length ∧ E'.al b ∧ (∀ y, E'.al y → E.al y) := by
  have hlive : live sto b := live_iff.2 ⟨_, hb, rfl⟩
  have hblt := live_lt hlive
  have hcur : E.cur b = some rows.length := by rw [hr.cur, curOf_curB hb]; rfl
  have hsize : (w.setRow (E.ι b) (setArr cur off news)).heap.size = w.heap.size := size_setRow _ _ _
  have hother : ∀ k, k < w.heap.size → (live sto b → E.ι b ≠ k) → (w.setRow (E.ι b) (setArr cur off news)).heap[k]? = w.heap[k]? := fun k hk hne => setRow_other w _ k _ (fun e => hne hlive e.symm)
  have hal' : (E.al b ∧ (E.cur b = none → curB (.arr t sz rows') = none ∧ E.ι b = E.ι b) ∧ (∀ m, E.cur b = some m → ∃ m', curB (.arr t sz rows') = some m' ∧ m ≤ m' ∧ E.sz b = E.sz b ∧ (m' = m → E.ι b = E.ι b ∧ E.cap b = E.cap b ∧ E.hd b = E.hd b))) ∨ (¬ E.al b ∧ b ≤ sto.length) :=
    .inl ⟨hal, fun h => by (rw [hcur] at h; cases h), fun m' hm' => by (rw [hcur] at hm'; cases hm'; exact ⟨_, rfl, hle, rfl, fun _ => ⟨rfl, rfl, rfl⟩⟩)⟩
  have hst := step_upd hr b (.arr t sz rows') (E.ι b) (E.cap b) (E.sz b) (E.hd b) (Nat.le_of_lt hblt) (w' := w.setRow (E.ι b) (setArr cur off news)) rfl rfl rfl (Nat.le_of_eq hsize.symm) hother (fun _ => .inl ⟨hlive, rfl⟩) hal'
  cases hr.blk b _ hb with
  | arr _ _ _ cur0 hg0 hn' hE hs hrl hmx h0 hrsz hv0 =>
    rw [hg] at hg0; cases hg0
    have hrel := rel_upd hr b (.arr t sz rows') (E.ι b) (E.cap b) (E.sz b) (E.hd b) (Nat.le_of_lt hblt) (w' := w.setRow (E.ι b) (setArr cur off news)) rfl rfl rfl (Nat.le_of_eq hsize.symm) hother (fun _ => .inl ⟨hlive, rfl⟩) hal'
      (.arr t sz rows' (setArr cur off news) (by rw [env_set_new.1]; exact setRow_heap w _ cur _ _ _ hg) (by rw [env_set_new.1]; exact hn')
        (by rw [env_set_new.2.2.1]; exact hE) (by rw [setArr_size hfit, env_set_new.2.1]; exact hs) (by rw [env_set_new.2.1]; exact hl)
        (by rw [env_set_new.2.1]; exact hmx) h0 hsz
        (fun i r j x hi hj => let ⟨v, h1, h2, h3⟩ := hv i r j x hi hj; ⟨v, h1, h2, h3.step hr hst⟩))
    refine ⟨_, hrel.1, hrel.2, env_set_new.1, env_set_new.2.1, env_set_new.2.2.1, env_set_new.2.2.2.2.1, .inl rfl, fun y hy => ?_⟩
    rcases hy with rfl | hy
    · exact hal
    · exact hy

theorem good_appendX (hr : Rel C E sto w) (hid : ¬ E.al id) (hid2 : id ≤ sto.length) {t tx ty : TypeId} {s x : AVal} {sv xv : Value} (hs : V w E s sv) (hx : V w E x xv) {v : AVal} {ws : List (Nat × Blk)}
    (h : appendX C.P sto id t tx s x = some (v, ws)) {r : Result Next}
    (hrun : r = (do pure (Next.value (← Builtin.append_ #[t, tx] ty #[sv, xv])) : Sem Next).run C.P w) : OpGood C E sto w id r v ws := by
  unfold appendX at h
  split at h
  · rename_i e sx new he hnew
    split at h
    · rename_i h0
      split at h
      · rename_i hzok
        split at h
        rotate_left
        · cases h
        rename_i hsx
        have hu := elemT_some he
        obtain ⟨i, hi, hisz, hiby⟩ := szOf_pos h0
        obtain ⟨z, hz, hzs⟩ : ∃ z, i.zero = some z ∧ z.cells.size = i.size := by
          unfold zokT at hzok
          split at hzok
          · rename_i zs hzz
            obtain ⟨i', z, hi', hz, rfl⟩ := zeroT_some hzz
            rw [hi] at hi'; cases hi'
            have := (VL.zero (w := w) (E := E) (z := z)).1
            refine ⟨z, hz, ?_⟩
            rw [this, hisz]; simpa using hzok
          · cases hzok
        obtain ⟨⟨news, hsrc⟩, d, hud, hdd⟩ := srcv_sound hr hx hnew (by rw [hisz]; exact h0 : 0 < i.size) (by rw [hisz]; exact hsx)
        -- a new block
        have grow : ∀ {b : Nat} {base : Option Addr} {n c : Nat} {olds' : List (List AVal)} {olds : List Value}, sv = .slice base n c → SrcV C E w i.size (.slice base n c) olds' olds → olds'.length = n → c < n + new.length →
            n + new.length ≤ 9223372036854775807 → (n + new.length) * byOf C.P e ≤ maxRoom → b ≤ sto.length → ((¬ E.al b ∧ b = id) ∨ (E.al b ∧ E.sz b = szOf C.P e ∧ ∃ m, E.cur b = some m ∧ m < (olds' ++ new).length)) →
            OpGood C E sto w id r (.sub b (olds' ++ new).length 0 (olds' ++ new).length none) [(b, .arr e (szOf C.P e) (olds' ++ new))] := by
          intro b base n c olds' olds hsv ho hn hg h63 hfit hb hidb
          have hmx : n + new.length ≤ maxLen := by simp only [maxLen]; omega
          have hrg := run_growV (ty := ty) hu hud hdd hi hz hsrc ho hn hg h63 (by rw [hiby]; exact hfit)
          have hge := grownCap_ge w (n + new.length) c e
          have hcm := grownCap_le_maxLen w (n + new.length) c e hmx
          have hlen : (olds' ++ new).length = n + new.length := by rw [List.length_append, hn]
          refine good_arr hr (w' := w.drew.alloc (.cells (olds.toArray ++ news.toArray ++ Builtin.zeroCells z.cells (grownCap w (n + new.length) c e - (n + new.length))) e)) (c := grownCap w (n + new.length) c e)
            (vals := olds.toArray ++ news.toArray ++ Builtin.zeroCells z.cells (grownCap w (n + new.length) c e - (n + new.length))) hb hidb h0 ?_ (by omega) hcm (fun k hk => by cases hk) ?_ ?_ rfl rfl rfl rfl ?_
          · rw [Array.size_append, Array.size_append, List.size_toArray, List.size_toArray, ho.n, hsrc.n, zeroCells_size, hzs, hn, hisz, ← Nat.add_mul, ← Nat.add_mul]
            congr 1; omega
          · intro r' hr'
            rw [← hisz]
            rcases List.mem_append.1 hr' with h | h
            · exact ho.sz r' h
            · exact hsrc.sz r' h
          · rw [← hisz]; exact grown_valsV ho hsrc
          · rw [hrun, hsv, hlen]; exact run_v hrg
        unfold appendB at h
        split at h
        · rename_i szz
          have hp := hs.slc_inv
          obtain ⟨A, rfl⟩ : ∃ A, sv = .slice A 0 0 := by
            cases hp with
            | slc _ _ _ A c val h1 h2 h3 h4 => have := h4 0 rfl; subst this; exact ⟨A, rfl⟩
          split at h
          · rename_i hnil
            cases h
            subst hnil
            have hroom := run_roomV (ty := ty) (base := A) (n := 0) (c := 0) hu hud hdd hi hsrc (by simp) (w' := w) (by
              have hn0 : news = [] := List.eq_nil_of_length_eq_zero (by rw [hsrc.n]; simp)
              rw [hn0]; cases A <;> simp [storeCells])
            exact good_pure hr (u := .slice A 0 0) (by rw [hrun]; exact run_v (by simpa using hroom)) hs
          · rename_i hnil
            split at h
            · rename_i hfit
              split at h
              · rename_i h63
                cases h
                have hpos : 0 < new.length := by
                  cases new with
                  | nil => exact (hnil rfl).elim
                  | cons a l => simp
                have := grow (b := id) (base := A) (n := 0) (c := 0) (olds' := []) (olds := []) rfl (srcv_none (m := 0)) rfl (by omega) (by simpa using h63) (by simpa using hfit) hid2 (.inl ⟨hid, rfl⟩)
                simpa using this
              · cases h
            · cases h
        · rename_i b n lo len cap
          split at h
          · rename_i te sz rows hb
            split at h
            · rename_i hn
              split at h
              · rename_i hte
                split at h
                · rename_i hsz
                  split at h
                  · rename_i hfit
                    split at h
                    · rename_i h63
                      subst hte; subst hsz
                      obtain ⟨hal, hle, hv⟩ := hs.sub_inv
                      have hcur : E.cur b = some n := by rw [hr.cur, curOf_curB hb]; simp [curB, hn]
                      obtain ⟨a, c, rfl, ha, hlc, hln, hcc, hck⟩ := hv hcur
                      obtain ⟨⟨olds, hold⟩, _, holen⟩ := srcv_arr hr hs hb hn
                      rw [← hisz] at hold
                      have hroomc : lo = 0 → len = n → len + new.length ≤ c → (∀ k, cap = some k → c = k) → OpGood C E sto w id r (.sub b (n + new.length) 0 (n + new.length) cap) [(b, .arr te (szOf C.P te) (rows ++ new))] := by
                        intro hlo hlenn hroom hcapk
                        subst hlo; subst hlenn
                        cases hr.blk b _ hb with
                        | arr _ _ _ vals hg hn' hE hsv hl hmx h0' hrsz hval =>
                          have hfit2 : rows.length * szOf C.P te + news.length ≤ vals.size := by
                            rw [hsrc.n, hsv, hisz, ← Nat.add_mul]; exact Nat.mul_le_mul_right _ (by omega)
                          have hst := run_storeCells_at C.P (E.ι b) (rows.length * szOf C.P te) te news 0 vals w hg (by simpa using hfit2) (hsrc.one (by rw [hisz]; exact h0))
                          simp only [Nat.add_zero] at hst
                          by_cases hc0 : c = 0
                          · have hnew0 : new = [] := List.eq_nil_of_length_eq_zero (by omega)
                            have hlen0 : len = 0 := by omega
                            subst hnew0
                            have hn0 : news = [] := List.eq_nil_of_length_eq_zero (by rw [hsrc.n]; simp)
                            subst hn0
                            have hrr := run_roomV (ty := ty) (base := some a) (n := len) (c := c) hu hud hdd hi hsrc (by simpa using hroom) (w' := w) (by simp [storeCells])
                            have hB : wr1 sto b (.arr te (szOf C.P te) (rows ++ [])) = sto := by
                              rw [List.append_nil]
                              have hblt := (List.getElem?_eq_some_iff.1 hb).1
                              simp only [wr1, hblt, if_true]
                              exact List.ext_getElem? fun k => by
                                rw [List.getElem?_set]
                                by_cases e : b = k
                                · subst e; rw [if_pos rfl, if_pos hblt, hb]
                                · rw [if_neg e]
                            refine ⟨.value (.slice (some a) len c), _, w, E, ?_, rfl, ?_, ?_, ?_, fun _ h => .inl h⟩
                            · rw [hrun]; exact run_v (by simpa using hrr)
                            · show Rel C E (wr1 sto b _) w
                              rw [hB]; exact hr
                            · show Step E sto w E (wr1 sto b _) w
                              rw [hB]; exact Step.refl _ _ _
                            · refine .sub _ _ _ _ _ _ hal (fun m hm => by simpa using hle m hm) (fun _ => ⟨a, c, by simp, ha, by simpa using hlc, by simp, hcc, hcapk⟩)
                          · have ha' := ha (by omega)
                            subst ha'
                            have hrr := run_roomV (ty := ty) (base := some ⟨E.ι b, 0 * E.sz b, none⟩) (n := len) (c := c) hu hud hdd hi hsrc hroom (w' := w.setRow (E.ι b) (setArr vals (rows.length * szOf C.P te) news))
                              (by simp only [addr_plain, Nat.zero_mul, Nat.zero_add, hisz]; rw [← hn]; exact hst)
                            obtain ⟨E', h1, h2, h3, h4, h5, h6, h7, h8⟩ := rel_arr hr (rows' := rows ++ new) hb hal (rows.length * szOf C.P te) news (by simp) (by simp; omega) (fun r' hr' => by
                                rcases List.mem_append.1 hr' with h | h
                                · exact hrsz r' h
                                · rw [← hisz]; exact hsrc.sz r' h) vals hg (fun k r' j y hk hj => by
                                rw [List.getElem?_append] at hk
                                by_cases h1 : k < rows.length
                                · rw [if_pos h1] at hk
                                  obtain ⟨v, hv1, hv2, hv3⟩ := hval k r' j y hk hj
                                  refine ⟨v, ?_, hv2, hv3⟩
                                  have hj' : j < szOf C.P te := by rw [← hrsz r' (List.mem_of_getElem? hk)]; exact (List.getElem?_eq_some_iff.1 hj).1
                                  rw [setArr_get hfit2, if_neg]
                                  · exact hv1
                                  · rintro ⟨h3, _⟩
                                    have := pair_lt (i := k) (j := j) (i' := rows.length) (j' := 0) (sz := szOf C.P te) h1 hj'
                                    omega
                                · rw [if_neg h1] at hk
                                  obtain ⟨v, hv1, hv2, hv3⟩ := hsrc.val _ r' j y hk hj
                                  refine ⟨v, ?_, hv2, hv3⟩
                                  rw [hisz] at hv1
                                  have hlt := (List.getElem?_eq_some_iff.1 hv1).1
                                  have e : k * szOf C.P te + j = rows.length * szOf C.P te + ((k - rows.length) * szOf C.P te + j) := by
                                    rw [Nat.sub_mul]
                                    have : rows.length * szOf C.P te ≤ k * szOf C.P te := Nat.mul_le_mul_right _ (by omega)
                                    omega
                                  rw [setArr_get hfit2, if_pos (by omega)]
                                  rw [e, Nat.add_sub_cancel_left]; exact hv1) hfit2
                            refine ⟨.value (.slice (some ⟨E.ι b, 0 * E.sz b, none⟩) (len + new.length) c), _, _, E', ?_, rfl, h1, h2, ?_, fun y hy => .inl (h8 y hy)⟩
                            · rw [hrun]; exact run_v hrr
                            · refine .sub _ _ _ _ _ _ h7 (fun m hm => by (rw [h6] at hm; cases hm; simp [hn])) (fun _ => ⟨_, c, rfl, fun _ => by rw [h3]; simp, hroom, by omega, by rw [h4]; exact hcc, hcapk⟩)
                      unfold appendC at h
                      split at h
                      · rename_i c'
                        have hc' := hck c' rfl
                        subst hc'
                        split at h
                        · rename_i hroom
                          split at h
                          · rename_i hlo
                            split at h
                            · rename_i hlenn
                              cases h
                              exact hroomc hlo hlenn hroom (fun k hk => by cases hk; rfl)
                            · cases h
                          · cases h
                        · rename_i hnr
                          cases h
                          have := grow (b := id) (base := some a) (n := len) (c := c) (olds' := (rows.drop lo).take len) (olds := olds) rfl hold holen (by omega) h63 hfit hid2 (.inl ⟨hid, rfl⟩)
                          rw [List.length_append, holen] at this
                          exact this
                      · split at h
                        · rename_i hlo
                          split at h
                          · rename_i hlenn
                            cases h
                            by_cases hroom : len + new.length ≤ c
                            · exact hroomc hlo hlenn hroom (fun k hk => by cases hk)
                            · subst hlo; subst hlenn
                              have hfull : (rows.drop 0).take len = rows := by rw [List.drop_zero, ← hn, List.take_length]
                              rw [hfull] at hold
                              have hE : E.sz b = szOf C.P te := by cases hr.blk b _ hb with | arr _ _ _ vals hg hn' hE => exact hE
                              have := grow (b := b) (base := some a) (n := len) (c := c) (olds' := rows) (olds := olds) rfl hold hn (by omega) h63 hfit (Nat.le_of_lt (List.getElem?_eq_some_iff.1 hb).1) (.inr ⟨hal, hE, len, hcur, by rw [List.length_append, hn]; omega⟩)
                              rw [List.length_append, hn] at this
                              exact this
                          · cases h
                        · cases h
                    · cases h
                  · cases h
                · cases h
              · cases h
            · cases h
          · cases h
        · cases h
      · cases h
    · cases h
  · cases h


theorem flat_get {sz : Nat} : ∀ (rows : List (List AVal)), (∀ r, r ∈ rows → r.length = sz) → ∀ (k : Nat) y, rows.flatten[k]? = some y → ∃ (i : Nat) (r : List AVal) (j : Nat), rows[i]? = some r ∧ r[j]? = some y ∧ k = i * sz + j := by
  intro rows
  induction rows with
  | nil => intro _ k y h; simp at h
  | cons r rows ih =>
    intro hsz k y h
    have hr := hsz r List.mem_cons_self
    rw [List.flatten_cons, List.getElem?_append] at h
    by_cases h1 : k < r.length
    · rw [if_pos h1] at h
      exact ⟨0, r, k, rfl, h, by omega⟩
    · rw [if_neg h1] at h
      obtain ⟨i, r', j, h2, h3, h4⟩ := ih (fun r hr => hsz r (List.mem_cons_of_mem _ hr)) _ y h
      refine ⟨i + 1, r', j, by simpa using h2, h3, ?_⟩
      rw [Nat.add_mul, Nat.one_mul]; omega

/-- Rows written over those of an array. -/
theorem arr_write (hr : Rel C E sto w) {b lo : Nat} {t : TypeId} {sz : Nat} {rows new : List (List AVal)} {news : List Value} {vals : Array Value} (hb : sto[b]? = some (.arr t sz rows)) (hal : E.al b) (hg : w.heap[E.ι b]? = some (.cells vals t (0, 0)))
    (hsv : vals.size = E.cap b * sz) (hl : rows.length ≤ E.cap b) (hfit : lo + new.length ≤ rows.length) (hrsz : ∀ r, r ∈ rows → r.length = sz)
    (hval : ∀ (i : Nat) r (j : Nat) x, rows[i]? = some r → r[j]? = some x → ∃ v, vals[i * sz + j]? = some v ∧ v.oneCell' = true ∧ V w E x v)
    (hn : news.length = new.length * sz) (hnsz : ∀ r, r ∈ new → r.length = sz) (hnv : ∀ (i : Nat) r (j : Nat) x, new[i]? = some r → r[j]? = some x → ∃ v, news[i * sz + j]? = some v ∧ v.oneCell' = true ∧ V w E x v) :
    ∃ E', Rel C E' (wr1 sto b (.arr t sz (rows.take lo ++ new ++ rows.drop (lo + new.length)))) (w.setRow (E.ι b) (setArr vals (lo * sz) news)) ∧
      Step E sto w E' (wr1 sto b (.arr t sz (rows.take lo ++ new ++ rows.drop (lo + new.length)))) (w.setRow (E.ι b) (setArr vals (lo * sz) news)) ∧ (∀ y, E'.al y → E.al y) := by
  have hfit2 : lo * sz + news.length ≤ vals.size := by
    rw [hn, hsv, ← Nat.add_mul]; exact Nat.mul_le_mul_right _ (by omega)
  have hlen' : (rows.take lo ++ new ++ rows.drop (lo + new.length)).length = rows.length := by simp; omega
  obtain ⟨E', h1, h2, h3, h4, h5, h6, h7, h8⟩ := rel_arr hr (rows' := rows.take lo ++ new ++ rows.drop (lo + new.length)) hb hal (lo * sz) news (by omega) (by omega) (fun r' hr' => by
      rcases List.mem_append.1 hr' with h | h
      · rcases List.mem_append.1 h with h | h
        · exact hrsz r' (List.mem_of_mem_take h)
        · exact hnsz r' h
      · exact hrsz r' (List.mem_of_mem_drop h)) vals hg (fun k r' j y hk hj => by
      have hlen1 : (rows.take lo ++ new).length = lo + new.length := by simp; omega
      rw [List.getElem?_append] at hk
      have old : ∀ q, rows[q]? = some r' → q = k → (k < lo ∨ lo + new.length ≤ k) → ∃ v, (setArr vals (lo * sz) news)[k * sz + j]? = some v ∧ v.oneCell' = true ∧ V w E y v := by
        intro q hq hqk hout
        subst hqk
        obtain ⟨v, hv1, hv2, hv3⟩ := hval q r' j y hq hj
        refine ⟨v, ?_, hv2, hv3⟩
        have hj' : j < sz := by rw [← hrsz r' (List.mem_of_getElem? hq)]; exact (List.getElem?_eq_some_iff.1 hj).1
        rw [setArr_get hfit2, if_neg]
        · exact hv1
        · rintro ⟨h3, h4⟩
          rw [hn, ← Nat.add_mul] at h4
          rcases hout with h | h
          · have := pair_lt (i := q) (j := j) (i' := lo) (j' := 0) (sz := sz) h hj'
            omega
          · have := Nat.mul_le_mul_right sz h
            omega
      split at hk
      · rename_i hk1
        rw [List.getElem?_append] at hk
        split at hk
        · rename_i hk2
          have hk3 : k < lo := by simp at hk2; omega
          rw [List.getElem?_take, if_pos hk3] at hk
          exact old k hk rfl (.inl hk3)
        · rename_i hk2
          have htl : (rows.take lo).length = lo := by simp; omega
          rw [htl] at hk hk2
          obtain ⟨v, hv1, hv2, hv3⟩ := hnv _ r' j y hk hj
          refine ⟨v, ?_, hv2, hv3⟩
          have hlt := (List.getElem?_eq_some_iff.1 hv1).1
          have e : k * sz + j = lo * sz + ((k - lo) * sz + j) := by
            rw [Nat.sub_mul]
            have : lo * sz ≤ k * sz := Nat.mul_le_mul_right _ (by omega)
            omega
          rw [setArr_get hfit2, if_pos (by omega)]
          rw [e, Nat.add_sub_cancel_left]; exact hv1
      · rename_i hk1
        rw [hlen1] at hk hk1
        rw [List.getElem?_drop] at hk
        exact old _ hk (by omega) (.inr (by omega))) hfit2
  exact ⟨E', h1, h2, h8⟩

theorem good_copyX (hr : Rel C E sto w) {t tx ty : TypeId} {d x : AVal} {dv xv : Value} (hd : V w E d dv) (hx : V w E x xv) {v : AVal} {ws : List (Nat × Blk)}
    (h : copyX C.P sto t tx d x = some (v, ws)) {r : Result Next} (hrun : r = (do pure (Next.value (← Builtin.copy_ #[t, tx] ty #[dv, xv])) : Sem Next).run C.P w) : OpGood C E sto w id r v ws := by
  unfold copyX at h
  split at h
  · rename_i e sx new he hnew
    split at h
    · rename_i b n lo len cap
      split at h
      · rename_i te sz rows hb
        split at h
        · rename_i hn
          split at h
          · rename_i hte
            split at h
            · rename_i hsz
              split at h
              · rename_i hsx
                split at h
                · rename_i hle
                  cases h
                  subst hte
                  have hu := elemT_some he
                  obtain ⟨hal, hlec, hv⟩ := hd.sub_inv
                  have hcur : E.cur b = some n := by rw [hr.cur, curOf_curB hb]; simp [curB, hn]
                  obtain ⟨a, c, rfl, ha, hlc, hln, hcc, hck⟩ := hv hcur
                  cases hr.blk b _ hb with
                  | arr _ _ _ vals hg hn' hE hsv hl hmx h0 hrsz hval =>
                    obtain ⟨i, hi, hisz, _⟩ := szOf_pos (by rw [← hsz]; exact h0 : 0 < szOf C.P te)
                    obtain ⟨⟨news, hsrc⟩, _⟩ := srcv_sound hr hx hnew (by rw [hisz, ← hsz]; exact h0 : 0 < i.size) (by rw [hisz]; exact hsx)
                    rw [hisz, ← hsz] at hsrc
                    have hmin : Nat.min new.length len = new.length := Nat.min_eq_left hle
                    have hf := hsrc.run w rfl
                    have hfit2 : lo * sz + news.length ≤ vals.size := by
                      rw [hsrc.n, hsv, ← Nat.add_mul]; exact Nat.mul_le_mul_right _ (by omega)
                    have hst := run_storeCells_at C.P (E.ι b) (lo * sz) te news 0 vals w hg (by simpa using hfit2) (hsrc.one h0)
                    simp only [Nat.add_zero] at hst
                    have hlen' : (rows.take lo ++ new ++ rows.drop (lo + new.length)).length = rows.length := by simp; omega
                    by_cases hz : new.length = 0
                    · have hnew0 : new = [] := List.eq_nil_of_length_eq_zero hz
                      subst hnew0
                      have hn0 : news = [] := List.eq_nil_of_length_eq_zero (by rw [hsrc.n]; simp)
                      subst hn0
                      have hB : wr1 sto b (.arr te sz (rows.take lo ++ [] ++ rows.drop (lo + ([] : List (List AVal)).length))) = sto := by
                        simp only [List.append_nil, List.length_nil, Nat.add_zero, List.take_append_drop]
                        have hblt := (List.getElem?_eq_some_iff.1 hb).1
                        simp only [wr1, hblt, if_true]
                        exact List.ext_getElem? fun k => by
                          rw [List.getElem?_set]
                          by_cases e : b = k
                          · subst e; rw [if_pos rfl, if_pos hblt, hb]
                          · rw [if_neg e]
                      refine ⟨.value (.int .i64 0), _, w, E, ?_, rfl, ?_, ?_, .pure (.int _ _), fun _ h => .inl h⟩
                      · rw [hrun]
                        have hl0 := hsrc.len w
                        have hf' : (Builtin.firstCells sz 0 xv).run C.P w = .ok #[] w := by simpa using hf
                        refine run_v ?_
                        simp [Builtin.copy_, run_underlying hu, hl0, run_sizeOf' hi, hisz, ← hsz, hf', storeCells, goInt]
                      · show Rel C E (wr1 sto b _) w
                        rw [hB]; exact hr
                      · show Step E sto w E (wr1 sto b _) w
                        rw [hB]; exact Step.refl _ _ _
                    · have ha' := ha (by omega)
                      subst ha'
                      obtain ⟨E', h1, h2, h8⟩ := arr_write (lo := lo) (new := new) hr hb hal hg hsv hl (by omega) hrsz hval hsrc.n hsrc.sz hsrc.val
                      refine ⟨.value (.int .i64 new.length), _, _, E', ?_, rfl, h1, h2, .pure (.int _ _), fun y hy => .inl (h8 y hy)⟩
                      rw [hrun]
                      have hl0 := hsrc.len w
                      refine run_v ?_
                      rw [hE] at *
                      simp [Builtin.copy_, run_underlying hu, hl0, run_sizeOf' hi, hisz, ← hsz, hmin, hf, hst, goInt, setArr]
                · cases h
              · cases h
            · cases h
          · cases h
        · cases h
      · cases h
    · rename_i b off sz len cap
      split at h
      · rename_i t0 cs hb
        split at h
        · rename_i hsz
          split at h
          · rename_i hpos
            split at h
            · rename_i hsx
              split at h
              · rename_i hle
                split at h
                · rename_i hfit
                  split at h
                  · rename_i hflat
                    cases h
                    have hu := elemT_some he
                    obtain ⟨hal, hcur, rfl, hlc⟩ := hd.csl_inv
                    obtain ⟨i, hi, hisz, _⟩ := szOf_pos (by rw [← hsz]; exact hpos : 0 < szOf C.P e)
                    obtain ⟨⟨news, hsrc⟩, _⟩ := srcv_sound hr hx hnew (by rw [hisz, ← hsz]; exact hpos : 0 < i.size) (by rw [hisz]; exact hsx)
                    rw [hisz, ← hsz] at hsrc
                    have hmin : Nat.min new.length len = new.length := Nat.min_eq_left hle
                    have hf := hsrc.run w rfl
                    cases hr.blk b _ hb with
                    | cells _ _ cur hg hn' hs hv =>
                      have hlive : live sto b := live_iff.2 ⟨_, hb, rfl⟩
                      have hblt := live_lt hlive
                      have hvfit : off + news.length ≤ cur.size := by rw [hsrc.n, hs]; exact hfit
                      have hcfit : off + new.flatten.length ≤ cs.length := by rw [hflat]; exact hfit
                      have hst := run_storeCells_at C.P (E.ι b) off t0 news 0 cur w hg (by simpa using hvfit) (hsrc.one hpos)
                      simp only [Nat.add_zero] at hst
                      have hsize : (w.setRow (E.ι b) (setArr cur off news)).heap.size = w.heap.size := size_setRow _ _ _
                      have hother : ∀ k, k < w.heap.size → (live sto b → E.ι b ≠ k) → (w.setRow (E.ι b) (setArr cur off news)).heap[k]? = w.heap[k]? := fun k hk hne => setRow_other w _ k _ (fun e => hne hlive e.symm)
                      have hal' : (E.al b ∧ (E.cur b = none → curB (.cells t0 (setAt cs off new.flatten)) = none ∧ E.ι b = E.ι b) ∧ (∀ m, E.cur b = some m → ∃ m', curB (.cells t0 (setAt cs off new.flatten)) = some m' ∧ m ≤ m' ∧ E.sz b = E.sz b ∧ (m' = m → E.ι b = E.ι b ∧ E.cap b = E.cap b ∧ E.hd b = E.hd b))) ∨ (¬ E.al b ∧ b ≤ sto.length) :=
                        .inl ⟨hal, fun _ => ⟨rfl, rfl⟩, fun m hm => by (rw [hcur] at hm; cases hm)⟩
                      have hstp := step_upd hr b (.cells t0 (setAt cs off new.flatten)) (E.ι b) (E.cap b) (E.sz b) (E.hd b) (Nat.le_of_lt hblt) (w' := w.setRow (E.ι b) (setArr cur off news)) rfl rfl rfl (Nat.le_of_eq hsize.symm) hother (fun _ => .inl ⟨hlive, rfl⟩) hal'
                      have hrel := rel_upd hr b (.cells t0 (setAt cs off new.flatten)) (E.ι b) (E.cap b) (E.sz b) (E.hd b) (Nat.le_of_lt hblt) (w' := w.setRow (E.ι b) (setArr cur off news)) rfl rfl rfl (Nat.le_of_eq hsize.symm) hother (fun _ => .inl ⟨hlive, rfl⟩) hal'
                        (.cells t0 (setAt cs off new.flatten) (setArr cur off news) (by rw [env_set_new.1]; exact setRow_heap w _ cur _ _ _ hg) (by rw [env_set_new.1]; exact hn')
                          (by rw [setArr_size hvfit, setAt_length hcfit]; exact hs)
                          (fun k y v hy hv' => by
                            rw [setAt_get hcfit] at hy
                            rw [setArr_get hvfit, hsrc.n, ← hflat] at hv'
                            split at hy
                            · rename_i hk
                              rw [if_pos hk] at hv'
                              obtain ⟨i', r', j', q1, q2, q3⟩ := flat_get new hsrc.sz _ y hy
                              obtain ⟨v2, q4, _, q5⟩ := hsrc.val i' r' j' y q1 q2
                              rw [← q3, hv'] at q4
                              cases q4
                              exact q5.step hr hstp
                            · rename_i hk
                              rw [if_neg hk] at hv'
                              exact (hv _ y v hy hv').step hr hstp))
                      refine ⟨.value (.int .i64 new.length), _, _, _, ?_, rfl, hrel.1, hrel.2, .pure (.int _ _), fun y hy => ?_⟩
                      · rw [hrun]
                        have hl0 := hsrc.len w
                        refine run_v ?_
                        simp [Builtin.copy_, run_underlying hu, hl0, run_sizeOf' hi, hisz, ← hsz, hmin, hf, hst, goInt, setArr]
                      · rcases hy with rfl | hy
                        · exact .inl hal
                        · exact .inl hy
                  · cases h
                · cases h
              · cases h
            · cases h
          · cases h
        · cases h
      · cases h
    · cases h
  · cases h

theorem good_makeX (hr : Rel C E sto w) (hid : ¬ E.al id) (hid2 : id ≤ sto.length) {t : TypeId} {l c : AVal} {lv cv : Value} (hl : V w E l lv) (hc : V w E c cv) {v : AVal} {ws : List (Nat × Blk)} (h : makeX C.P id t l c = some (v, ws)) {r : Result Next}
    (hrun : r = (do pure (Next.value (← Instr.makeSlice t lv cv)) : Sem Next).run C.P w) : OpGood C E sto w id r v ws := by
  unfold makeX at h
  split at h
  · rename_i e kl l kc c he
    split at h
    · rename_i h0
      split at h
      · rename_i hlc
        split at h
        · rename_i h63
          split at h
          · rename_i hsz
            split at h
            · rename_i hby
              obtain ⟨i, hi, hisz, hiby⟩ := szOf_pos hsz
              cases hzz : zeroT C.P e with
              | none => rw [hzz] at h; simp at h
              | some zs =>
                rw [hzz] at h
                simp only [Option.bind_some] at h
                split at h
                · rename_i hzl
                  split at h
                  rotate_left
                  · cases h
                  rename_i hcell
                  cases h
                  obtain ⟨i', z, hi', hz, rfl⟩ := zeroT_some hzz
                  rw [hi] at hi'; cases hi'
                  rw [hl.int_inv, hc.int_inv] at hrun
                  have hb2 : (i.bytes : Int) * c ≤ 281474976710656 := by
                    have h1 : ((c.toNat * byOf C.P e : Nat) : Int) ≤ 281474976710656 := by
                      have : maxRoom = 140737488355328 := rfl
                      omega
                    rw [Int.natCast_mul, Int.toNat_of_nonneg (by omega), Int.mul_comm] at h1
                    rw [hiby]; exact h1
                  have hrm := run_make (P := C.P) w t e i z (elemT_some he) hi hz kl kc l c h0 hlc hb2 h63
                  have hvl : VL w E (ofVal z).cells z.cells := VL.zero
                  have hflat := flat_made (len := c.toNat) hvl hzl hsz
                  have hcm : c.toNat ≤ maxLen := by simp only [maxLen]; omega
                  have hrl : (List.replicate l.toNat (ofVal z).cells).length = l.toNat := by simp
                  have hpv : ∀ (x : AVal), x ∈ (ofVal z).cells → cellish x = true ∧ noref x = true := fun x hx => by
                    have := List.all_eq_true.1 hcell x hx; simpa using this
                  have := good_arr hr (b := id) (t := e) (sz := szOf C.P e) (rows := List.replicate l.toNat (ofVal z).cells) (cap := some c.toNat) (c := c.toNat) (vals := madeCells z.cells (c.toNat * i.size)) (r := r) (id := id)
                    (w' := w.alloc (.cells (madeCells z.cells (c.toNat * i.size)) e)) hid2 (.inl ⟨hid, rfl⟩) hsz (by rw [size_madeCells, hisz]) (by simp; omega) hcm (fun k hk => by cases hk; rfl)
                    (fun r hr => by rw [List.eq_of_mem_replicate hr]; exact hzl)
                    (fun k r j x hk hj => by
                      have hk' := (List.getElem?_eq_some_iff.1 hk).1
                      simp only [List.length_replicate] at hk'
                      rw [List.getElem?_replicate, if_pos hk'] at hk
                      cases hk
                      have hj' : j < szOf C.P e := by rw [← hzl]; exact (List.getElem?_eq_some_iff.1 hj).1
                      have hlt : k * szOf C.P e + j < (madeCells z.cells (c.toNat * i.size)).size := by
                        rw [size_madeCells, hisz]
                        have := pair_lt (i := k) (j := j) (i' := k + 1) (j' := 0) (sz := szOf C.P e) (Nat.lt_succ_self _) hj'
                        have h2 : (k + 1) * szOf C.P e ≤ c.toNat * szOf C.P e := Nat.mul_le_mul_right _ (by omega)
                        omega
                      have hvv : V w E x (madeCells z.cells (c.toNat * i.size))[k * szOf C.P e + j] := by
                        refine hflat.2.2 k (ofVal z).cells j x _ (by rw [List.getElem?_replicate, if_pos (by omega)]) hj ?_
                        rw [← Array.getElem?_eq_getElem hlt, hisz]; rfl
                      have hpx := hpv x (List.mem_of_getElem? hj)
                      exact ⟨_, Array.getElem?_eq_getElem hlt, cellish_one hpx.1 (hvv.pv hpx.2), hvv⟩)
                    rfl rfl rfl rfl (by rw [hrun, hrl]; exact run_v hrm)
                  rw [hrl] at this
                  exact this
                · cases h
            · cases h
          · cases h
        · cases h
      · cases h
    · cases h
  · cases h

theorem good_clearX (hr : Rel C E sto w) {t ty : TypeId} {d : AVal} {dv : Value} (hd : V w E d dv) {ws : List (Nat × Blk)} (h : clearX C.P sto t d = some ws) {r : Result Next}
    (hrun : r = (do pure (Next.value (← Builtin.clear_ #[t] ty #[dv])) : Sem Next).run C.P w) : OpGood C E sto w id r (.tup []) ws := by
  unfold clearX at h
  split at h
  · rename_i b n lo len cap
    split at h
    · rename_i te sz rows hb
      split at h
      · rename_i e he
        split at h
        · rename_i hn
          split at h
          · rename_i hte
            split at h
            · rename_i hsz
              split at h
              · rename_i hl0
                obtain ⟨zs, hzz, h⟩ := Option.bind_eq_some_iff.1 h
                split at h
                · rename_i hzl
                  split at h
                  · rename_i hcell
                    cases h
                    subst hte
                    obtain ⟨i, z, hi, hz, rfl⟩ := zeroT_some hzz
                    have hu := elemT_some he
                    obtain ⟨hal, hlec, hv⟩ := hd.sub_inv
                    obtain ⟨a, c, rfl, ha, hlc, hln, hcc, hck⟩ := hv (by rw [hr.cur, curOf_curB hb]; simp [curB, hn])
                    cases hr.blk b _ hb with
                    | arr _ _ _ vals hg hn' hE hsv hl hmx h0 hrsz hval =>
                      have hvl : VL w E (ofVal z).cells z.cells := VL.zero
                      have hzs : z.cells.size = sz := by rw [hvl.1, hzl]
                      have hpv : ∀ (x : AVal), x ∈ (ofVal z).cells → cellish x = true ∧ noref x = true := fun x hx => by
                        have := List.all_eq_true.1 hcell x hx; simpa using this
                      have hnl : (Builtin.zeroCells z.cells len).toList.length = (List.replicate len (ofVal z).cells).length * sz := by simp [Builtin.zeroCells, hzs]
                      have hget : ∀ (i j : Nat) (x : AVal), i < len → (ofVal z).cells[j]? = some x → ∃ v, (Builtin.zeroCells z.cells len).toList[i * sz + j]? = some v ∧ v.oneCell' = true ∧ V w E x v := by
                        intro i j x hi hj
                        have hj' : j < sz := by rw [← hzl]; exact (List.getElem?_eq_some_iff.1 hj).1
                        have hlt : i * sz + j < len * sz := by
                          have := pair_lt (i := i) (j := j) (i' := i + 1) (j' := 0) (sz := sz) (Nat.lt_succ_self _) hj'
                          have h2 : (i + 1) * sz ≤ len * sz := Nat.mul_le_mul_right _ hi
                          omega
                        have hx := hvl.2 j x _ hj (Array.getElem?_eq_getElem (by rw [hzs]; exact hj'))
                        have hpx := hpv x (List.mem_of_getElem? hj)
                        refine ⟨z.cells[j]'(by rw [hzs]; exact hj'), ?_, cellish_one hpx.1 (hx.pv hpx.2), hx⟩
                        have hmod : (i * sz + j) % z.cells.size = j := by rw [hzs, Nat.mul_comm, Nat.mul_add_mod, Nat.mod_eq_of_lt hj']
                        simp only [Builtin.zeroCells, Array.toList_map, List.getElem?_map, Array.getElem?_toList]
                        rw [Array.getElem?_range, if_pos (by rw [hzs]; exact hlt)]
                        simp only [Option.map_some, hmod]
                        rw [getElem!_pos z.cells j (by rw [hzs]; exact hj')]
                      have hlr : (List.replicate len (ofVal z).cells).length = len := List.length_replicate
                      have hnv : ∀ (i : Nat) r (j : Nat) x, (List.replicate len (ofVal z).cells)[i]? = some r → r[j]? = some x → ∃ v, (Builtin.zeroCells z.cells len).toList[i * sz + j]? = some v ∧ v.oneCell' = true ∧ V w E x v := by
                        intro i r j x hi hj
                        have hi' := (List.getElem?_eq_some_iff.1 hi).1
                        rw [hlr] at hi'
                        rw [List.getElem?_replicate, if_pos hi'] at hi
                        cases hi
                        exact hget i j x hi' hj
                      obtain ⟨E', h1, h2, h8⟩ := arr_write (lo := lo) (new := List.replicate len (ofVal z).cells) hr hb hal hg hsv hl (by rw [hlr]; omega) hrsz hval hnl (fun r hr => by rw [List.eq_of_mem_replicate hr]; exact hzl) hnv
                      rw [hlr] at h1 h2
                      have ha' := ha (by omega)
                      subst ha'
                      have hone : ∀ u ∈ (Builtin.zeroCells z.cells len).toList, u.oneCell' = true := by
                        intro u hu
                        obtain ⟨k, hk⟩ := List.mem_iff_getElem?.1 hu
                        have hlt := (List.getElem?_eq_some_iff.1 hk).1
                        rw [hnl, hlr] at hlt
                        have hj : k % sz < (ofVal z).cells.length := by rw [hzl]; exact Nat.mod_lt _ h0
                        obtain ⟨v, hv1, hv2, _⟩ := hget (k / sz) (k % sz) _ (Nat.div_lt_of_lt_mul (by rw [Nat.mul_comm]; exact hlt)) (List.getElem?_eq_getElem hj)
                        rw [Nat.mul_comm, Nat.div_add_mod, hk] at hv1
                        cases hv1
                        exact hv2
                      have hfit2 : lo * sz + (Builtin.zeroCells z.cells len).toList.length ≤ vals.size := by
                        rw [hnl, hlr, hsv, ← Nat.add_mul]; exact Nat.mul_le_mul_right _ (by omega)
                      have hst := run_storeCells_at C.P (E.ι b) (lo * sz) te (Builtin.zeroCells z.cells len).toList 0 vals w hg (by simpa using hfit2) hone
                      simp only [Nat.add_zero] at hst
                      refine ⟨.value (.tuple #[]), _, _, E', ?_, rfl, h1, h2, .pure (.tup [] #[] rfl (by simp)), fun y hy => .inl (h8 y hy)⟩
                      rw [hrun]
                      refine run_v ?_
                      rw [hE] at *
                      have hlen0 : ∃ m, len = m + 1 := ⟨len - 1, by omega⟩
                      obtain ⟨m, rfl⟩ := hlen0
                      simp [Builtin.clear_, run_underlying hu, run_zero hi hz, hst, setArr]
                  · cases h
                · cases h
              · cases h
            · cases h
          · cases h
        · cases h
      · cases h
    · cases h
  · cases h

end
end Go.Proofs.YtaajfbcopafkaaaGreatDoor.Ai
