/- Object identifiers that another list does not have: a map whose keys are object identifiers. Own work of this seat. -/
import Derived.Test.YtepnbdacekkapaaGreatDoorMem37
namespace Go.Proofs.YtepnbdacekkapaaGreatDoor.Ai
open Go
set_option linter.unusedSimpArgs false
set_option linter.unusedVariables false
set_option maxHeartbeats 4000000
set_option maxRecDepth 100000
/-! A map of object identifiers to true. -/
def entO (p : Od × Nat) : AVal × AVal × Nat := (.agg (oidRow p.1), .bool true, p.2)
def IsSet (es : List (AVal × AVal × Nat)) (l : List Od) : Prop := ∃ L : List (Od × Nat), es = L.map entO ∧ ∀ o, (L.any fun p => isO o p.1) = l.any (isO o)
theorem hushE_ent (L : List (Od × Nat)) : hushE (L.map entO) = L.map entO := by
  simp only [hushE, List.map_map]
  refine List.map_congr_left fun p _ => ?_
  simp only [Function.comp_apply, entO]
  rw [hush_eq (x := .agg (oidRow p.1)) rfl, hush_eq (x := .bool true) rfl]
theorem leaves_oid : leavesT Tryz.prog 8 73 = some [.i, .i, .i, .i, .i, .i, .i, .i, .i, .i, .i, .i, .i, .i, .i, .i, .i] := lv73
theorem eqL_oid (x y : Od) : eqL [.i, .i, .i, .i, .i, .i, .i, .i, .i, .i, .i, .i, .i, .i, .i, .i, .i] (oidRow x) (oidRow y) = some (isO x y) := by
  have h := od_dec x y
  unfold isO
  rw [← h]
  simp only [eqL, oidRow, if_true]
theorem findX_set (k : Od) : ∀ (L : List (Od × Nat)) (i : Nat),
    (findX Tryz.prog 73 (oidRow k) (L.map entO) i = some none ∧ (L.any fun p => isO k p.1) = false) ∨
    (∃ j n, findX Tryz.prog 73 (oidRow k) (L.map entO) i = some (some (i + j, .bool true, n)) ∧ (L.any fun p => isO k p.1) = true ∧ L[j]? = some (k, n)) := by
  intro L
  induction L with
  | nil => intro i; exact .inl ⟨rfl, rfl⟩
  | cons p L ih =>
    intro i
    obtain ⟨o, n⟩ := p
    simp only [List.map_cons, entO, findX, leaves_oid, Option.bind_some, eqL_oid, List.any_cons]
    by_cases h : k = o
    · have hi : isO k o = true := decide_eq_true h
      rw [hi]
      exact .inr ⟨0, n, rfl, rfl, by simp [h]⟩
    · have hi : isO k o = false := decide_eq_false h
      rw [hi]
      rcases ih (i + 1) with ⟨h1, h2⟩ | ⟨j, m, h1, h2, h3⟩
      · exact .inl ⟨h1, by simpa using h2⟩
      · exact .inr ⟨j + 1, m, by rw [← Nat.add_assoc, Nat.add_right_comm]; exact h1, by simpa using h2, by simpa using h3⟩
theorem mapT_set : mapT Tryz.prog 180 = some (73, 4) := by kernel_rfl
theorem zero_set : zeroV Tryz.prog 4 = some (.bool false) := by kernel_rfl
theorem keyK_oid (k : Od) : keyK Tryz.prog 73 (.agg (oidRow k)) = true := by
  have h : lay Tryz.prog 73 = some (true, 17) := tyok73.lay
  simp only [keyK, keyOK, h, leaves_oid]; rfl
theorem look_set {X : Sx} (hX : X.C.P = Tryz.prog) {es : List (AVal × AVal × Nat)} {l : List Od} (hs : IsSet es l) (k : Od) : lookE X.C.P 180 (hushE es) (.agg (oidRow k)) false = some (.bool (l.any (isO k))) := by
  obtain ⟨L, rfl, hL⟩ := hs
  rw [hX, hushE_ent, ← hL k]
  unfold lookE
  simp only [mapT_set, keyK_oid, if_true, findK]
  rcases findX_set k L 0 with ⟨h1, h2⟩ | ⟨j, n, h1, h2, _⟩
  · rw [h1, h2]; simp only [Option.bind_some, zero_set, Option.map_some, Bool.false_eq_true, if_false]
  · rw [h1, h2]; simp only [Option.bind_some, Bool.false_eq_true, if_false]
theorem upd_set {X : Sx} (hX : X.C.P = Tryz.prog) {es : List (AVal × AVal × Nat)} {l : List Od} (hs : IsSet es l) (c : Nat) (k : Od) : ∃ es' c', updE X.C.P 180 (hushE es) c (.agg (oidRow k)) (.bool true) = some (hushE es', c') ∧ IsSet es' (l ++ [k]) := by
  obtain ⟨L, rfl, hL⟩ := hs
  rw [hX, hushE_ent]
  unfold updE
  simp only [mapT_set, keyK_oid, if_true, findK]
  rcases findX_set k L 0 with ⟨h1, h2⟩ | ⟨j, n, h1, h2, h3⟩
  · refine ⟨(L ++ [(k, c)]).map entO, c + 1, ?_, L ++ [(k, c)], rfl, fun o => ?_⟩
    · rw [h1, hushE_ent]; simp only [Option.map_some, List.map_append, List.map_cons, List.map_nil, entO]
    · simp only [List.any_append, List.any_cons, List.any_nil, Bool.or_false, hL o]
  · refine ⟨L.map entO, c, ?_, L, rfl, fun o => ?_⟩
    · rw [h1, hushE_ent]
      simp only [Option.map_some, Option.some.injEq, Prod.mk.injEq, and_true, Nat.zero_add]
      refine List.ext_getElem? fun i => ?_
      rw [List.getElem?_set]
      split
      · rename_i e
        subst e
        rw [List.getElem?_map, h3]
        split
        · rfl
        · rename_i hlt
          rw [List.length_map] at hlt
          exact absurd (List.getElem?_eq_some_iff.1 h3).1 hlt
      · rfl
    · rw [List.any_append, hL o]
      simp only [List.any_cons, List.any_nil, Bool.or_false]
      by_cases e : o = k
      · subst e
        have : l.any (isO o) = true := by rw [← hL o]; exact h2
        rw [this]; rfl
      · have : isO o k = false := decide_eq_false e
        rw [this, Bool.or_false]
theorem lookS_in {es : List (AVal × AVal × Nat)} {l : List Od} {k : Od} {K : AVal → Prop} (hs : IsSet es l) (hk : Run (K (.bool (l.any (isO k))))) : HLookM Sx0 180 es (.agg [.int .u8 k.n, .int .u32 k.a0, .int .u32 k.a1, .int .u32 k.a2, .int .u32 k.a3, .int .u32 k.a4, .int .u32 k.a5, .int .u32 k.a6, .int .u32 k.a7, .int .u32 k.a8, .int .u32 k.a9, .int .u32 k.a10, .int .u32 k.a11, .int .u32 k.a12, .int .u32 k.a13, .int .u32 k.a14, .int .u32 k.a15]) false K := lookm_in (look_set rfl hs k) hk
theorem updS_in {es : List (AVal × AVal × Nat)} {l : List Od} {c : Nat} {k : Od} {K : List (AVal × AVal × Nat) → Nat → Prop} (hs : IsSet es l) (hk : ∀ es' c', IsSet es' (l ++ [k]) → Run (K es' c')) : HUpdM Sx0 180 es c (.agg [.int .u8 k.n, .int .u32 k.a0, .int .u32 k.a1, .int .u32 k.a2, .int .u32 k.a3, .int .u32 k.a4, .int .u32 k.a5, .int .u32 k.a6, .int .u32 k.a7, .int .u32 k.a8, .int .u32 k.a9, .int .u32 k.a10, .int .u32 k.a11, .int .u32 k.a12, .int .u32 k.a13, .int .u32 k.a14, .int .u32 k.a15]) (.bool true) K := by
  obtain ⟨es', c', h1, h2⟩ := upd_set (X := Sx0) rfl hs c k
  exact updm_in h1 (hk es' c' h2)
theorem take_next {α : Type} [Inhabited α] {l : List α} {k : Nat} (h : k < l.length) : l.take (k + 1) = l.take k ++ [nth l k] := by rw [List.take_add_one, nth_some h]; rfl
theorem clipO_call (l : List Od) (cap : Option Nat) : CallF Cx 97 [.slc 17 (l.map oidRow) cap] [] (.slc 17 (l.map oidRow) (some l.length)) [] := by
  refine sy_call (X := Sx0) (fun _ => false) [] [] (fn := Tryz.f97) Tryz.func97 rfl (by decide) rfl rfl ?_
  repeat' (first | ((refine run ?_); conv => whnf) | with_reducible refine split_nt (by assumption) ?_ | with_reducible refine split_nf (by assumption) ?_ | with_reducible refine split_ht (by assumption) ?_ | with_reducible refine split_hf (by assumption) ?_ | ((first | with_reducible refine split_neg (fun hc => ?_) (fun hc => ?_) | refine split (fun hc => ?_) (fun hc => ?_)) <;> (try simp only [bsl, true_implies, false_implies, Int.reduceEq, Int.reduceLT, Int.reduceLE, Nat.reduceLT, Nat.reduceEqDiff] at hc) <;> (try (exfalso; omega)) <;> (try exact (bool_tf hc (by assumption)).elim) <;> (try exact (bool_ft hc (by assumption)).elim)) | refine fact_in (fun hby => ?_) | refine un_rfl ?_ | refine stp ?_ | exact obs | with_reducible refine And.intro ?_ ?_ | refine nrm ?_ | apply row_eq | (apply cut_end <;> first | ((refine run ?_); conv => whnf) | exact obs) | (apply cut_drop <;> first | ((refine run ?_); conv => whnf) | exact obs) | (apply cuts_end <;> first | ((refine run ?_); conv => whnf) | exact obs) | (apply cuts_drop <;> first | ((refine run ?_); conv => whnf) | exact obs) | (apply wrap_in <;> first | ((refine run ?_); conv => whnf) | exact obs | exact eqs) | refine stq ?_ | (apply callP_skip <;> first | ((refine run ?_); conv => whnf) | assumption | (simp only [bsl, *]; done) | (simp [*]; done)) | ((refine open_in ?_ ?_) <;> first | ((refine run ?_); conv => whnf) | kernel_rfl) | exact eqs | (intro _; rfl))
  refine ret_eq ?_ (by rfl); simp
instance {l : List Od} {cap : Option Nat} : Con Sx0 97 [.slc 17 (l.map oidRow) cap] True (.slc 17 (l.map oidRow) (some l.length)) := con0 (clipO_call l cap)
noncomputable def minusO (a b : List Od) : List Od := a.filter fun x => !b.any (isO x)
theorem minusO_nil (b : List Od) : minusO [] b = [] := rfl
theorem minusO_t {a b : List Od} {k : Nat} (h : k < a.length) (hc : b.any (isO (nth a k)) = true) : minusO (a.take (k + 1)) b = minusO (a.take k) b := by
  rw [take_next h, minusO, List.filter_append]; simp [hc]; rfl
theorem minusO_f {a b : List Od} {k : Nat} (h : k < a.length) (hc : b.any (isO (nth a k)) = false) : minusO (a.take (k + 1)) b = minusO (a.take k) b ++ [nth a k] := by
  rw [take_next h, minusO, List.filter_append]; simp [hc]; rfl
theorem minusO_len (a b : List Od) (k : Nat) : (minusO (a.take k) b).length ≤ k := Nat.le_trans (List.length_filter_le _ _) (by rw [List.length_take]; exact Nat.min_le_left _ _)
theorem without_call (a : List Od) (c : Option Nat) (b : List Od) (d : Option Nat) (ha : a.length ≤ 1000) (hb : b.length ≤ 1000) : CallF Cx 60 [oids a c, oids b d] [] (oids (minusO a b) (some (minusO a b).length)) [] := by
  refine sy_call (X := Sx0) (fun _ => false) [] [(8, 73, 17)] (fn := Tryz.f60) Tryz.func60 rfl (by decide) rfl rfl ?_
  repeat' (first | ((refine run ?_); conv => whnf) | with_reducible refine split_nt (by assumption) ?_ | with_reducible refine split_nf (by assumption) ?_ | with_reducible refine split_ht (by assumption) ?_ | with_reducible refine split_hf (by assumption) ?_ | ((first | with_reducible refine split_neg (fun hc => ?_) (fun hc => ?_) | refine split (fun hc => ?_) (fun hc => ?_)) <;> (try simp only [bsl, true_implies, false_implies, Int.reduceEq, Int.reduceLT, Int.reduceLE, Nat.reduceLT, Nat.reduceEqDiff] at hc) <;> (try (exfalso; omega)) <;> (try exact (bool_tf hc (by assumption)).elim) <;> (try exact (bool_ft hc (by assumption)).elim)) | refine mkm_in (by kernel_rfl) ?_ | refine fact_in (fun hby => ?_) | refine un_rfl ?_ | refine stp ?_ | exact obs | with_reducible refine And.intro ?_ ?_ | refine nrm ?_ | apply row_eq | (apply cut_end <;> first | ((refine run ?_); conv => whnf) | exact obs) | (apply cut_drop <;> first | ((refine run ?_); conv => whnf) | exact obs) | (apply cuts_end <;> first | ((refine run ?_); conv => whnf) | exact obs) | (apply cuts_drop <;> first | ((refine run ?_); conv => whnf) | exact obs) | (apply wrap_in <;> first | ((refine run ?_); conv => whnf) | exact obs | exact eqs) | refine stq ?_ | (apply callP_skip <;> first | ((refine run ?_); conv => whnf) | assumption | (simp only [bsl, *]; done) | (simp [*]; done)) | ((refine open_in ?_ ?_) <;> first | ((refine run ?_); conv => whnf) | kernel_rfl) | exact eqs | (intro _; rfl))
  refine loop_rule (α := Nat × List (AVal × AVal × Nat) × Nat) [16] 1 (fun x => [.int .i64 x.1]) (fun x => [.map x.2.1 x.2.2]) (fun x => x.1 ≤ b.length ∧ IsSet x.2.1 (b.take x.1)) (fun x => b.length - x.1) ((0, [], 0)) (fun _ => rfl) (by decide) ?_
  ((refine run ?_); conv => whnf)
  refine goal_in ⟨?_, fit_eq ?_, sto_take (n := 1) (Nat.le_of_ble_eq_true rfl) ?_⟩ (fun x hinv => ?_)
  · exact ⟨Nat.zero_le _, [], rfl, fun _ => rfl⟩
  · rfl
  · rfl
  obtain ⟨k, es, clk⟩ := x
  obtain ⟨hk, hs⟩ := hinv
  dsimp only at hk hs
  by_cases hlt : k < b.length
  · repeat' (first | ((refine run ?_); conv => whnf) | with_reducible refine split_nt (by assumption) ?_ | with_reducible refine split_nf (by assumption) ?_ | with_reducible refine split_ht (by assumption) ?_ | with_reducible refine split_hf (by assumption) ?_ | ((first | with_reducible refine split_neg (fun hc => ?_) (fun hc => ?_) | refine split (fun hc => ?_) (fun hc => ?_)) <;> (try simp only [bsl, true_implies, false_implies, Int.reduceEq, Int.reduceLT, Int.reduceLE, Nat.reduceLT, Nat.reduceEqDiff] at hc) <;> (try (exfalso; omega)) <;> (try exact (bool_tf hc (by assumption)).elim) <;> (try exact (bool_ft hc (by assumption)).elim)) | refine updS_in hs (fun es' c' hs' => ?_) | refine fact_in (fun hby => ?_) | refine un_rfl ?_ | refine stp ?_ | exact obs | with_reducible refine And.intro ?_ ?_ | refine nrm ?_ | apply row_eq | (apply cut_end <;> first | ((refine run ?_); conv => whnf) | exact obs) | (apply cut_drop <;> first | ((refine run ?_); conv => whnf) | exact obs) | (apply cuts_end <;> first | ((refine run ?_); conv => whnf) | exact obs) | (apply cuts_drop <;> first | ((refine run ?_); conv => whnf) | exact obs) | (apply wrap_in <;> first | ((refine run ?_); conv => whnf) | exact obs | exact eqs) | refine stq ?_ | (apply callP_skip <;> first | ((refine run ?_); conv => whnf) | assumption | (simp only [bsl, *]; done) | (simp [*]; done)) | ((refine open_in ?_ ?_) <;> first | ((refine run ?_); conv => whnf) | kernel_rfl) | exact eqs | (intro _; rfl))
    refine meet_eq ((k + 1, es', c')) ?_ ?_ (Nat.le_of_ble_eq_true rfl) ?_
    · exact ⟨⟨by dsimp only; omega, by dsimp only; rw [take_next hlt]; exact hs'⟩, by dsimp only; omega⟩
    · rfl
    · rfl
  · have hkb : b.take k = b := List.take_of_length_le (by omega)
    rw [hkb] at hs
    repeat' (first | ((refine run ?_); conv => whnf) | with_reducible refine split_nt (by assumption) ?_ | with_reducible refine split_nf (by assumption) ?_ | with_reducible refine split_ht (by assumption) ?_ | with_reducible refine split_hf (by assumption) ?_ | ((first | with_reducible refine split_neg (fun hc => ?_) (fun hc => ?_) | refine split (fun hc => ?_) (fun hc => ?_)) <;> (try simp only [bsl, true_implies, false_implies, Int.reduceEq, Int.reduceLT, Int.reduceLE, Nat.reduceLT, Nat.reduceEqDiff] at hc) <;> (try (exfalso; omega)) <;> (try exact (bool_tf hc (by assumption)).elim) <;> (try exact (bool_ft hc (by assumption)).elim)) | refine fact_in (fun hby => ?_) | refine un_rfl ?_ | refine stp ?_ | exact obs | with_reducible refine And.intro ?_ ?_ | refine nrm ?_ | apply row_eq | (apply cut_end <;> first | ((refine run ?_); conv => whnf) | exact obs) | (apply cut_drop <;> first | ((refine run ?_); conv => whnf) | exact obs) | (apply cuts_end <;> first | ((refine run ?_); conv => whnf) | exact obs) | (apply cuts_drop <;> first | ((refine run ?_); conv => whnf) | exact obs) | (apply wrap_in <;> first | ((refine run ?_); conv => whnf) | exact obs | exact eqs) | refine stq ?_ | (apply callP_skip <;> first | ((refine run ?_); conv => whnf) | assumption | (simp only [bsl, *]; done) | (simp [*]; done)) | ((refine open_in ?_ ?_) <;> first | ((refine run ?_); conv => whnf) | kernel_rfl) | exact eqs | (intro _; rfl))
    refine loop_rule (α := Nat) [8, 25] 2 (fun j => [.bsl 1 (minusO (a.take j) b).length, .int .i64 j]) (fun j => [.map es clk, .mk 73 17 ((minusO (a.take j) b).map oidRow)]) (fun j => j ≤ a.length) (fun j => a.length - j) (0) (fun _ => rfl) (by decide) ?_
    ((refine run ?_); conv => whnf)
    refine goal_in ⟨?_, fit_eq ?_, sto_take (n := 2) (Nat.le_of_ble_eq_true rfl) ?_⟩ (fun j hinv => ?_)
    · exact Nat.zero_le _
    · rfl
    · rfl
    have hm := minusO_len a b j
    by_cases hlj : j < a.length
    · repeat' (first | ((refine run ?_); conv => whnf) | with_reducible refine split_nt (by assumption) ?_ | with_reducible refine split_nf (by assumption) ?_ | with_reducible refine split_ht (by assumption) ?_ | with_reducible refine split_hf (by assumption) ?_ | ((first | with_reducible refine split_neg (fun hc => ?_) (fun hc => ?_) | refine split (fun hc => ?_) (fun hc => ?_)) <;> (try simp only [bsl, true_implies, false_implies, Int.reduceEq, Int.reduceLT, Int.reduceLE, Nat.reduceLT, Nat.reduceEqDiff] at hc) <;> (try (exfalso; omega)) <;> (try exact (bool_tf hc (by assumption)).elim) <;> (try exact (bool_ft hc (by assumption)).elim)) | refine lookS_in hs ?_ | refine fact_in (fun hby => ?_) | refine un_rfl ?_ | refine stp ?_ | exact obs | with_reducible refine And.intro ?_ ?_ | refine nrm ?_ | apply row_eq | (apply cut_end <;> first | ((refine run ?_); conv => whnf) | exact obs) | (apply cut_drop <;> first | ((refine run ?_); conv => whnf) | exact obs) | (apply cuts_end <;> first | ((refine run ?_); conv => whnf) | exact obs) | (apply cuts_drop <;> first | ((refine run ?_); conv => whnf) | exact obs) | (apply wrap_in <;> first | ((refine run ?_); conv => whnf) | exact obs | exact eqs) | refine stq ?_ | (apply callP_skip <;> first | ((refine run ?_); conv => whnf) | assumption | (simp only [bsl, *]; done) | (simp [*]; done)) | ((refine open_in ?_ ?_) <;> first | ((refine run ?_); conv => whnf) | kernel_rfl) | exact eqs | (intro _; rfl))
      · have e := minusO_f hlj hc
        have e1 : (minusO (a.take (j + 1)) b).length = (minusO (a.take j) b).length + 1 := by rw [e]; simp
        refine meet_eq (j + 1) ?_ ?_ (Nat.le_of_ble_eq_true rfl) ?_
        · exact ⟨by dsimp only; omega, by dsimp only; omega⟩
        · rw [e1]; rfl
        · rw [e, List.map_append]; rfl
      · have e := minusO_t hlj hc
        refine meet_eq (j + 1) ?_ ?_ (Nat.le_of_ble_eq_true rfl) ?_
        · exact ⟨by dsimp only; omega, by dsimp only; omega⟩
        · rw [e]; rfl
        · rw [e]; rfl
    · have e : a.take j = a := List.take_of_length_le (by omega)
      repeat' (first | ((refine run ?_); conv => whnf) | with_reducible refine split_nt (by assumption) ?_ | with_reducible refine split_nf (by assumption) ?_ | with_reducible refine split_ht (by assumption) ?_ | with_reducible refine split_hf (by assumption) ?_ | ((first | with_reducible refine split_neg (fun hc => ?_) (fun hc => ?_) | refine split (fun hc => ?_) (fun hc => ?_)) <;> (try simp only [bsl, true_implies, false_implies, Int.reduceEq, Int.reduceLT, Int.reduceLE, Nat.reduceLT, Nat.reduceEqDiff] at hc) <;> (try (exfalso; omega)) <;> (try exact (bool_tf hc (by assumption)).elim) <;> (try exact (bool_ft hc (by assumption)).elim)) | refine fact_in (fun hby => ?_) | refine un_rfl ?_ | refine stp ?_ | exact obs | with_reducible refine And.intro ?_ ?_ | refine nrm ?_ | apply row_eq | (apply cut_end <;> first | ((refine run ?_); conv => whnf) | exact obs) | (apply cut_drop <;> first | ((refine run ?_); conv => whnf) | exact obs) | (apply cuts_end <;> first | ((refine run ?_); conv => whnf) | exact obs) | (apply cuts_drop <;> first | ((refine run ?_); conv => whnf) | exact obs) | (apply wrap_in <;> first | ((refine run ?_); conv => whnf) | exact obs | exact eqs) | refine stq ?_ | (apply callP_skip <;> first | ((refine run ?_); conv => whnf) | assumption | (simp only [bsl, *]; done) | (simp [*]; done)) | ((refine open_in ?_ ?_) <;> first | ((refine run ?_); conv => whnf) | kernel_rfl) | exact eqs | (intro _; rfl))
      refine ret_eq ?_ (by rfl); rw [e]
end Go.Proofs.YtepnbdacekkapaaGreatDoor.Ai
