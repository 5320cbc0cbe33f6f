/- charstrings.Get. Own work of this seat. -/
import Derived.Test.YtaajfbcopafkaaaGreatDoorChars
namespace Go.Proofs.YtaajfbcopafkaaaGreatDoor.Ai
open Go
set_option linter.unusedSimpArgs false
set_option linter.unusedVariables false
set_option maxHeartbeats 4000000
set_option maxRecDepth 100000
attribute [local irreducible] decodeL
theorem get1_btw (m a b c : Int) (g : FuncId) : CallF Cx 88 [.int .i32 c, .rptr [.int .u32 m, btw a b, fnV g]] [] (.bool (!(validR c && btwP a b c))) [] := by
 refine sy_call (X := Sx0) (fun _ => false) [] [] (fn := Tryz.f88) Tryz.func88 rfl (by decide) rfl rfl ?_
 repeat' (first | (apply run; conv => whnf) | (with_reducible first | refine snt ?_ | refine snf ?_ | refine sht ?_ | refine shf ?_) | ((first | with_reducible refine split_neg (fun hc => ?_) (fun hc => ?_) | refine split (fun hc => ?_) (fun hc => ?_)) <;> (try simp only [bsl, true_implies, false_implies, Int.reduceEq, Int.reduceLT, Int.reduceLE, Nat.reduceLT, Nat.reduceEqDiff] at hc) <;> try first | (exfalso; omega) | exact btf hc | exact bft hc) | refine fact_in (fun hby => ?_) | refine un_rfl ?_ | refine stp ?_ | exact obs | with_reducible refine And.intro ?_ ?_ | refine nrm ?_ | apply row_eq | refine cte ?_ | refine ctd ?_ | refine cse ?_ | refine csd ?_ | refine wrp ?_ | refine stq ?_ | refine cps ?_ | refine opn ?_ | exact eqs | (intro _; rfl))
 refine ret_eq ?_ (by rfl)
 cases h : validR c <;> simp [btwP]
theorem get1_prt (m c : Int) (g : FuncId) : CallF Cx 88 [.int .i32 c, .rptr [.int .u32 m, fnV 129, fnV g]] [] (.bool (!(validR c && hasP c))) [] := by
 refine sy_call (X := Sx0) (fun _ => false) [] [] (fn := Tryz.f88) Tryz.func88 rfl (by decide) rfl rfl ?_
 repeat' (first | (apply run; conv => whnf) | (with_reducible first | refine snt ?_ | refine snf ?_ | refine sht ?_ | refine shf ?_) | ((first | with_reducible refine split_neg (fun hc => ?_) (fun hc => ?_) | refine split (fun hc => ?_) (fun hc => ?_)) <;> (try simp only [bsl, true_implies, false_implies, Int.reduceEq, Int.reduceLT, Int.reduceLE, Nat.reduceLT, Nat.reduceEqDiff] at hc) <;> try first | (exfalso; omega) | exact btf hc | exact bft hc) | refine fact_in (fun hby => ?_) | refine un_rfl ?_ | refine stp ?_ | exact obs | with_reducible refine And.intro ?_ ?_ | refine nrm ?_ | apply row_eq | refine cte ?_ | refine ctd ?_ | refine cse ?_ | refine csd ?_ | refine wrp ?_ | refine stq ?_ | refine cps ?_ | refine opn ?_ | exact eqs | (intro _; rfl))
 refine ret_eq ?_ (by rfl)
 cases h : validR c <;> simp
def idxB (q : Int → Bool) (l : List Int) : Int := if l.all q then -1 else (l.findIdx fun c => !(q c) : Nat)
theorem idxB_at {q : Int → Bool} {l : List Int} {i : Nat} (hi : i < l.length) (h : q (nth l i) = false) (hb : ∀ j, j < i → q (nth l j) = true) : idxB q l = i := by
 have h1 : l.all q = false := all_false_nth hi h
 have h2 : l.findIdx (fun c => !(q c)) = i := by
  rw [List.findIdx_eq hi]
  refine ⟨by rw [nth_eq hi] at h; simp [h], fun j hj => ?_⟩
  have := hb j hj
  rw [nth_eq (by omega)] at this
  simp [this]
 simp [idxB, h1, h2]
theorem idxR_call (l : List Int) (cap : Option Nat) (kk : List AVal) (q : Int → Bool) (hk : norefL kk = true) (hl : l.length ≤ 1000000) (hq : ∀ c, CallF Cx 88 [.int .i32 c, .rptr kk] [] (.bool (!(q c))) []) : CallF Cx 133 [.slc 1 (l.map runeRow) cap, .func 88 [] [.rptr kk]] [] (.int .i64 (idxB q l)) [] := by
 have i1 := fun c => con0 (X := Sx0) (hq c)
 refine sy_call (X := Sx0) (fun _ => false) [] [] (fn := Tryz.f133) Tryz.func133 rfl (by decide) rfl rfl ?_
 repeat' (first | (apply run; conv => whnf) | (with_reducible first | refine snt ?_ | refine snf ?_ | refine sht ?_ | refine shf ?_) | ((first | with_reducible refine split_neg (fun hc => ?_) (fun hc => ?_) | refine split (fun hc => ?_) (fun hc => ?_)) <;> (try simp only [bsl, true_implies, false_implies, Int.reduceEq, Int.reduceLT, Int.reduceLE, Nat.reduceLT, Nat.reduceEqDiff] at hc) <;> try first | (exfalso; omega) | exact btf hc | exact bft hc) | refine fact_in (fun hby => ?_) | refine un_rfl ?_ | refine stp ?_ | exact obs | with_reducible refine And.intro ?_ ?_ | refine nrm ?_ | apply row_eq | refine cte ?_ | refine ctd ?_ | refine cse ?_ | refine csd ?_ | refine wrp ?_ | refine stq ?_ | refine cps ?_ | refine opn ?_ | exact eqs | (intro _; rfl))
 refine loop_rule (α := Nat) [8] 0 (fun i => [.int .i64 i]) (fun i => []) (fun i => i ≤ l.length ∧ ∀ j, j < i → q (nth l j) = true) (fun i => l.length - i) (0) (fun _ => rfl) (by decide) ?_
 ((refine run ?_); conv => whnf)
 refine goal_in ⟨?_, fit_eq ?_, sto_take (n := 0) (Nat.le_of_ble_eq_true rfl) ?_⟩ (fun i hinv => ?_)
 ·exact ⟨Nat.zero_le _, fun j hj => by omega⟩
 ·rfl
 ·rfl
 by_cases hi : i < l.length
 ·repeat' (first | (apply run; conv => whnf) | (with_reducible first | refine snt ?_ | refine snf ?_ | refine sht ?_ | refine shf ?_) | ((first | with_reducible refine split_neg (fun hc => ?_) (fun hc => ?_) | refine split (fun hc => ?_) (fun hc => ?_)) <;> (try simp only [bsl, true_implies, false_implies, Int.reduceEq, Int.reduceLT, Int.reduceLE, Nat.reduceLT, Nat.reduceEqDiff] at hc) <;> try first | (exfalso; omega) | exact btf hc | exact bft hc) | refine fact_in (fun hby => ?_) | refine un_rfl ?_ | refine stp ?_ | exact obs | with_reducible refine And.intro ?_ ?_ | refine nrm ?_ | apply row_eq | refine cte ?_ | refine ctd ?_ | refine cse ?_ | refine csd ?_ | refine wrp ?_ | refine stq ?_ | refine cps ?_ | refine opn ?_ | exact eqs | (intro _; rfl))
  ·refine ret_eq ?_ (by rfl)
   rw [idxB_at hi hc hinv.2]
  ·refine meet_eq (i + 1) ?_ ?_ (Nat.le_of_ble_eq_true rfl) ?_
   ·refine ⟨⟨by omega, fun j hj => ?_⟩, by dsimp only; omega⟩
    by_cases e : j = i
    ·subst e; exact hc
    ·exact hinv.2 j (by omega)
   ·simp
   ·rfl
 ·repeat' (first | (apply run; conv => whnf) | (with_reducible first | refine snt ?_ | refine snf ?_ | refine sht ?_ | refine shf ?_) | ((first | with_reducible refine split_neg (fun hc => ?_) (fun hc => ?_) | refine split (fun hc => ?_) (fun hc => ?_)) <;> (try simp only [bsl, true_implies, false_implies, Int.reduceEq, Int.reduceLT, Int.reduceLE, Nat.reduceLT, Nat.reduceEqDiff] at hc) <;> try first | (exfalso; omega) | exact btf hc | exact bft hc) | refine fact_in (fun hby => ?_) | refine un_rfl ?_ | refine stp ?_ | exact obs | with_reducible refine And.intro ?_ ?_ | refine nrm ?_ | apply row_eq | refine cte ?_ | refine ctd ?_ | refine cse ?_ | refine csd ?_ | refine wrp ?_ | refine stq ?_ | refine cps ?_ | refine opn ?_ | exact eqs | (intro _; rfl))
  refine ret_eq ?_ (by rfl)
  have : l.all q = true := all_nth fun j hj => hinv.2 j (by omega)
  simp [idxB, this]
theorem cfR_call (l : List Int) (cap : Option Nat) (kk : List AVal) (q : Int → Bool) (hk : norefL kk = true) (hl : l.length ≤ 1000000) (hq : ∀ c, CallF Cx 88 [.int .i32 c, .rptr kk] [] (.bool (!(q c))) []) : CallF Cx 87 [.slc 1 (l.map runeRow) cap, .func 88 [] [.rptr kk]] [] (.bool (!(l.all q))) [] := by
 have i1 := con0 (X := Sx0) (idxR_call l cap kk q hk hl hq)
 refine sy_call (X := Sx0) (fun _ => false) [] [] (fn := Tryz.f87) Tryz.func87 rfl (by decide) rfl rfl ?_
 repeat' (first | (apply run; conv => whnf) | (with_reducible first | refine snt ?_ | refine snf ?_ | refine sht ?_ | refine shf ?_) | ((first | with_reducible refine split_neg (fun hc => ?_) (fun hc => ?_) | refine split (fun hc => ?_) (fun hc => ?_)) <;> (try simp only [bsl, true_implies, false_implies, Int.reduceEq, Int.reduceLT, Int.reduceLE, Nat.reduceLT, Nat.reduceEqDiff] at hc) <;> try first | (exfalso; omega) | exact btf hc | exact bft hc) | refine fact_in (fun hby => ?_) | refine un_rfl ?_ | refine stp ?_ | exact obs | with_reducible refine And.intro ?_ ?_ | refine nrm ?_ | apply row_eq | refine cte ?_ | refine ctd ?_ | refine cse ?_ | refine csd ?_ | refine wrp ?_ | refine stq ?_ | refine cps ?_ | refine opn ?_ | exact eqs | (intro _; rfl))
 refine ret_eq ?_ (by rfl)
 cases h : l.all q with
 | true => simp [idxB, h]
 | false => simp [idxB, h]
theorem q12 (c : Int) : (validR c && btwP 1 1114111 c) = hasB 12 c := by
 rw [Bool.eq_iff_iff]; simp [btwP, hasB, validR]; omega
theorem q22 (c : Int) : (validR c && btwP 1 127 c) = hasB 22 c := by
 rw [Bool.eq_iff_iff]; simp [btwP, hasB, validR]; omega
theorem q26 (c : Int) : (validR c && btwP 32 126 c) = hasB 26 c := by
 rw [Bool.eq_iff_iff]; simp [btwP, hasB, validR]; omega
theorem q30 (c : Int) : (validR c && btwP 1 65535 c) = hasB 30 c := by
 rw [Bool.eq_iff_iff]; simp [btwP, hasB, validR]; omega
theorem q19 (c : Int) : (validR c && hasP c) = hasB 19 c := by
 cases h : hasP c with
 | false =>
  have : hasB 19 c = false := by
   unfold hasP at h
   simp only [hasB]
   rw [if_neg (by decide), if_neg (by decide), if_neg (by decide), if_neg (by decide), h, Bool.and_false]
  rw [this, Bool.and_false]
 | true =>
  have hr : 32 ≤ c ∧ c ≤ 122 := by
   unfold hasP at h
   simp only [others, List.any_cons, List.any_nil, Bool.or_eq_true, decide_eq_true_eq, Bool.or_false] at h
   have e : ((32 : UInt8).toNat : Int) = 32 ∧ ((39 : UInt8).toNat : Int) = 39 ∧ ((40 : UInt8).toNat : Int) = 40 ∧ ((41 : UInt8).toNat : Int) = 41 ∧ ((43 : UInt8).toNat : Int) = 43 ∧ ((44 : UInt8).toNat : Int) = 44 ∧ ((45 : UInt8).toNat : Int) = 45 ∧ ((46 : UInt8).toNat : Int) = 46 ∧ ((47 : UInt8).toNat : Int) = 47 ∧ ((58 : UInt8).toNat : Int) = 58 ∧ ((61 : UInt8).toNat : Int) = 61 ∧ ((63 : UInt8).toNat : Int) = 63 := by decide
   omega
  have : hasB 19 c = true := by
   unfold hasP at h
   simp only [hasB]
   rw [if_neg (by decide), if_neg (by decide), if_neg (by decide), if_neg (by decide), h, Bool.and_true]
   simp; omega
  rw [this, Bool.and_true]; simp [validR]; omega
theorem runesL_dec {s : List UInt8} : ∀ {f i : Nat} {l : List Int}, decL s f i = some l → s.length ≤ i + f → runesL s f i = l := by
 intro f
 induction f with
 | zero => intro i l h hl; simp only [decL, Option.some.injEq] at h; subst h; rfl
 | succ f ih =>
  intro i l h hl
  simp only [decL] at h
  unfold runesL
  split at h
  ·rename_i hi
   obtain ⟨⟨c, n⟩, h1, h2⟩ := Option.bind_eq_some_iff.1 h
   obtain ⟨m, h3, rfl⟩ := Option.map_eq_some_iff.1 h2
   obtain ⟨e1, e2, e3, e4, e5, e6⟩ := decAt_decode h1
   rw [if_pos hi, e1]
   dsimp only at h3 ⊢
   rw [ih h3 (by omega), Int.toNat_of_nonneg e2]
  ·rename_i hi
   simp only [Option.some.injEq] at h; subst h
   rw [if_neg hi]
theorem charsL_len (k : Int) (b : List UInt8) : (charsL k b).length ≤ b.length := by
 unfold charsL
 split
 ·exact runesL_length _ _ _
 ·split
  ·rw [pairs_len]; omega
  ·simp
theorem chars_none {k : Int} {b : List UInt8} (h : charsB k b = false) : getC k b = none := by
 unfold charsB at h; unfold getC
 split
 ·rename_i hk; simpa [hk] using h
 ·rename_i hk
  rw [if_neg hk] at h
  split
  ·rename_i h30; simp [h30] at h; rw [if_pos (by omega)]
  ·rename_i h30; simp [h30] at h
theorem chars_some {k : Int} {b : List UInt8} (h : charsB k b = true) : getC k b = some (charsL k b) := by
 unfold charsB at h; unfold getC charsL
 split
 ·rename_i hk
  simp only [if_pos hk] at h
  cases hd : decS b with
  | none => rw [hd] at h; cases h
  | some l => rw [runesL_dec hd (by omega)]
 ·rename_i hk
  rw [if_neg hk] at h
  split
  ·rename_i h30; simp [h30] at h; rw [if_neg (by omega)]
  ·rfl
theorem enc_all {k : Int} {l : List Int} (h : l.all (hasB k) = true) : (l.map encRune).flatten = encS l := by
 induction l with
 | nil => rfl
 | cons c l ih =>
  simp only [List.all_cons, Bool.and_eq_true] at h
  have hc := h.1
  simp only [hasB, Bool.and_eq_true, decide_eq_true_eq] at hc
  rw [List.map_cons, List.flatten_cons, ih h.2, encRune_eq (by omega) (by omega)]
  simp [encS, encI]
theorem getE_lim {k : Int} {b : List UInt8} (hk : ¬ kindI k = 0) (h : 131072 < b.length) : getE k b = 3 ∧ getT k b = [] := by
 have : getE k b = 3 := by simp [getE, hk, h]
 exact ⟨this, by simp [getT, this]⟩
theorem getE_bad {k : Int} {b : List UInt8} (hk : ¬ kindI k = 0) (h : ¬ 131072 < b.length) (hc : charsB k b = false ∨ (charsL k b).all (hasB k) = false) : getE k b = 11 ∧ getT k b = [] := by
 have : getE k b = 11 := by
  simp only [getE, if_neg hk, if_neg h]
  cases hb : charsB k b with
  | false => rw [chars_none hb]
  | true =>
   rw [chars_some hb]
   rcases hc with hc | hc
   ·rw [hb] at hc; cases hc
   ·simp only [hc, if_true]
 exact ⟨this, by simp [getT, this]⟩
theorem getE_long {k : Int} {b : List UInt8} (hk : ¬ kindI k = 0) (h : ¬ 131072 < b.length) (hb : charsB k b = true) (hc : (charsL k b).all (hasB k) = true) (hl : (65536 : Int) < ((charsL k b).map encRune).flatten.length) : getE k b = 3 ∧ getT k b = [] := by
 rw [enc_all hc] at hl
 have hl' : 65536 < (encS (charsL k b)).length := by omega
 have : getE k b = 3 := by
  simp only [getE, if_neg hk, if_neg h, chars_some hb, hc, if_pos hl']
  rfl
 exact ⟨this, by simp [getT, this]⟩
theorem getE_ok {k : Int} {b : List UInt8} (hk : ¬ kindI k = 0) (h : ¬ 131072 < b.length) (hb : charsB k b = true) (hc : (charsL k b).all (hasB k) = true) (hl : ¬ (65536 : Int) < ((charsL k b).map encRune).flatten.length) : getE k b = 0 ∧ getT k b = ((charsL k b).map encRune).flatten := by
 rw [enc_all hc] at hl ⊢
 have hl' : ¬ 65536 < (encS (charsL k b)).length := by omega
 have : getE k b = 0 := by
  simp only [getE, if_neg hk, if_neg h, chars_some hb, hc, if_neg hl']
  rfl
 exact ⟨this, by simp [getT, this, chars_some hb]⟩
theorem get12 (b : List UInt8) (cap : Option Nat) (hb : b.length ≤ 200000) : CallF Cx 48 [.int .u32 12, .slc 1 (b.map bytesRow) cap] [] (.tup [.agg [.int .u32 (if getE 12 b = 0 then 12 else 0), .str (getT 12 b)], .int .i64 (getE 12 b)]) [] := by
 have hk : ¬ kindI 12 = 0 := by decide
 have i1 := con0 (X := Sx0) (cfR_call (charsL 12 b) none k12 (hasB 12) rfl (Nat.le_trans (charsL_len 12 b) (by omega)) (fun c => by rw [← q12]; exact get1_btw 12 1 1114111 c _))
 refine sy_call (X := Sx0) (fun _ => false) [] [] (fn := Tryz.f48) Tryz.func48 rfl (by decide) rfl rfl ?_
 repeat' (first | (apply run; conv => whnf) | (with_reducible first | refine snt ?_ | refine snf ?_ | refine sht ?_ | refine shf ?_) | ((first | with_reducible refine split_neg (fun hc => ?_) (fun hc => ?_) | refine split (fun hc => ?_) (fun hc => ?_)) <;> (try simp only [bsl, true_implies, false_implies, Int.reduceEq, Int.reduceLT, Int.reduceLE, Nat.reduceLT, Nat.reduceEqDiff] at hc) <;> try first | (exfalso; omega) | exact btf hc | exact bft hc) | refine fact_in (fun hby => ?_) | refine un_rfl ?_ | refine stp ?_ | exact obs | with_reducible refine And.intro ?_ ?_ | refine nrm ?_ | apply row_eq | refine cte ?_ | refine ctd ?_ | refine cse ?_ | refine csd ?_ | refine wrp ?_ | refine stq ?_ | refine cps ?_ | refine opn ?_ | exact eqs | (intro _; rfl))
 all_goals first
  | (have h := getE_lim (b := b) hk (by omega); refine ret_eq ?_ (by rfl); rw [h.1, h.2]; rfl)
  | (have h := getE_bad (b := b) hk (by omega) hc; refine ret_eq ?_ (by rfl); rw [h.1, h.2]; rfl)
  | (have h := getE_long (b := b) hk (by omega) (by simp_all) (by simp_all) hc; refine ret_eq ?_ (by rfl); rw [h.1, h.2]; rfl)
  | (have h := getE_ok (b := b) hk (by omega) (by simp_all) (by simp_all) hc; refine ret_eq ?_ (by rfl); rw [h.1, h.2]; rfl)
  | (have h := getE_bad (b := b) hk (by omega) (.inl hc); refine ret_eq ?_ (by rfl); rw [h.1, h.2]; rfl)
theorem get19 (b : List UInt8) (cap : Option Nat) (hb : b.length ≤ 200000) : CallF Cx 48 [.int .u32 19, .slc 1 (b.map bytesRow) cap] [] (.tup [.agg [.int .u32 (if getE 19 b = 0 then 19 else 0), .str (getT 19 b)], .int .i64 (getE 19 b)]) [] := by
 have hk : ¬ kindI 19 = 0 := by decide
 have i1 := con0 (X := Sx0) (cfR_call (charsL 19 b) none k19 (hasB 19) rfl (Nat.le_trans (charsL_len 19 b) (by omega)) (fun c => by rw [← q19]; exact get1_prt 19 c _))
 refine sy_call (X := Sx0) (fun _ => false) [] [] (fn := Tryz.f48) Tryz.func48 rfl (by decide) rfl rfl ?_
 repeat' (first | (apply run; conv => whnf) | (with_reducible first | refine snt ?_ | refine snf ?_ | refine sht ?_ | refine shf ?_) | ((first | with_reducible refine split_neg (fun hc => ?_) (fun hc => ?_) | refine split (fun hc => ?_) (fun hc => ?_)) <;> (try simp only [bsl, true_implies, false_implies, Int.reduceEq, Int.reduceLT, Int.reduceLE, Nat.reduceLT, Nat.reduceEqDiff] at hc) <;> try first | (exfalso; omega) | exact btf hc | exact bft hc) | refine fact_in (fun hby => ?_) | refine un_rfl ?_ | refine stp ?_ | exact obs | with_reducible refine And.intro ?_ ?_ | refine nrm ?_ | apply row_eq | refine cte ?_ | refine ctd ?_ | refine cse ?_ | refine csd ?_ | refine wrp ?_ | refine stq ?_ | refine cps ?_ | refine opn ?_ | exact eqs | (intro _; rfl))
 all_goals first
  | (have h := getE_lim (b := b) hk (by omega); refine ret_eq ?_ (by rfl); rw [h.1, h.2]; rfl)
  | (have h := getE_bad (b := b) hk (by omega) hc; refine ret_eq ?_ (by rfl); rw [h.1, h.2]; rfl)
  | (have h := getE_long (b := b) hk (by omega) (by simp_all) (by simp_all) hc; refine ret_eq ?_ (by rfl); rw [h.1, h.2]; rfl)
  | (have h := getE_ok (b := b) hk (by omega) (by simp_all) (by simp_all) hc; refine ret_eq ?_ (by rfl); rw [h.1, h.2]; rfl)
  | (have h := getE_bad (b := b) hk (by omega) (.inl hc); refine ret_eq ?_ (by rfl); rw [h.1, h.2]; rfl)
theorem get22 (b : List UInt8) (cap : Option Nat) (hb : b.length ≤ 200000) : CallF Cx 48 [.int .u32 22, .slc 1 (b.map bytesRow) cap] [] (.tup [.agg [.int .u32 (if getE 22 b = 0 then 22 else 0), .str (getT 22 b)], .int .i64 (getE 22 b)]) [] := by
 have hk : ¬ kindI 22 = 0 := by decide
 have i1 := con0 (X := Sx0) (cfR_call (charsL 22 b) none k22 (hasB 22) rfl (Nat.le_trans (charsL_len 22 b) (by omega)) (fun c => by rw [← q22]; exact get1_btw 22 1 127 c _))
 refine sy_call (X := Sx0) (fun _ => false) [] [] (fn := Tryz.f48) Tryz.func48 rfl (by decide) rfl rfl ?_
 repeat' (first | (apply run; conv => whnf) | (with_reducible first | refine snt ?_ | refine snf ?_ | refine sht ?_ | refine shf ?_) | ((first | with_reducible refine split_neg (fun hc => ?_) (fun hc => ?_) | refine split (fun hc => ?_) (fun hc => ?_)) <;> (try simp only [bsl, true_implies, false_implies, Int.reduceEq, Int.reduceLT, Int.reduceLE, Nat.reduceLT, Nat.reduceEqDiff] at hc) <;> try first | (exfalso; omega) | exact btf hc | exact bft hc) | refine fact_in (fun hby => ?_) | refine un_rfl ?_ | refine stp ?_ | exact obs | with_reducible refine And.intro ?_ ?_ | refine nrm ?_ | apply row_eq | refine cte ?_ | refine ctd ?_ | refine cse ?_ | refine csd ?_ | refine wrp ?_ | refine stq ?_ | refine cps ?_ | refine opn ?_ | exact eqs | (intro _; rfl))
 all_goals first
  | (have h := getE_lim (b := b) hk (by omega); refine ret_eq ?_ (by rfl); rw [h.1, h.2]; rfl)
  | (have h := getE_bad (b := b) hk (by omega) hc; refine ret_eq ?_ (by rfl); rw [h.1, h.2]; rfl)
  | (have h := getE_long (b := b) hk (by omega) (by simp_all) (by simp_all) hc; refine ret_eq ?_ (by rfl); rw [h.1, h.2]; rfl)
  | (have h := getE_ok (b := b) hk (by omega) (by simp_all) (by simp_all) hc; refine ret_eq ?_ (by rfl); rw [h.1, h.2]; rfl)
  | (have h := getE_bad (b := b) hk (by omega) (.inl hc); refine ret_eq ?_ (by rfl); rw [h.1, h.2]; rfl)
theorem get26 (b : List UInt8) (cap : Option Nat) (hb : b.length ≤ 200000) : CallF Cx 48 [.int .u32 26, .slc 1 (b.map bytesRow) cap] [] (.tup [.agg [.int .u32 (if getE 26 b = 0 then 26 else 0), .str (getT 26 b)], .int .i64 (getE 26 b)]) [] := by
 have hk : ¬ kindI 26 = 0 := by decide
 have i1 := con0 (X := Sx0) (cfR_call (charsL 26 b) none k26 (hasB 26) rfl (Nat.le_trans (charsL_len 26 b) (by omega)) (fun c => by rw [← q26]; exact get1_btw 26 32 126 c _))
 refine sy_call (X := Sx0) (fun _ => false) [] [] (fn := Tryz.f48) Tryz.func48 rfl (by decide) rfl rfl ?_
 repeat' (first | (apply run; conv => whnf) | (with_reducible first | refine snt ?_ | refine snf ?_ | refine sht ?_ | refine shf ?_) | ((first | with_reducible refine split_neg (fun hc => ?_) (fun hc => ?_) | refine split (fun hc => ?_) (fun hc => ?_)) <;> (try simp only [bsl, true_implies, false_implies, Int.reduceEq, Int.reduceLT, Int.reduceLE, Nat.reduceLT, Nat.reduceEqDiff] at hc) <;> try first | (exfalso; omega) | exact btf hc | exact bft hc) | refine fact_in (fun hby => ?_) | refine un_rfl ?_ | refine stp ?_ | exact obs | with_reducible refine And.intro ?_ ?_ | refine nrm ?_ | apply row_eq | refine cte ?_ | refine ctd ?_ | refine cse ?_ | refine csd ?_ | refine wrp ?_ | refine stq ?_ | refine cps ?_ | refine opn ?_ | exact eqs | (intro _; rfl))
 all_goals first
  | (have h := getE_lim (b := b) hk (by omega); refine ret_eq ?_ (by rfl); rw [h.1, h.2]; rfl)
  | (have h := getE_bad (b := b) hk (by omega) hc; refine ret_eq ?_ (by rfl); rw [h.1, h.2]; rfl)
  | (have h := getE_long (b := b) hk (by omega) (by simp_all) (by simp_all) hc; refine ret_eq ?_ (by rfl); rw [h.1, h.2]; rfl)
  | (have h := getE_ok (b := b) hk (by omega) (by simp_all) (by simp_all) hc; refine ret_eq ?_ (by rfl); rw [h.1, h.2]; rfl)
  | (have h := getE_bad (b := b) hk (by omega) (.inl hc); refine ret_eq ?_ (by rfl); rw [h.1, h.2]; rfl)
theorem get30 (b : List UInt8) (cap : Option Nat) (hb : b.length ≤ 200000) : CallF Cx 48 [.int .u32 30, .slc 1 (b.map bytesRow) cap] [] (.tup [.agg [.int .u32 (if getE 30 b = 0 then 30 else 0), .str (getT 30 b)], .int .i64 (getE 30 b)]) [] := by
 have hk : ¬ kindI 30 = 0 := by decide
 have i1 := con0 (X := Sx0) (cfR_call (charsL 30 b) none k30 (hasB 30) rfl (Nat.le_trans (charsL_len 30 b) (by omega)) (fun c => by rw [← q30]; exact get1_btw 30 1 65535 c _))
 refine sy_call (X := Sx0) (fun _ => false) [] [] (fn := Tryz.f48) Tryz.func48 rfl (by decide) rfl rfl ?_
 repeat' (first | (apply run; conv => whnf) | (with_reducible first | refine snt ?_ | refine snf ?_ | refine sht ?_ | refine shf ?_) | ((first | with_reducible refine split_neg (fun hc => ?_) (fun hc => ?_) | refine split (fun hc => ?_) (fun hc => ?_)) <;> (try simp only [bsl, true_implies, false_implies, Int.reduceEq, Int.reduceLT, Int.reduceLE, Nat.reduceLT, Nat.reduceEqDiff] at hc) <;> try first | (exfalso; omega) | exact btf hc | exact bft hc) | refine fact_in (fun hby => ?_) | refine un_rfl ?_ | refine stp ?_ | exact obs | with_reducible refine And.intro ?_ ?_ | refine nrm ?_ | apply row_eq | refine cte ?_ | refine ctd ?_ | refine cse ?_ | refine csd ?_ | refine wrp ?_ | refine stq ?_ | refine cps ?_ | refine opn ?_ | exact eqs | (intro _; rfl))
 all_goals first
  | (have h := getE_lim (b := b) hk (by omega); refine ret_eq ?_ (by rfl); rw [h.1, h.2]; rfl)
  | (have h := getE_bad (b := b) hk (by omega) hc; refine ret_eq ?_ (by rfl); rw [h.1, h.2]; rfl)
  | (have h := getE_long (b := b) hk (by omega) (by simp_all) (by simp_all) hc; refine ret_eq ?_ (by rfl); rw [h.1, h.2]; rfl)
  | (have h := getE_ok (b := b) hk (by omega) (by simp_all) (by simp_all) hc; refine ret_eq ?_ (by rfl); rw [h.1, h.2]; rfl)
  | (have h := getE_bad (b := b) hk (by omega) (.inl hc); refine ret_eq ?_ (by rfl); rw [h.1, h.2]; rfl)
theorem Get_call (k : Int) (b : List UInt8) (cap : Option Nat) (hb : b.length ≤ 200000) : CallF Cx 48 [.int .u32 k, .slc 1 (b.map bytesRow) cap] [] (.tup [.agg [.int .u32 (if getE k b = 0 then k else 0), .str (getT k b)], .int .i64 (getE k b)]) [] := by
 rcases kind_cases k with rfl | rfl | rfl | rfl | rfl | h0
 ·exact get12 b cap hb
 ·exact get19 b cap hb
 ·exact get22 b cap hb
 ·exact get26 b cap hb
 ·exact get30 b cap hb
 ·have e : getE k b = 9 := by simp [getE, h0]
  have e2 : getT k b = [] := by simp [getT, e]
  rw [e, e2]
  refine sy_call (X := Sx0) (fun _ => false) [] [] (fn := Tryz.f48) Tryz.func48 rfl (by decide) rfl rfl ?_
  repeat' (first | (apply run; conv => whnf) | (with_reducible first | refine snt ?_ | refine snf ?_ | refine sht ?_ | refine shf ?_) | ((first | with_reducible refine split_neg (fun hc => ?_) (fun hc => ?_) | refine split (fun hc => ?_) (fun hc => ?_)) <;> (try simp only [bsl, true_implies, false_implies, Int.reduceEq, Int.reduceLT, Int.reduceLE, Nat.reduceLT, Nat.reduceEqDiff] at hc) <;> try first | (exfalso; omega) | exact btf hc | exact bft hc) | refine fact_in (fun hby => ?_) | refine un_rfl ?_ | refine stp ?_ | exact obs | with_reducible refine And.intro ?_ ?_ | refine nrm ?_ | apply row_eq | refine cte ?_ | refine ctd ?_ | refine cse ?_ | refine csd ?_ | refine wrp ?_ | refine stq ?_ | refine cps ?_ | refine opn ?_ | exact eqs | (intro _; rfl))
  refine ret_eq ?_ (by rfl); rfl
instance {k : Int} {b : List UInt8} {cap : Option Nat} : Con Sx0 48 [.int .u32 k, .slc 1 (b.map bytesRow) cap] (b.length ≤ 200000) (.tup [.agg [.int .u32 (if getE k b = 0 then k else 0), .str (getT k b)], .int .i64 (getE k b)]) := con (Get_call k b cap)
end Go.Proofs.YtaajfbcopafkaaaGreatDoor.Ai
