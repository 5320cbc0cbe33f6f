/- The reference's Decode. Own work of this seat. -/
import Derived.Test.YteenamolccbcfaaDoorEncode
namespace Go.Proofs.YteenamolccbcfaaDoor.Ai
open Go
set_option linter.unusedSimpArgs false
set_option linter.unusedVariables false
set_option maxHeartbeats 4000000
set_option maxRecDepth 100000
/-- By the first byte: how many bytes follow, what the byte gives, the least character of that length. -/
def cls (x : Int) : Option (Nat × Int × Int) :=
  if x < 128 then some (0, x, 0) else if 194 ≤ x ∧ x < 224 then some (1, x - 192, 128) else if 224 ≤ x ∧ x < 240 then some (2, x - 224, 2048) else if 240 ≤ x ∧ x < 245 then some (3, x - 240, 65536) else none
def byI (s : List UInt8) (i : Nat) : Int := ((nth s i).toNat : Int)
def contF (s : List UInt8) (i : Nat) (c : Int) : Nat → Option Int
  | 0 => some c
  | k + 1 => (contF s i c k).bind fun c => if byI s (i + (k + 1)) < 128 ∨ 191 < byI s (i + (k + 1)) then none else some (64 * c + byI s (i + (k + 1)) - 128)
def badC (c least : Int) : Bool := decide (c < least ∨ c > 1114111 ∨ 55296 ≤ c ∧ c < 57344)
def decAt (s : List UInt8) (i : Nat) : Option (Int × Nat) :=
  (cls (byI s i)).bind fun p => if i + p.1 < s.length then (contF s i p.2.1 p.1).bind fun c => if badC c p.2.2 = true then none else some (c, p.1 + 1) else none
def decL (s : List UInt8) : Nat → Nat → Option (List Int)
  | 0, _ => some []
  | f + 1, i => if i < s.length then (decAt s i).bind fun p => (decL s f (i + p.2)).map (p.1 :: ·) else some []
def decS (s : List UInt8) : Option (List Int) := decL s s.length 0
def decT (s : List UInt8) : List Int := (decS s).getD []
theorem contF_none {s : List UInt8} {i k : Nat} {c0 : Int} (h : contF s i c0 k = none) : ∀ {m : Nat}, k ≤ m → contF s i c0 m = none := by
  intro m hm
  induction hm with
  | refl => exact h
  | step _ ih => simp only [contF, ih, Option.bind_none]
theorem contF_bd {s : List UInt8} {i : Nat} {c0 : Int} (h0 : 0 ≤ c0 ∧ c0 ≤ 127) : ∀ {k : Nat} {c : Int}, k ≤ 3 → contF s i c0 k = some c → 0 ≤ c ∧ c ≤ 67108863 := by
  have key : ∀ {k : Nat} {c B : Int}, (∀ c, contF s i c0 k = some c → 0 ≤ c ∧ c ≤ B) → contF s i c0 (k + 1) = some c → 0 ≤ c ∧ c ≤ 64 * B + 63 := by
    intro k c B h hc
    simp only [contF] at hc
    obtain ⟨c', h1, h2⟩ := Option.bind_eq_some_iff.1 hc
    have := h c' h1
    split at h2
    · cases h2
    · simp at h2; omega
  intro k c hk h
  have e0 : ∀ c, contF s i c0 0 = some c → 0 ≤ c ∧ c ≤ 127 := by intro c h; simp [contF] at h; omega
  have e1 : ∀ c, contF s i c0 1 = some c → 0 ≤ c ∧ c ≤ 8191 := fun c h => key e0 h
  have e2 : ∀ c, contF s i c0 2 = some c → 0 ≤ c ∧ c ≤ 524287 := fun c h => key e1 h
  have e3 : ∀ c, contF s i c0 3 = some c → 0 ≤ c ∧ c ≤ 33554431 := fun c h => key e2 h
  match k, hk with
  | 0, _ => have := e0 c h; omega
  | 1, _ => have := e1 c h; omega
  | 2, _ => have := e2 c h; omega
  | 3, _ => have := e3 c h; omega
theorem cls_bd {x : Int} {p : Nat × Int × Int} (hx : 0 ≤ x) (h : cls x = some p) : p.1 ≤ 3 ∧ 0 ≤ p.2.1 ∧ p.2.1 ≤ 127 ∧ 0 ≤ p.2.2 := by
  unfold cls at h
  repeat' split at h
  all_goals first | (cases h; dsimp only; omega) | cases h
theorem byI_bd (s : List UInt8) (i : Nat) : 0 ≤ byI s i ∧ byI s i ≤ 255 := by
  unfold byI
  have := (nth s i).toNat_lt
  omega
theorem Decode_call (s : List UInt8) (hs : s.length ≤ 1000000) :
    CallF Cx 23 [.str s] [] (.tup [.slc 1 ((decT s).map i64Row) none, .bool (decS s).isSome]) [] := by
  have none_of : decS s = none → ∀ {c : Option Nat}, PLe (.tup [.slc 0 [] c, .bool false]) (.tup [.slc 1 ((decT s).map i64Row) none, .bool (decS s).isSome]) := by
    intro h c
    simp only [decT, h]
    exact ple_tup ⟨ple_nil (.inl rfl), .refl _, trivial⟩
  refine sy_call (X := Sx0) (fun _ => false) [1002] [(4, 3, 1)] (fn := Tryd.f23) Tryd.func23 rfl (by decide) rfl rfl ?_
  repeat' (first | ((refine run ?_); conv => whnf) | with_reducible refine split_nt (by assumption) ?_ | with_reducible refine split_nf (by assumption) ?_ | with_reducible refine split_ht (by assumption) ?_ | with_reducible refine split_hf (by assumption) ?_ | ((first | with_reducible refine split_neg (fun hc => ?_) (fun hc => ?_) | refine split (fun hc => ?_) (fun hc => ?_)) <;> (try simp only [bsl, true_implies, false_implies, Int.reduceEq, Int.reduceLT, Int.reduceLE, Nat.reduceLT, Nat.reduceEqDiff] at hc) <;> (try (exfalso; omega)) <;> (try exact (bool_tf hc (by assumption)).elim) <;> (try exact (bool_ft hc (by assumption)).elim)) | refine fact_in (fun hby => ?_) | refine un_rfl ?_ | refine stp ?_ | exact obs | with_reducible refine And.intro ?_ ?_ | refine nrm ?_ | apply row_eq | (apply cut_end <;> first | ((refine run ?_); conv => whnf) | exact obs) | (apply cut_drop <;> first | ((refine run ?_); conv => whnf) | exact obs) | (apply cuts_end <;> first | ((refine run ?_); conv => whnf) | exact obs) | (apply cuts_drop <;> first | ((refine run ?_); conv => whnf) | exact obs) | (apply wrap_in <;> first | ((refine run ?_); conv => whnf) | exact obs | exact eqs) | refine stq ?_ | (apply callP_skip <;> first | ((refine run ?_); conv => whnf) | assumption | (simp only [bsl, *]; done) | (simp [*]; done)) | ((refine open_in ?_ ?_) <;> first | ((refine run ?_); conv => whnf) | kernel_rfl) | exact eqs | (intro _; rfl))
  refine loop_rule (α := Nat × List Int × Nat) [4, 5] 1 (fun x => [.bsl 0 x.2.1.length, .int .i64 x.1]) (fun x => [.mk 3 1 (x.2.1.map i64Row)]) (fun x => x.1 ≤ s.length ∧ x.2.1.length ≤ x.1 ∧ s.length ≤ x.1 + x.2.2 ∧ decS s = (decL s x.2.2 x.1).map (x.2.1 ++ ·)) (fun x => s.length - x.1) ((0, [], s.length)) (fun _ => rfl) (by decide) ?_
  ((refine run ?_); conv => whnf)
  refine goal_in ⟨?_, fit_eq ?_, sto_take (n := 1) (Nat.le_of_ble_eq_true rfl) ?_⟩ (fun x hinv => ?_)
  · refine ⟨Nat.zero_le _, Nat.le_refl _, by dsimp only; omega, ?_⟩
    simp [decS]
  · rfl
  · rfl
  obtain ⟨i, acc, f⟩ := x
  obtain ⟨hi, ha, hf, hd⟩ := hinv
  dsimp only at hi ha hf hd
  by_cases hlt : i < s.length
  · obtain ⟨f, rfl⟩ : ∃ g, f = g + 1 := ⟨f - 1, by omega⟩
    simp only [decL, if_pos hlt] at hd
    have hb := byI_bd s i
    repeat' (first | ((refine run ?_); conv => whnf) | with_reducible refine split_nt (by assumption) ?_ | with_reducible refine split_nf (by assumption) ?_ | with_reducible refine split_ht (by assumption) ?_ | with_reducible refine split_hf (by assumption) ?_ | ((first | with_reducible refine split_neg (fun hc => ?_) (fun hc => ?_) | refine split (fun hc => ?_) (fun hc => ?_)) <;> (try simp only [bsl, true_implies, false_implies, Int.reduceEq, Int.reduceLT, Int.reduceLE, Nat.reduceLT, Nat.reduceEqDiff] at hc) <;> (try (exfalso; omega)) <;> (try exact (bool_tf hc (by assumption)).elim) <;> (try exact (bool_ft hc (by assumption)).elim)) | refine fact_in (fun hby => ?_) | refine un_rfl ?_ | refine stp ?_ | exact obs | with_reducible refine And.intro ?_ ?_ | refine nrm ?_ | apply row_eq | (apply cut_end <;> first | ((refine run ?_); conv => whnf) | exact obs) | (apply cut_drop <;> first | ((refine run ?_); conv => whnf) | exact obs) | (apply cuts_end <;> first | ((refine run ?_); conv => whnf) | exact obs) | (apply cuts_drop <;> first | ((refine run ?_); conv => whnf) | exact obs) | (apply wrap_in <;> first | ((refine run ?_); conv => whnf) | exact obs | exact eqs) | refine stq ?_ | (apply callP_skip <;> first | ((refine run ?_); conv => whnf) | assumption | (simp only [bsl, *]; done) | (simp [*]; done)) | ((refine open_in ?_ ?_) <;> first | ((refine run ?_); conv => whnf) | kernel_rfl) | exact eqs | (intro _; rfl))
    refine join_rule (α := Nat × Int × Int) [] [7, 8, 9] 1 (fun y => [.int .i64 y.1, .int .i64 y.2.1, .int .i64 y.2.2]) (fun y => [.mk 3 1 (acc.map i64Row)]) (fun y => cls (byI s i) = some y) (fun _ => rfl) (by decide) ?_
    ((refine run ?_); conv => whnf)
    refine goal_run ?_ (fun y hinv => ?_)
    · have eb : ((nth s i).toNat : Int) = byI s i := rfl
      repeat' (first | ((refine run ?_); conv => whnf) | with_reducible refine split_nt (by assumption) ?_ | with_reducible refine split_nf (by assumption) ?_ | with_reducible refine split_ht (by assumption) ?_ | with_reducible refine split_hf (by assumption) ?_ | ((first | with_reducible refine split_neg (fun hc => ?_) (fun hc => ?_) | refine split (fun hc => ?_) (fun hc => ?_)) <;> (try simp only [bsl, true_implies, false_implies, Int.reduceEq, Int.reduceLT, Int.reduceLE, Nat.reduceLT, Nat.reduceEqDiff] at hc) <;> (try (exfalso; omega)) <;> (try exact (bool_tf hc (by assumption)).elim) <;> (try exact (bool_ft hc (by assumption)).elim)) | refine fact_in (fun hby => ?_) | refine un_rfl ?_ | refine stp ?_ | exact obs | with_reducible refine And.intro ?_ ?_ | refine nrm ?_ | apply row_eq | (apply cut_end <;> first | ((refine run ?_); conv => whnf) | exact obs) | (apply cut_drop <;> first | ((refine run ?_); conv => whnf) | exact obs) | (apply cuts_end <;> first | ((refine run ?_); conv => whnf) | exact obs) | (apply cuts_drop <;> first | ((refine run ?_); conv => whnf) | exact obs) | (apply wrap_in <;> first | ((refine run ?_); conv => whnf) | exact obs | exact eqs) | refine stq ?_ | (apply callP_skip <;> first | ((refine run ?_); conv => whnf) | assumption | (simp only [bsl, *]; done) | (simp [*]; done)) | ((refine open_in ?_ ?_) <;> first | ((refine run ?_); conv => whnf) | kernel_rfl) | exact eqs | (intro _; rfl))
      all_goals simp only [eb] at *
      · refine meet_eq ((0, byI s i, 0)) ?_ ?_ (Nat.le_of_ble_eq_true rfl) ?_
        · simp only [cls]; rw [if_pos hc]
        · rfl
        · rfl
      · refine meet_eq ((1, byI s i - 192, 128)) ?_ ?_ (Nat.le_of_ble_eq_true rfl) ?_
        · simp only [cls]; rw [if_neg (by omega), if_pos hc]
        · rfl
        · rfl
      · refine meet_eq ((2, byI s i - 224, 2048)) ?_ ?_ (Nat.le_of_ble_eq_true rfl) ?_
        · simp only [cls]; rw [if_neg (by omega), if_neg (by omega), if_pos hc]
        · rfl
        · rfl
      · refine meet_eq ((3, byI s i - 240, 65536)) ?_ ?_ (Nat.le_of_ble_eq_true rfl) ?_
        · simp only [cls]; rw [if_neg (by omega), if_neg (by omega), if_neg (by omega), if_pos hc]
        · rfl
        · rfl
      · refine ret_le (none_of ?_) (by rfl)
        have hn : cls (byI s i) = none := by
          simp only [cls]; rw [if_neg (by omega), if_neg (by omega), if_neg (by omega), if_neg (by omega)]
        rw [hd]; simp [decAt, hn]
    · obtain ⟨more, c0, least⟩ := y
      have hcb := cls_bd hb.1 hinv
      dsimp only at hcb
      repeat' (first | ((refine run ?_); conv => whnf) | with_reducible refine split_nt (by assumption) ?_ | with_reducible refine split_nf (by assumption) ?_ | with_reducible refine split_ht (by assumption) ?_ | with_reducible refine split_hf (by assumption) ?_ | ((first | with_reducible refine split_neg (fun hc => ?_) (fun hc => ?_) | refine split (fun hc => ?_) (fun hc => ?_)) <;> (try simp only [bsl, true_implies, false_implies, Int.reduceEq, Int.reduceLT, Int.reduceLE, Nat.reduceLT, Nat.reduceEqDiff] at hc) <;> (try (exfalso; omega)) <;> (try exact (bool_tf hc (by assumption)).elim) <;> (try exact (bool_ft hc (by assumption)).elim)) | refine fact_in (fun hby => ?_) | refine un_rfl ?_ | refine stp ?_ | exact obs | with_reducible refine And.intro ?_ ?_ | refine nrm ?_ | apply row_eq | (apply cut_end <;> first | ((refine run ?_); conv => whnf) | exact obs) | (apply cut_drop <;> first | ((refine run ?_); conv => whnf) | exact obs) | (apply cuts_end <;> first | ((refine run ?_); conv => whnf) | exact obs) | (apply cuts_drop <;> first | ((refine run ?_); conv => whnf) | exact obs) | (apply wrap_in <;> first | ((refine run ?_); conv => whnf) | exact obs | exact eqs) | refine stq ?_ | (apply callP_skip <;> first | ((refine run ?_); conv => whnf) | assumption | (simp only [bsl, *]; done) | (simp [*]; done)) | ((refine open_in ?_ ?_) <;> first | ((refine run ?_); conv => whnf) | kernel_rfl) | exact eqs | (intro _; rfl))
      · refine ret_le (none_of ?_) (by rfl)
        rw [hd]; simp only [decAt, hinv, Option.bind_some]; rw [if_neg (by omega)]; rfl
      refine loop_rule (α := Nat × Int) [10, 8] 1 (fun z => [.int .i64 ((z.1 : Int) + 1), .int .i64 z.2]) (fun z => [.mk 3 1 (acc.map i64Row)]) (fun z => z.1 ≤ more ∧ contF s i c0 z.1 = some z.2) (fun z => more - z.1) ((0, c0)) (fun _ => rfl) (by decide) ?_
      ((refine run ?_); conv => whnf)
      refine goal_in ⟨?_, fit_eq ?_, sto_take (n := 1) (Nat.le_of_ble_eq_true rfl) ?_⟩ (fun z hinv => ?_)
      · exact ⟨Nat.zero_le _, rfl⟩
      · rfl
      · rfl
      obtain ⟨k, c⟩ := z
      obtain ⟨hk, hcf⟩ := hinv
      dsimp only at hk hcf
      have hcd := contF_bd ⟨hcb.2.1, hcb.2.2.1⟩ (by omega) hcf
      have eT : ((i : Int) + ((k : Int) + 1)).toNat = i + (k + 1) := by omega
      repeat' (first | ((refine run ?_); conv => whnf) | with_reducible refine split_nt (by assumption) ?_ | with_reducible refine split_nf (by assumption) ?_ | with_reducible refine split_ht (by assumption) ?_ | with_reducible refine split_hf (by assumption) ?_ | ((first | with_reducible refine split_neg (fun hc => ?_) (fun hc => ?_) | refine split (fun hc => ?_) (fun hc => ?_)) <;> (try simp only [bsl, true_implies, false_implies, Int.reduceEq, Int.reduceLT, Int.reduceLE, Nat.reduceLT, Nat.reduceEqDiff] at hc) <;> (try (exfalso; omega)) <;> (try exact (bool_tf hc (by assumption)).elim) <;> (try exact (bool_ft hc (by assumption)).elim)) | refine fact_in (fun hby => ?_) | refine un_rfl ?_ | refine stp ?_ | exact obs | with_reducible refine And.intro ?_ ?_ | refine nrm ?_ | apply row_eq | (apply cut_end <;> first | ((refine run ?_); conv => whnf) | exact obs) | (apply cut_drop <;> first | ((refine run ?_); conv => whnf) | exact obs) | (apply cuts_end <;> first | ((refine run ?_); conv => whnf) | exact obs) | (apply cuts_drop <;> first | ((refine run ?_); conv => whnf) | exact obs) | (apply wrap_in <;> first | ((refine run ?_); conv => whnf) | exact obs | exact eqs) | refine stq ?_ | (apply callP_skip <;> first | ((refine run ?_); conv => whnf) | assumption | (simp only [bsl, *]; done) | (simp [*]; done)) | ((refine open_in ?_ ?_) <;> first | ((refine run ?_); conv => whnf) | kernel_rfl) | exact eqs | (intro _; rfl))
      · refine ret_le (none_of ?_) (by rfl)
        rw [eT] at hc
        have h1 : contF s i c0 (k + 1) = none := by
          have hc' : byI s (i + (k + 1)) < 128 ∨ 191 < byI s (i + (k + 1)) := hc
          simp only [contF, hcf, Option.bind_some]; rw [if_pos hc']
        have h2 := contF_none h1 (m := more) (by omega)
        rw [hd]; simp only [decAt, hinv, Option.bind_some]; rw [if_pos (by omega), h2]; rfl
      · rw [eT] at hc
        refine meet_eq ((k + 1, 64 * c + byI s (i + (k + 1)) - 128)) ?_ ?_ (Nat.le_of_ble_eq_true rfl) ?_
        · refine ⟨⟨by dsimp only; omega, ?_⟩, by dsimp only; omega⟩
          simp only [contF, hcf, Option.bind_some]; rw [if_neg (fun h => h.elim hc.1 hc.2)]
        · simp [eT, byI]
        · rfl
      · refine ret_le (none_of ?_) (by rfl)
        have e : k = more := by omega
        subst e
        have hbad : badC c least = true := by simp only [badC, decide_eq_true_eq]; omega
        rw [hd]; simp only [decAt, hinv, Option.bind_some]; rw [if_pos (by omega), hcf]; simp only [Option.bind_some, if_pos hbad, Option.bind_none, Option.map_none]
      · have e : k = more := by omega
        subst e
        have hbad : ¬ badC c least = true := by simp only [badC, decide_eq_true_eq]; omega
        refine meet_eq ((i + (k + 1), acc ++ [c], f)) ?_ ?_ (Nat.le_of_ble_eq_true rfl) ?_
        · refine ⟨⟨by dsimp only; omega, by simp; omega, by dsimp only; omega, ?_⟩, by dsimp only; omega⟩
          rw [hd]; simp only [decAt, hinv, Option.bind_some]; rw [if_pos (by omega), hcf]; simp only [Option.bind_some, if_neg hbad, Option.map_map]
          congr 1
          funext l
          simp
        · simp <;> omega
        · simp [i64Row]
  · repeat' (first | ((refine run ?_); conv => whnf) | with_reducible refine split_nt (by assumption) ?_ | with_reducible refine split_nf (by assumption) ?_ | with_reducible refine split_ht (by assumption) ?_ | with_reducible refine split_hf (by assumption) ?_ | ((first | with_reducible refine split_neg (fun hc => ?_) (fun hc => ?_) | refine split (fun hc => ?_) (fun hc => ?_)) <;> (try simp only [bsl, true_implies, false_implies, Int.reduceEq, Int.reduceLT, Int.reduceLE, Nat.reduceLT, Nat.reduceEqDiff] at hc) <;> (try (exfalso; omega)) <;> (try exact (bool_tf hc (by assumption)).elim) <;> (try exact (bool_ft hc (by assumption)).elim)) | refine fact_in (fun hby => ?_) | refine un_rfl ?_ | refine stp ?_ | exact obs | with_reducible refine And.intro ?_ ?_ | refine nrm ?_ | apply row_eq | (apply cut_end <;> first | ((refine run ?_); conv => whnf) | exact obs) | (apply cut_drop <;> first | ((refine run ?_); conv => whnf) | exact obs) | (apply cuts_end <;> first | ((refine run ?_); conv => whnf) | exact obs) | (apply cuts_drop <;> first | ((refine run ?_); conv => whnf) | exact obs) | (apply wrap_in <;> first | ((refine run ?_); conv => whnf) | exact obs | exact eqs) | refine stq ?_ | (apply callP_skip <;> first | ((refine run ?_); conv => whnf) | assumption | (simp only [bsl, *]; done) | (simp [*]; done)) | ((refine open_in ?_ ?_) <;> first | ((refine run ?_); conv => whnf) | kernel_rfl) | exact eqs | (intro _; rfl))
    refine ret_le ?_ (by rfl)
    have hn : decS s = some acc := by
      rw [hd]
      cases f with
      | zero => simp [decL]
      | succ f => simp [decL, hlt]
    simp only [decT, hn]
    exact ple_tup ⟨ple_slc (.inr rfl) rfl (.inl rfl), .refl _, trivial⟩
instance {s : List UInt8} : Con Sx0 23 [.str s] (s.length ≤ 1000000) (.tup [.slc 1 ((decT s).map i64Row) none, .bool (decS s).isSome]) := con (Decode_call s)
end Go.Proofs.YteenamolccbcfaaDoor.Ai
