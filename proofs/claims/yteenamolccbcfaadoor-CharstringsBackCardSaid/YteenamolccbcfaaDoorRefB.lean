/- The reference's Check, Put, Get. Own work of this seat. -/
import Derived.Test.YteenamolccbcfaaDoorDecode
namespace Go.Proofs.YteenamolccbcfaaDoor.Ai
open Go
set_option linter.unusedSimpArgs false
set_option linter.unusedVariables false
set_option maxHeartbeats 4000000
set_option maxRecDepth 100000
theorem decL_bd {s : List UInt8} : ∀ {f i : Nat} {l : List Int}, decL s f i = some l → (∀ c, c ∈ l → 0 ≤ c ∧ c ≤ 1114111) ∧ l.length ≤ f := by
  intro f
  induction f with
  | zero => intro i l h; simp only [decL, Option.some.injEq] at h; subst h; exact ⟨by simp, by simp⟩
  | succ f ih =>
    intro i l h
    simp only [decL] at h
    split at h
    · obtain ⟨p, h1, h2⟩ := Option.bind_eq_some_iff.1 h
      obtain ⟨m, h3, rfl⟩ := Option.map_eq_some_iff.1 h2
      obtain ⟨h4, h5⟩ := ih h3
      refine ⟨fun c hc => ?_, by simp; omega⟩
      rcases List.mem_cons.1 hc with rfl | hc
      · unfold decAt at h1
        obtain ⟨q, e1, e2⟩ := Option.bind_eq_some_iff.1 h1
        have hq := cls_bd (byI_bd s i).1 e1
        split at e2
        · obtain ⟨c, e3, e4⟩ := Option.bind_eq_some_iff.1 e2
          split at e4
          · cases e4
          · rename_i hb
            simp only [Option.some.injEq] at e4
            subst e4
            simp only [badC, decide_eq_true_eq] at hb
            dsimp only
            omega
        · cases e2
      · exact h4 c hc
    · simp only [Option.some.injEq] at h; subst h; exact ⟨by simp, by simp⟩
theorem decT_bd (s : List UInt8) : (∀ c, c ∈ decT s → 0 ≤ c ∧ c ≤ 1114111) ∧ (decT s).length ≤ s.length := by
  unfold decT decS
  cases h : decL s s.length 0 with
  | none => exact ⟨by simp, by simp⟩
  | some l => exact decL_bd h
def checkI (k : Int) (s : List UInt8) : Int := if kindI k = 0 then 9 else if 65536 < s.length then 3 else if (decS s).isSome && (decT s).all (hasB k) then 0 else 11
theorem refCheck_call (k : Int) (s : List UInt8) (hs : s.length ≤ 1000000) : CallF Cx 15 [.agg [.int .u32 k, .str s]] [] (.int .i64 (checkI k s)) [] := by
  have hd := decT_bd s
  refine sy_call (X := Sx0) (fun _ => false) [] [] (fn := Tryd.f15) Tryd.func15 rfl (by decide) rfl rfl ?_
  repeat' (first | ((refine run ?_); conv => whnf) | with_reducible refine split_nt (by assumption) ?_ | with_reducible refine split_nf (by assumption) ?_ | with_reducible refine split_ht (by assumption) ?_ | with_reducible refine split_hf (by assumption) ?_ | ((first | with_reducible refine split_neg (fun hc => ?_) (fun hc => ?_) | refine split (fun hc => ?_) (fun hc => ?_)) <;> (try simp only [bsl, true_implies, false_implies, Int.reduceEq, Int.reduceLT, Int.reduceLE, Nat.reduceLT, Nat.reduceEqDiff] at hc) <;> (try (exfalso; omega)) <;> (try exact (bool_tf hc (by assumption)).elim) <;> (try exact (bool_ft hc (by assumption)).elim)) | refine fact_in (fun hby => ?_) | refine un_rfl ?_ | refine stp ?_ | exact obs | with_reducible refine And.intro ?_ ?_ | refine nrm ?_ | apply row_eq | (apply cut_end <;> first | ((refine run ?_); conv => whnf) | exact obs) | (apply cut_drop <;> first | ((refine run ?_); conv => whnf) | exact obs) | (apply cuts_end <;> first | ((refine run ?_); conv => whnf) | exact obs) | (apply cuts_drop <;> first | ((refine run ?_); conv => whnf) | exact obs) | (apply wrap_in <;> first | ((refine run ?_); conv => whnf) | exact obs | exact eqs) | refine stq ?_ | (apply callP_skip <;> first | ((refine run ?_); conv => whnf) | assumption | (simp only [bsl, *]; done) | (simp [*]; done)) | ((refine open_in ?_ ?_) <;> first | ((refine run ?_); conv => whnf) | kernel_rfl) | exact eqs | (intro _; rfl))
  · refine ret_eq ?_ (by rfl); simp [checkI, hc]
  · refine ret_eq ?_ (by rfl)
    have : 65536 < s.length := by omega
    simp [checkI, this, *]
  · refine ret_eq ?_ (by rfl)
    have : ¬ 65536 < s.length := by omega
    simp [checkI, this, *]
  have hl : ¬ 65536 < s.length := by omega
  refine loop_rule (α := Nat) [5] 1 (fun i => [.int .i64 i]) (fun i => [.cells 26 [.int .u32 k, .str s]]) (fun i => i ≤ (decT s).length ∧ ∀ j, j < i → hasB k (nth (decT s) j) = true) (fun i => (decT s).length - i) (0) (fun _ => rfl) (by decide) ?_
  ((refine run ?_); conv => whnf)
  refine goal_in ⟨?_, fit_eq ?_, sto_take (n := 1) (Nat.le_of_ble_eq_true rfl) ?_⟩ (fun i hinv => ?_)
  · exact ⟨Nat.zero_le _, fun j hj => by omega⟩
  · rfl
  · rfl
  repeat' (first | ((refine run ?_); conv => whnf) | with_reducible refine split_nt (by assumption) ?_ | with_reducible refine split_nf (by assumption) ?_ | with_reducible refine split_ht (by assumption) ?_ | with_reducible refine split_hf (by assumption) ?_ | ((first | with_reducible refine split_neg (fun hc => ?_) (fun hc => ?_) | refine split (fun hc => ?_) (fun hc => ?_)) <;> (try simp only [bsl, true_implies, false_implies, Int.reduceEq, Int.reduceLT, Int.reduceLE, Nat.reduceLT, Nat.reduceEqDiff] at hc) <;> (try (exfalso; omega)) <;> (try exact (bool_tf hc (by assumption)).elim) <;> (try exact (bool_ft hc (by assumption)).elim)) | refine fact_in (fun hby => ?_) | refine un_rfl ?_ | refine stp ?_ | exact obs | with_reducible refine And.intro ?_ ?_ | refine nrm ?_ | apply row_eq | (apply cut_end <;> first | ((refine run ?_); conv => whnf) | exact obs) | (apply cut_drop <;> first | ((refine run ?_); conv => whnf) | exact obs) | (apply cuts_end <;> first | ((refine run ?_); conv => whnf) | exact obs) | (apply cuts_drop <;> first | ((refine run ?_); conv => whnf) | exact obs) | (apply wrap_in <;> first | ((refine run ?_); conv => whnf) | exact obs | exact eqs) | refine stq ?_ | (apply callP_skip <;> first | ((refine run ?_); conv => whnf) | assumption | (simp only [bsl, *]; done) | (simp [*]; done)) | ((refine open_in ?_ ?_) <;> first | ((refine run ?_); conv => whnf) | kernel_rfl) | exact eqs | (intro _; rfl))
  · refine ret_eq ?_ (by rfl)
    have : (decT s).all (hasB k) = false := all_false_nth (i := i) (by omega) hc
    simp [checkI, hl, this, *]
  · refine meet_eq (i + 1) ?_ ?_ (Nat.le_of_ble_eq_true rfl) ?_
    · refine ⟨⟨by omega, fun j hj => ?_⟩, by dsimp only; omega⟩
      by_cases e : j = i
      · subst e; exact hc
      · exact hinv.2 j (by omega)
    · simp
    · rfl
  · refine ret_eq ?_ (by rfl)
    have : (decT s).all (hasB k) = true := all_nth fun j hj => hinv.2 j (by omega)
    simp [checkI, hl, this, *]
instance {k : Int} {s : List UInt8} : Con Sx0 15 [.agg [.int .u32 k, .str s]] (s.length ≤ 1000000) (.int .i64 (checkI k s)) := con (refCheck_call k s)
def putOne (k c : Int) : List Int := if k = 30 then [c / 256 % 256, c % 256] else [c % 256]
def putL (k : Int) (l : List Int) : List Int := (l.map (putOne k)).flatten
theorem putL_step {k : Int} {l : List Int} {i : Nat} (h : i < l.length) : putL k (l.take (i + 1)) = putL k (l.take i) ++ putOne k (nth l i) := by unfold putL; rw [take_nth h]; simp
def putI (k : Int) (s : List UInt8) : List UInt8 := if k = 12 then s else (putL k (decT s)).map fun n => UInt8.ofNat n.toNat
theorem putOne_len (k : Int) (l : List Int) : ∀ i, (putL k (l.take i)).length ≤ 2 * i := by
  intro i
  induction i with
  | zero => simp [putL]
  | succ i ih =>
    by_cases h : i < l.length
    · have : (putOne k (nth l i)).length ≤ 2 := by unfold putOne; split <;> simp
      rw [putL_step h, List.length_append]; omega
    · have : l.take (i + 1) = l.take i := by rw [List.take_of_length_le (by omega), List.take_of_length_le (by omega)]
      rw [this]; omega
theorem putOne_bd {k : Int} {l : List Int} : ∀ n, n ∈ putL k l → 0 ≤ n ∧ n ≤ 255 := by
  intro n hn
  obtain ⟨m, hm, hn⟩ := List.mem_flatten.1 hn
  obtain ⟨c, _, rfl⟩ := List.mem_map.1 hm
  unfold putOne at hn
  split at hn <;> simp at hn <;> omega
theorem bytes_rows {l : List Int} (h : ∀ n, n ∈ l → 0 ≤ n ∧ n ≤ 255) : (l.map fun n => UInt8.ofNat n.toNat).map bytesRow = l.map u8Row := by
  rw [List.map_map]
  refine List.map_congr_left fun n hn => ?_
  have := h n hn
  have e : (n.toNat % 256 : Nat) = n.toNat := Nat.mod_eq_of_lt (by omega)
  simp [bytesRow, u8Row, UInt8.toNat_ofNat', e]
  omega
theorem refPut_call (k : Int) (s : List UInt8) (hs : s.length ≤ 1000000) : CallF Cx 29 [.agg [.int .u32 k, .str s]] [] (.slc 1 ((putI k s).map bytesRow) none) [] := by
  have hd := decT_bd s
  refine sy_call (X := Sx0) (fun _ => false) [] [(5, 5, 1)] (fn := Tryd.f29) Tryd.func29 rfl (by decide) rfl rfl ?_
  repeat' (first | ((refine run ?_); conv => whnf) | with_reducible refine split_nt (by assumption) ?_ | with_reducible refine split_nf (by assumption) ?_ | with_reducible refine split_ht (by assumption) ?_ | with_reducible refine split_hf (by assumption) ?_ | ((first | with_reducible refine split_neg (fun hc => ?_) (fun hc => ?_) | refine split (fun hc => ?_) (fun hc => ?_)) <;> (try simp only [bsl, true_implies, false_implies, Int.reduceEq, Int.reduceLT, Int.reduceLE, Nat.reduceLT, Nat.reduceEqDiff] at hc) <;> (try (exfalso; omega)) <;> (try exact (bool_tf hc (by assumption)).elim) <;> (try exact (bool_ft hc (by assumption)).elim)) | refine fact_in (fun hby => ?_) | refine un_rfl ?_ | refine stp ?_ | exact obs | with_reducible refine And.intro ?_ ?_ | refine nrm ?_ | apply row_eq | (apply cut_end <;> first | ((refine run ?_); conv => whnf) | exact obs) | (apply cut_drop <;> first | ((refine run ?_); conv => whnf) | exact obs) | (apply cuts_end <;> first | ((refine run ?_); conv => whnf) | exact obs) | (apply cuts_drop <;> first | ((refine run ?_); conv => whnf) | exact obs) | (apply wrap_in <;> first | ((refine run ?_); conv => whnf) | exact obs | exact eqs) | refine stq ?_ | (apply callP_skip <;> first | ((refine run ?_); conv => whnf) | assumption | (simp only [bsl, *]; done) | (simp [*]; done)) | ((refine open_in ?_ ?_) <;> first | ((refine run ?_); conv => whnf) | kernel_rfl) | exact eqs | (intro _; rfl))
  · refine ret_eq ?_ (by rfl); simp [putI, hc]
  refine loop_rule (α := Nat) [5, 6] 2 (fun i => [.bsl 1 (putL k ((decT s).take i)).length, .int .i64 i]) (fun i => [.cells 26 [.int .u32 k, .str s], .mk 5 1 ((putL k ((decT s).take i)).map u8Row)]) (fun i => i ≤ (decT s).length) (fun i => (decT s).length - i) (0) (fun _ => rfl) (by decide) ?_
  ((refine run ?_); conv => whnf)
  refine goal_in ⟨?_, fit_eq ?_, sto_take (n := 2) (Nat.le_of_ble_eq_true rfl) ?_⟩ (fun i hinv => ?_)
  · simp
  · simp [putL]
  · simp [putL]
  have hb := putOne_len k (decT s) i
  by_cases hi : i < (decT s).length
  · have hc0 := hd.1 _ (nth_mem hi)
    have hs := putL_step (k := k) hi
    repeat' (first | ((refine run ?_); conv => whnf) | with_reducible refine split_nt (by assumption) ?_ | with_reducible refine split_nf (by assumption) ?_ | with_reducible refine split_ht (by assumption) ?_ | with_reducible refine split_hf (by assumption) ?_ | ((first | with_reducible refine split_neg (fun hc => ?_) (fun hc => ?_) | refine split (fun hc => ?_) (fun hc => ?_)) <;> (try simp only [bsl, true_implies, false_implies, Int.reduceEq, Int.reduceLT, Int.reduceLE, Nat.reduceLT, Nat.reduceEqDiff] at hc) <;> (try (exfalso; omega)) <;> (try exact (bool_tf hc (by assumption)).elim) <;> (try exact (bool_ft hc (by assumption)).elim)) | refine fact_in (fun hby => ?_) | refine un_rfl ?_ | refine stp ?_ | exact obs | with_reducible refine And.intro ?_ ?_ | refine nrm ?_ | apply row_eq | (apply cut_end <;> first | ((refine run ?_); conv => whnf) | exact obs) | (apply cut_drop <;> first | ((refine run ?_); conv => whnf) | exact obs) | (apply cuts_end <;> first | ((refine run ?_); conv => whnf) | exact obs) | (apply cuts_drop <;> first | ((refine run ?_); conv => whnf) | exact obs) | (apply wrap_in <;> first | ((refine run ?_); conv => whnf) | exact obs | exact eqs) | refine stq ?_ | (apply callP_skip <;> first | ((refine run ?_); conv => whnf) | assumption | (simp only [bsl, *]; done) | (simp [*]; done)) | ((refine open_in ?_ ?_) <;> first | ((refine run ?_); conv => whnf) | kernel_rfl) | exact eqs | (intro _; rfl))
    all_goals
      refine meet_eq (i + 1) ?_ ?_ (Nat.le_of_ble_eq_true rfl) ?_
      · exact ⟨by dsimp only; omega, by dsimp only; omega⟩
      · rw [hs]; simp [putOne, *]
      · rw [hs]; simp [putOne, u8Row, *]
  · repeat' (first | ((refine run ?_); conv => whnf) | with_reducible refine split_nt (by assumption) ?_ | with_reducible refine split_nf (by assumption) ?_ | with_reducible refine split_ht (by assumption) ?_ | with_reducible refine split_hf (by assumption) ?_ | ((first | with_reducible refine split_neg (fun hc => ?_) (fun hc => ?_) | refine split (fun hc => ?_) (fun hc => ?_)) <;> (try simp only [bsl, true_implies, false_implies, Int.reduceEq, Int.reduceLT, Int.reduceLE, Nat.reduceLT, Nat.reduceEqDiff] at hc) <;> (try (exfalso; omega)) <;> (try exact (bool_tf hc (by assumption)).elim) <;> (try exact (bool_ft hc (by assumption)).elim)) | refine fact_in (fun hby => ?_) | refine un_rfl ?_ | refine stp ?_ | exact obs | with_reducible refine And.intro ?_ ?_ | refine nrm ?_ | apply row_eq | (apply cut_end <;> first | ((refine run ?_); conv => whnf) | exact obs) | (apply cut_drop <;> first | ((refine run ?_); conv => whnf) | exact obs) | (apply cuts_end <;> first | ((refine run ?_); conv => whnf) | exact obs) | (apply cuts_drop <;> first | ((refine run ?_); conv => whnf) | exact obs) | (apply wrap_in <;> first | ((refine run ?_); conv => whnf) | exact obs | exact eqs) | refine stq ?_ | (apply callP_skip <;> first | ((refine run ?_); conv => whnf) | assumption | (simp only [bsl, *]; done) | (simp [*]; done)) | ((refine open_in ?_ ?_) <;> first | ((refine run ?_); conv => whnf) | kernel_rfl) | exact eqs | (intro _; rfl))
    refine ret_le ?_ (by rfl)
    rw [List.take_of_length_le (by omega)]
    refine ple_slc (.inr rfl) ?_ (.inl rfl)
    have h12 : ¬ k = 12 := by assumption
    simp only [putI, if_neg h12]
    exact (bytes_rows putOne_bd).symm
instance {k : Int} {s : List UInt8} : Con Sx0 29 [.agg [.int .u32 k, .str s]] (s.length ≤ 1000000) (.slc 1 ((putI k s).map bytesRow) none) := con (refPut_call k s)
def pairs : List UInt8 → List Int
  | a :: b :: r => (256 * (a.toNat : Int) + b.toNat) :: pairs r
  | _ => []
theorem hasB_bd {k c : Int} (h : hasB k c = true) : 0 ≤ c ∧ c ≤ 1114111 := by
  unfold hasB at h
  simp only [Bool.and_eq_true, decide_eq_true_eq] at h
  omega
theorem pairs_len : ∀ b, (pairs b).length = b.length / 2
  | [] => rfl
  | [a] => by simp [pairs]
  | a :: b :: r => by simp [pairs, pairs_len r]; omega
theorem nth_pairs : ∀ {b : List UInt8} {i : Nat}, 2 * i + 1 < b.length → nth (pairs b) i = 256 * ((nth b (2 * i)).toNat : Int) + (nth b (2 * i + 1)).toNat
  | [], i, h => by simp at h
  | [a], i, h => by simp at h
  | a :: b :: r, 0, h => rfl
  | a :: b :: r, i + 1, h => by
    have := nth_pairs (b := r) (i := i) (by simp at h; omega)
    have e1 : nth (pairs (a :: b :: r)) (i + 1) = nth (pairs r) i := rfl
    have e2 : nth (a :: b :: r) (2 * (i + 1)) = nth r (2 * i) := rfl
    have e3 : nth (a :: b :: r) (2 * (i + 1) + 1) = nth r (2 * i + 1) := rfl
    rw [e1, e2, e3]; exact this
/-- What Get returns: the text, and 0 or the error. -/
def getC (k : Int) (b : List UInt8) : Option (List Int) := if k = 12 then decS b else if k = 30 then (if b.length % 2 = 1 then none else some (pairs b)) else some (b.map fun x => (x.toNat : Int))
def getE (k : Int) (b : List UInt8) : Int := if kindI k = 0 then 9 else if 131072 < b.length then 3 else match getC k b with
  | none => 11
  | some l => if l.all (hasB k) = false then 11 else if 65536 < (encS l).length then 3 else 0
def getT (k : Int) (b : List UInt8) : List UInt8 := if getE k b = 0 then encS ((getC k b).getD []) else []
theorem refGet_call (k : Int) (b : List UInt8) (cap : Option Nat) (hb : b.length ≤ 200000) :
    CallF Cx 11 [.int .u32 k, .slc 1 (b.map bytesRow) cap] [] (.tup [.agg [.int .u32 (if getE k b = 0 then k else 0), .str (getT k b)], .int .i64 (getE k b)]) [] := by
  have hbad : ∀ e : Int, e ≠ 0 → getE k b = e → AVal.tup [.agg [.int .u32 0, .str []], .int .i64 e] = .tup [.agg [.int .u32 (if getE k b = 0 then k else 0), .str (getT k b)], .int .i64 (getE k b)] := by
    intro e he h
    simp [getT, h, he]
  refine sy_call (X := Sx0) (fun _ => false) [1000] [(6, 3, 1)] (fn := Tryd.f11) Tryd.func11 rfl (by decide) rfl rfl ?_
  repeat' (first | ((refine run ?_); conv => whnf) | with_reducible refine split_nt (by assumption) ?_ | with_reducible refine split_nf (by assumption) ?_ | with_reducible refine split_ht (by assumption) ?_ | with_reducible refine split_hf (by assumption) ?_ | ((first | with_reducible refine split_neg (fun hc => ?_) (fun hc => ?_) | refine split (fun hc => ?_) (fun hc => ?_)) <;> (try simp only [bsl, true_implies, false_implies, Int.reduceEq, Int.reduceLT, Int.reduceLE, Nat.reduceLT, Nat.reduceEqDiff] at hc) <;> (try (exfalso; omega)) <;> (try exact (bool_tf hc (by assumption)).elim) <;> (try exact (bool_ft hc (by assumption)).elim)) | refine fact_in (fun hby => ?_) | refine un_rfl ?_ | refine stp ?_ | exact obs | with_reducible refine And.intro ?_ ?_ | refine nrm ?_ | apply row_eq | (apply cut_end <;> first | ((refine run ?_); conv => whnf) | exact obs) | (apply cut_drop <;> first | ((refine run ?_); conv => whnf) | exact obs) | (apply cuts_end <;> first | ((refine run ?_); conv => whnf) | exact obs) | (apply cuts_drop <;> first | ((refine run ?_); conv => whnf) | exact obs) | (apply wrap_in <;> first | ((refine run ?_); conv => whnf) | exact obs | exact eqs) | refine stq ?_ | (apply callP_skip <;> first | ((refine run ?_); conv => whnf) | assumption | (simp only [bsl, *]; done) | (simp [*]; done)) | ((refine open_in ?_ ?_) <;> first | ((refine run ?_); conv => whnf) | kernel_rfl) | exact eqs | (intro _; rfl))
  · refine ret_eq ?_ (by rfl); exact hbad 9 (by decide) (by simp [getE, hc])
  · have h3 : 131072 < b.length := by omega
    refine ret_eq ?_ (by rfl); exact hbad 3 (by decide) (by simp [getE, *])
  have hl : ¬ 131072 < b.length := by omega
  refine join_rule (α := List Int) [6] [6] 2 (fun l => [.slc 1 (l.map i64Row) none]) (fun l => [.cells 26 [.int .u32 0, .str []], .gone]) (fun l => getC k b = some l ∧ l.length ≤ b.length) (fun _ => rfl) (by decide) ?_
  ((refine run ?_); conv => whnf)
  refine goal_run ?_ (fun l hinv => ?_)
  · repeat' (first | ((refine run ?_); conv => whnf) | with_reducible refine split_nt (by assumption) ?_ | with_reducible refine split_nf (by assumption) ?_ | with_reducible refine split_ht (by assumption) ?_ | with_reducible refine split_hf (by assumption) ?_ | ((first | with_reducible refine split_neg (fun hc => ?_) (fun hc => ?_) | refine split (fun hc => ?_) (fun hc => ?_)) <;> (try simp only [bsl, true_implies, false_implies, Int.reduceEq, Int.reduceLT, Int.reduceLE, Nat.reduceLT, Nat.reduceEqDiff] at hc) <;> (try (exfalso; omega)) <;> (try exact (bool_tf hc (by assumption)).elim) <;> (try exact (bool_ft hc (by assumption)).elim)) | refine bytes_map ?_ | refine fact_in (fun hby => ?_) | refine un_rfl ?_ | refine stp ?_ | exact obs | with_reducible refine And.intro ?_ ?_ | refine nrm ?_ | apply row_eq | (apply cut_end <;> first | ((refine run ?_); conv => whnf) | exact obs) | (apply cut_drop <;> first | ((refine run ?_); conv => whnf) | exact obs) | (apply cuts_end <;> first | ((refine run ?_); conv => whnf) | exact obs) | (apply cuts_drop <;> first | ((refine run ?_); conv => whnf) | exact obs) | (apply wrap_in <;> first | ((refine run ?_); conv => whnf) | exact obs | exact eqs) | refine stq ?_ | (apply callP_skip <;> first | ((refine run ?_); conv => whnf) | assumption | (simp only [bsl, *]; done) | (simp [*]; done)) | ((refine open_in ?_ ?_) <;> first | ((refine run ?_); conv => whnf) | kernel_rfl) | exact eqs | (intro _; rfl))
    · have h12 : k = 12 := by assumption
      have hd : decS b = none := by simpa using hc
      refine ret_eq ?_ (by rfl); exact hbad 11 (by decide) (by simp [getE, getC, h12, hd, hl]; decide)
    · have h12 : k = 12 := by assumption
      have hd : decS b = some (decT b) := by
        unfold decT
        cases h : decS b with
        | none => rw [h] at hc; cases hc
        | some l => rfl
      refine meet_in (decT b) ?_ ?_ ?_
      · exact ⟨by simp [getC, h12, hd], (decT_bd b).2⟩
      · exact ⟨.inl rfl, trivial⟩
      · exact ⟨.inr rfl, .inl rfl, trivial⟩
    · have h30 : k = 30 := by assumption
      have hodd : b.length % 2 = 1 := by omega
      refine ret_eq ?_ (by rfl); exact hbad 11 (by decide) (by simp [getE, getC, h30, hodd, hl]; decide)
    · have h30 : k = 30 := by assumption
      have heven : ¬ b.length % 2 = 1 := by omega
      refine loop_rule (α := Nat) [6, 9] 2 (fun i => [.bsl 1 i, .int .i64 (2 * (i : Int))]) (fun i => [.cells 26 [.int .u32 0, .str []], .mk 3 1 (((pairs b).take i).map i64Row)]) (fun i => 2 * i ≤ b.length) (fun i => b.length - 2 * i) (0) (fun _ => rfl) (by decide) ?_
      ((refine run ?_); conv => whnf)
      refine goal_in ⟨?_, fit_eq ?_, sto_take (n := 2) (Nat.le_of_ble_eq_true rfl) ?_⟩ (fun i hinv => ?_)
      · exact Nat.zero_le _
      · rfl
      · rfl
      have hpl := pairs_len b
      by_cases hi : 2 * i < b.length
      · have hn := nth_pairs (b := b) (i := i) (by omega)
        have ht := take_nth (l := pairs b) (i := i) (by omega)
        have e1 : (2 * (i : Int)).toNat = 2 * i := by omega
        have e2 : (2 * (i : Int) + 1).toNat = 2 * i + 1 := by omega
        repeat' (first | ((refine run ?_); conv => whnf) | with_reducible refine split_nt (by assumption) ?_ | with_reducible refine split_nf (by assumption) ?_ | with_reducible refine split_ht (by assumption) ?_ | with_reducible refine split_hf (by assumption) ?_ | ((first | with_reducible refine split_neg (fun hc => ?_) (fun hc => ?_) | refine split (fun hc => ?_) (fun hc => ?_)) <;> (try simp only [bsl, true_implies, false_implies, Int.reduceEq, Int.reduceLT, Int.reduceLE, Nat.reduceLT, Nat.reduceEqDiff] at hc) <;> (try (exfalso; omega)) <;> (try exact (bool_tf hc (by assumption)).elim) <;> (try exact (bool_ft hc (by assumption)).elim)) | refine fact_in (fun hby => ?_) | refine un_rfl ?_ | refine stp ?_ | exact obs | with_reducible refine And.intro ?_ ?_ | refine nrm ?_ | apply row_eq | (apply cut_end <;> first | ((refine run ?_); conv => whnf) | exact obs) | (apply cut_drop <;> first | ((refine run ?_); conv => whnf) | exact obs) | (apply cuts_end <;> first | ((refine run ?_); conv => whnf) | exact obs) | (apply cuts_drop <;> first | ((refine run ?_); conv => whnf) | exact obs) | (apply wrap_in <;> first | ((refine run ?_); conv => whnf) | exact obs | exact eqs) | refine stq ?_ | (apply callP_skip <;> first | ((refine run ?_); conv => whnf) | assumption | (simp only [bsl, *]; done) | (simp [*]; done)) | ((refine open_in ?_ ?_) <;> first | ((refine run ?_); conv => whnf) | kernel_rfl) | exact eqs | (intro _; rfl))
        rw [e1, e2, ← hn]
        refine meet_eq (i + 1) ?_ ?_ (Nat.le_of_ble_eq_true rfl) ?_
        · exact ⟨by dsimp only; omega, by dsimp only; omega⟩
        · simp [List.length_take]; omega
        · rw [ht]; simp [i64Row]
      · repeat' (first | ((refine run ?_); conv => whnf) | with_reducible refine split_nt (by assumption) ?_ | with_reducible refine split_nf (by assumption) ?_ | with_reducible refine split_ht (by assumption) ?_ | with_reducible refine split_hf (by assumption) ?_ | ((first | with_reducible refine split_neg (fun hc => ?_) (fun hc => ?_) | refine split (fun hc => ?_) (fun hc => ?_)) <;> (try simp only [bsl, true_implies, false_implies, Int.reduceEq, Int.reduceLT, Int.reduceLE, Nat.reduceLT, Nat.reduceEqDiff] at hc) <;> (try (exfalso; omega)) <;> (try exact (bool_tf hc (by assumption)).elim) <;> (try exact (bool_ft hc (by assumption)).elim)) | refine fact_in (fun hby => ?_) | refine un_rfl ?_ | refine stp ?_ | exact obs | with_reducible refine And.intro ?_ ?_ | refine nrm ?_ | apply row_eq | (apply cut_end <;> first | ((refine run ?_); conv => whnf) | exact obs) | (apply cut_drop <;> first | ((refine run ?_); conv => whnf) | exact obs) | (apply cuts_end <;> first | ((refine run ?_); conv => whnf) | exact obs) | (apply cuts_drop <;> first | ((refine run ?_); conv => whnf) | exact obs) | (apply wrap_in <;> first | ((refine run ?_); conv => whnf) | exact obs | exact eqs) | refine stq ?_ | (apply callP_skip <;> first | ((refine run ?_); conv => whnf) | assumption | (simp only [bsl, *]; done) | (simp [*]; done)) | ((refine open_in ?_ ?_) <;> first | ((refine run ?_); conv => whnf) | kernel_rfl) | exact eqs | (intro _; rfl))
        have e : i = (pairs b).length := by omega
        subst e
        refine meet_in (pairs b) ?_ ?_ ?_
        · exact ⟨by simp [getC, h30, heven], by omega⟩
        · rw [List.take_length]; exact ⟨.inr ⟨rfl, ple_cap⟩, trivial⟩
        · exact ⟨.inr rfl, .inr rfl, trivial⟩
    · refine loop_rule (α := Nat) [6, 10] 2 (fun i => [.bsl 1 i, .int .i64 i]) (fun i => [.cells 26 [.int .u32 0, .str []], .mk 3 1 (((b.map fun x => (x.toNat : Int)).take i).map i64Row)]) (fun i => i ≤ b.length) (fun i => b.length - i) (0) (fun _ => rfl) (by decide) ?_
      ((refine run ?_); conv => whnf)
      refine goal_in ⟨?_, fit_eq ?_, sto_take (n := 2) (Nat.le_of_ble_eq_true rfl) ?_⟩ (fun i hinv => ?_)
      · exact Nat.zero_le _
      · rfl
      · rfl
      by_cases hi : i < b.length
      · have ht := take_nth (l := b.map fun x => (x.toNat : Int)) (i := i) (by simpa using hi)
        have hn : nth (b.map fun x => (x.toNat : Int)) i = (nth b i).toNat := nth_map hi
        repeat' (first | ((refine run ?_); conv => whnf) | with_reducible refine split_nt (by assumption) ?_ | with_reducible refine split_nf (by assumption) ?_ | with_reducible refine split_ht (by assumption) ?_ | with_reducible refine split_hf (by assumption) ?_ | ((first | with_reducible refine split_neg (fun hc => ?_) (fun hc => ?_) | refine split (fun hc => ?_) (fun hc => ?_)) <;> (try simp only [bsl, true_implies, false_implies, Int.reduceEq, Int.reduceLT, Int.reduceLE, Nat.reduceLT, Nat.reduceEqDiff] at hc) <;> (try (exfalso; omega)) <;> (try exact (bool_tf hc (by assumption)).elim) <;> (try exact (bool_ft hc (by assumption)).elim)) | refine fact_in (fun hby => ?_) | refine un_rfl ?_ | refine stp ?_ | exact obs | with_reducible refine And.intro ?_ ?_ | refine nrm ?_ | apply row_eq | (apply cut_end <;> first | ((refine run ?_); conv => whnf) | exact obs) | (apply cut_drop <;> first | ((refine run ?_); conv => whnf) | exact obs) | (apply cuts_end <;> first | ((refine run ?_); conv => whnf) | exact obs) | (apply cuts_drop <;> first | ((refine run ?_); conv => whnf) | exact obs) | (apply wrap_in <;> first | ((refine run ?_); conv => whnf) | exact obs | exact eqs) | refine stq ?_ | (apply callP_skip <;> first | ((refine run ?_); conv => whnf) | assumption | (simp only [bsl, *]; done) | (simp [*]; done)) | ((refine open_in ?_ ?_) <;> first | ((refine run ?_); conv => whnf) | kernel_rfl) | exact eqs | (intro _; rfl))
        refine meet_eq (i + 1) ?_ ?_ (Nat.le_of_ble_eq_true rfl) ?_
        · exact ⟨by dsimp only; omega, by dsimp only; omega⟩
        · simp [List.length_take]; omega
        · rw [ht, hn]; simp [i64Row]
      · repeat' (first | ((refine run ?_); conv => whnf) | with_reducible refine split_nt (by assumption) ?_ | with_reducible refine split_nf (by assumption) ?_ | with_reducible refine split_ht (by assumption) ?_ | with_reducible refine split_hf (by assumption) ?_ | ((first | with_reducible refine split_neg (fun hc => ?_) (fun hc => ?_) | refine split (fun hc => ?_) (fun hc => ?_)) <;> (try simp only [bsl, true_implies, false_implies, Int.reduceEq, Int.reduceLT, Int.reduceLE, Nat.reduceLT, Nat.reduceEqDiff] at hc) <;> (try (exfalso; omega)) <;> (try exact (bool_tf hc (by assumption)).elim) <;> (try exact (bool_ft hc (by assumption)).elim)) | refine fact_in (fun hby => ?_) | refine un_rfl ?_ | refine stp ?_ | exact obs | with_reducible refine And.intro ?_ ?_ | refine nrm ?_ | apply row_eq | (apply cut_end <;> first | ((refine run ?_); conv => whnf) | exact obs) | (apply cut_drop <;> first | ((refine run ?_); conv => whnf) | exact obs) | (apply cuts_end <;> first | ((refine run ?_); conv => whnf) | exact obs) | (apply cuts_drop <;> first | ((refine run ?_); conv => whnf) | exact obs) | (apply wrap_in <;> first | ((refine run ?_); conv => whnf) | exact obs | exact eqs) | refine stq ?_ | (apply callP_skip <;> first | ((refine run ?_); conv => whnf) | assumption | (simp only [bsl, *]; done) | (simp [*]; done)) | ((refine open_in ?_ ?_) <;> first | ((refine run ?_); conv => whnf) | kernel_rfl) | exact eqs | (intro _; rfl))
        have e : i = (b.map fun x => (x.toNat : Int)).length := by simp; omega
        refine meet_in (b.map fun x => (x.toNat : Int)) ?_ ?_ ?_
        · exact ⟨by simp [getC, *], by simp⟩
        · rw [e, List.take_length]; exact ⟨.inr ⟨rfl, ple_cap⟩, trivial⟩
        · exact ⟨.inr rfl, .inr rfl, trivial⟩
  · obtain ⟨hg, hlen⟩ := hinv
    repeat' (first | ((refine run ?_); conv => whnf) | with_reducible refine split_nt (by assumption) ?_ | with_reducible refine split_nf (by assumption) ?_ | with_reducible refine split_ht (by assumption) ?_ | with_reducible refine split_hf (by assumption) ?_ | ((first | with_reducible refine split_neg (fun hc => ?_) (fun hc => ?_) | refine split (fun hc => ?_) (fun hc => ?_)) <;> (try simp only [bsl, true_implies, false_implies, Int.reduceEq, Int.reduceLT, Int.reduceLE, Nat.reduceLT, Nat.reduceEqDiff] at hc) <;> (try (exfalso; omega)) <;> (try exact (bool_tf hc (by assumption)).elim) <;> (try exact (bool_ft hc (by assumption)).elim)) | refine fact_in (fun hby => ?_) | refine un_rfl ?_ | refine stp ?_ | exact obs | with_reducible refine And.intro ?_ ?_ | refine nrm ?_ | apply row_eq | (apply cut_end <;> first | ((refine run ?_); conv => whnf) | exact obs) | (apply cut_drop <;> first | ((refine run ?_); conv => whnf) | exact obs) | (apply cuts_end <;> first | ((refine run ?_); conv => whnf) | exact obs) | (apply cuts_drop <;> first | ((refine run ?_); conv => whnf) | exact obs) | (apply wrap_in <;> first | ((refine run ?_); conv => whnf) | exact obs | exact eqs) | refine stq ?_ | (apply callP_skip <;> first | ((refine run ?_); conv => whnf) | assumption | (simp only [bsl, *]; done) | (simp [*]; done)) | ((refine open_in ?_ ?_) <;> first | ((refine run ?_); conv => whnf) | kernel_rfl) | exact eqs | (intro _; rfl))
    have hc9 : ¬ kindI k = 0 := by assumption
    refine loop_rule (α := Nat) [11] 2 (fun i => [.int .i64 i]) (fun i => [.cells 26 [.int .u32 0, .str []], .gone]) (fun i => i ≤ l.length ∧ ∀ j, j < i → hasB k (nth l j) = true) (fun i => l.length - i) (0) (fun _ => rfl) (by decide) ?_
    ((refine run ?_); conv => whnf)
    refine goal_in ⟨?_, fit_eq ?_, sto_take (n := 2) (Nat.le_of_ble_eq_true rfl) ?_⟩ (fun i hinv => ?_)
    · exact ⟨Nat.zero_le _, fun j hj => by omega⟩
    · rfl
    · rfl
    have hok : i = l.length → okC l := fun e => ⟨fun c hc => hasB_bd (k := k) (by
      obtain ⟨j, hj, rfl⟩ := List.getElem_of_mem hc
      have := hinv.2 j (by omega)
      rwa [nth_eq hj] at this), by omega⟩
    by_cases hi : i < l.length
    · repeat' (first | ((refine run ?_); conv => whnf) | with_reducible refine split_nt (by assumption) ?_ | with_reducible refine split_nf (by assumption) ?_ | with_reducible refine split_ht (by assumption) ?_ | with_reducible refine split_hf (by assumption) ?_ | ((first | with_reducible refine split_neg (fun hc => ?_) (fun hc => ?_) | refine split (fun hc => ?_) (fun hc => ?_)) <;> (try simp only [bsl, true_implies, false_implies, Int.reduceEq, Int.reduceLT, Int.reduceLE, Nat.reduceLT, Nat.reduceEqDiff] at hc) <;> (try (exfalso; omega)) <;> (try exact (bool_tf hc (by assumption)).elim) <;> (try exact (bool_ft hc (by assumption)).elim)) | refine fact_in (fun hby => ?_) | refine un_rfl ?_ | refine stp ?_ | exact obs | with_reducible refine And.intro ?_ ?_ | refine nrm ?_ | apply row_eq | (apply cut_end <;> first | ((refine run ?_); conv => whnf) | exact obs) | (apply cut_drop <;> first | ((refine run ?_); conv => whnf) | exact obs) | (apply cuts_end <;> first | ((refine run ?_); conv => whnf) | exact obs) | (apply cuts_drop <;> first | ((refine run ?_); conv => whnf) | exact obs) | (apply wrap_in <;> first | ((refine run ?_); conv => whnf) | exact obs | exact eqs) | refine stq ?_ | (apply callP_skip <;> first | ((refine run ?_); conv => whnf) | assumption | (simp only [bsl, *]; done) | (simp [*]; done)) | ((refine open_in ?_ ?_) <;> first | ((refine run ?_); conv => whnf) | kernel_rfl) | exact eqs | (intro _; rfl))
      · have : l.all (hasB k) = false := all_false_nth hi hc
        refine ret_eq ?_ (by rfl); exact hbad 11 (by decide) (by simp [getE, hc9, hl, hg, this])
      · refine meet_eq (i + 1) ?_ ?_ (Nat.le_of_ble_eq_true rfl) ?_
        · refine ⟨⟨by omega, fun j hj => ?_⟩, by dsimp only; omega⟩
          by_cases e : j = i
          · subst e; exact hc
          · exact hinv.2 j (by omega)
        · simp
        · rfl
    · have hok := hok (by omega)
      have hall : l.all (hasB k) = true := all_nth fun j hj => hinv.2 j (by omega)
      repeat' (first | ((refine run ?_); conv => whnf) | with_reducible refine split_nt (by assumption) ?_ | with_reducible refine split_nf (by assumption) ?_ | with_reducible refine split_ht (by assumption) ?_ | with_reducible refine split_hf (by assumption) ?_ | ((first | with_reducible refine split_neg (fun hc => ?_) (fun hc => ?_) | refine split (fun hc => ?_) (fun hc => ?_)) <;> (try simp only [bsl, true_implies, false_implies, Int.reduceEq, Int.reduceLT, Int.reduceLE, Nat.reduceLT, Nat.reduceEqDiff] at hc) <;> (try (exfalso; omega)) <;> (try exact (bool_tf hc (by assumption)).elim) <;> (try exact (bool_ft hc (by assumption)).elim)) | refine fact_in (fun hby => ?_) | refine un_rfl ?_ | refine stp ?_ | exact obs | with_reducible refine And.intro ?_ ?_ | refine nrm ?_ | apply row_eq | (apply cut_end <;> first | ((refine run ?_); conv => whnf) | exact obs) | (apply cut_drop <;> first | ((refine run ?_); conv => whnf) | exact obs) | (apply cuts_end <;> first | ((refine run ?_); conv => whnf) | exact obs) | (apply cuts_drop <;> first | ((refine run ?_); conv => whnf) | exact obs) | (apply wrap_in <;> first | ((refine run ?_); conv => whnf) | exact obs | exact eqs) | refine stq ?_ | (apply callP_skip <;> first | ((refine run ?_); conv => whnf) | assumption | (simp only [bsl, *]; done) | (simp [*]; done)) | ((refine open_in ?_ ?_) <;> first | ((refine run ?_); conv => whnf) | kernel_rfl) | exact eqs | (intro _; rfl))
      · have h3 : 65536 < (encS l).length := by omega
        refine ret_eq ?_ (by rfl); exact hbad 3 (by decide) (by simp [getE, hc9, hl, hg, hall, h3])
      · have h3 : ¬ 65536 < (encS l).length := by omega
        have he : getE k b = 0 := by simp [getE, hc9, hl, hg, hall, h3]
        refine ret_eq ?_ (by rfl)
        simp [getT, he, hg]
instance {k : Int} {b : List UInt8} {cap : Option Nat} : Con Sx0 11 [.int .u32 k, .slc 1 (b.map bytesRow) cap] (b.length ≤ 200000) (.tup [.agg [.int .u32 (if getE k b = 0 then k else 0), .str (getT k b)], .int .i64 (getE k b)]) := con (refGet_call k b cap)
end Go.Proofs.YteenamolccbcfaaDoor.Ai
