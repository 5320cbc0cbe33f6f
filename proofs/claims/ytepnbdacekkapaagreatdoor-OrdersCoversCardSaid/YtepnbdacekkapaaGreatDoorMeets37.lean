/- Needs of chapter 37: whether they are valid, and whether a set meets them. Own work of this seat. -/
import Derived.Test.YtepnbdacekkapaaGreatDoorMem37
import Derived.Test.YtepnbdacekkapaaGreatDoorLives37
namespace Go.Proofs.YtepnbdacekkapaaGreatDoor.Ai
open Go
set_option linter.unusedSimpArgs false
set_option linter.unusedVariables false
set_option maxHeartbeats 4000000
set_option maxRecDepth 100000
instance : Con Sx0 31 [] True (.bool true) := con0 lives37
def bRow (b : Bool) : List AVal := [.bool b]
abbrev needs (nv al fr : Bool) (l : List Od) (c : Option Nat) : AVal := .agg [.bool nv, .bool al, .bool fr, .slc 17 (l.map oidRow) c]
abbrev needsB (nv al fr : Bool) (l : List Od) (c : Option Nat) : List AVal := [.bool nv, .bool al, .bool fr, .slc 17 (l.map oidRow) c]
def cntB : List Bool → Nat → Int
  | _, 0 => 0
  | l, k + 1 => if nth l k = true then cntB l k + 1 else cntB l k
theorem cntB_t {l : List Bool} {k : Nat} (h : nth l k = true) : cntB l (k + 1) = cntB l k + 1 := if_pos h
theorem cntB_f {l : List Bool} {k : Nat} (h : nth l k = false) : cntB l (k + 1) = cntB l k := if_neg (by rw [h]; exact Bool.noConfusion)
theorem cntB_le (l : List Bool) : ∀ k : Nat, 0 ≤ cntB l k ∧ cntB l k ≤ k
  | 0 => ⟨Int.le_refl 0, Int.le_refl 0⟩
  | k + 1 => by
    have := cntB_le l k
    rw [cntB]
    split <;> omega
def manyN (nv al fr : Bool) (l : List Od) : List Bool := [nv, al, fr, decide (0 < l.length)]
def badN (nv al fr : Bool) (l : List Od) : Prop := ¬ cntB (manyN nv al fr l) 4 = 1 ∨ ¬ chkS l = 0 ∨ l.any (isO anyO) = true
noncomputable instance (nv al fr : Bool) (l : List Od) : Decidable (badN nv al fr l) := by unfold badN; infer_instance
noncomputable def chkN (nv al fr : Bool) (l : List Od) : Int := if badN nv al fr l then 1 else 0
theorem chkN_call (nv al fr : Bool) (l : List Od) (c : Option Nat) (h : okL l) : CallF Cx 64 [needs nv al fr l c] [] (.int .i64 (chkN nv al fr l)) [] := by
  have hlen := h.1
  obtain ⟨bl, hbl⟩ : ∃ bl, bl = manyN nv al fr l := ⟨_, rfl⟩
  have hbn : bl.length = 4 := by rw [hbl]; rfl
  have hbm : [[.bool nv], [.bool al], [.bool fr], [.bool (decide (0 < (l.length : Int)))]] = bl.map bRow := by rw [hbl]; simp [manyN, bRow]
  refine sy_call (X := Sx0) (fun _ => false) [] [] (fn := Tryz.f64) Tryz.func64 rfl (by decide) rfl rfl ?_
  repeat' (first | ((refine run ?_); conv => whnf) | with_reducible refine split_nt (by assumption) ?_ | with_reducible refine split_nf (by assumption) ?_ | with_reducible refine split_ht (by assumption) ?_ | with_reducible refine split_hf (by assumption) ?_ | ((first | with_reducible refine split_neg (fun hc => ?_) (fun hc => ?_) | refine split (fun hc => ?_) (fun hc => ?_)) <;> (try simp only [bsl, true_implies, false_implies, Int.reduceEq, Int.reduceLT, Int.reduceLE, Nat.reduceLT, Nat.reduceEqDiff] at hc) <;> (try (exfalso; omega)) <;> (try exact (bool_tf hc (by assumption)).elim) <;> (try exact (bool_ft hc (by assumption)).elim)) | refine fact_in (fun hby => ?_) | refine un_rfl ?_ | refine stp ?_ | exact obs | with_reducible refine And.intro ?_ ?_ | refine nrm ?_ | apply row_eq | (apply cut_end <;> first | ((refine run ?_); conv => whnf) | exact obs) | (apply cut_drop <;> first | ((refine run ?_); conv => whnf) | exact obs) | (apply cuts_end <;> first | ((refine run ?_); conv => whnf) | exact obs) | (apply cuts_drop <;> first | ((refine run ?_); conv => whnf) | exact obs) | (apply wrap_in <;> first | ((refine run ?_); conv => whnf) | exact obs | exact eqs) | refine stq ?_ | (apply callP_skip <;> first | ((refine run ?_); conv => whnf) | assumption | (simp only [bsl, *]; done) | (simp [*]; done)) | ((refine open_in ?_ ?_) <;> first | ((refine run ?_); conv => whnf) | kernel_rfl) | exact eqs | (intro _; rfl))
  refine loop_rule (α := Nat) [3, 16, 17, 18] 1 (fun k => [.int .i64 (cntB bl k), .slc 1 (bl.map bRow) (some 4), .int .i64 4, .int .i64 k]) (fun k => [.cells 80 (needsB nv al fr l c)]) (fun k => k ≤ 4) (fun k => 4 - k) (0) (fun _ => rfl) (by decide) ?_
  ((refine run ?_); conv => whnf)
  refine goal_in ⟨?_, fit_eq ?_, sto_take (n := 1) (Nat.le_of_ble_eq_true rfl) ?_⟩ (fun k hinv => ?_)
  · exact Nat.zero_le _
  · rw [← hbm]; rfl
  · rfl
  have hb4 := cntB_le bl k
  by_cases hlt : k < 4
  · repeat' (first | ((refine run ?_); conv => whnf) | with_reducible refine split_nt (by assumption) ?_ | with_reducible refine split_nf (by assumption) ?_ | with_reducible refine split_ht (by assumption) ?_ | with_reducible refine split_hf (by assumption) ?_ | ((first | with_reducible refine split_neg (fun hc => ?_) (fun hc => ?_) | refine split (fun hc => ?_) (fun hc => ?_)) <;> (try simp only [bsl, true_implies, false_implies, Int.reduceEq, Int.reduceLT, Int.reduceLE, Nat.reduceLT, Nat.reduceEqDiff] at hc) <;> (try (exfalso; omega)) <;> (try exact (bool_tf hc (by assumption)).elim) <;> (try exact (bool_ft hc (by assumption)).elim)) | refine fact_in (fun hby => ?_) | refine un_rfl ?_ | refine stp ?_ | exact obs | with_reducible refine And.intro ?_ ?_ | refine nrm ?_ | apply row_eq | (apply cut_end <;> first | ((refine run ?_); conv => whnf) | exact obs) | (apply cut_drop <;> first | ((refine run ?_); conv => whnf) | exact obs) | (apply cuts_end <;> first | ((refine run ?_); conv => whnf) | exact obs) | (apply cuts_drop <;> first | ((refine run ?_); conv => whnf) | exact obs) | (apply wrap_in <;> first | ((refine run ?_); conv => whnf) | exact obs | exact eqs) | refine stq ?_ | (apply callP_skip <;> first | ((refine run ?_); conv => whnf) | assumption | (simp only [bsl, *]; done) | (simp [*]; done)) | ((refine open_in ?_ ?_) <;> first | ((refine run ?_); conv => whnf) | kernel_rfl) | exact eqs | (intro _; rfl))
    · refine meet_eq (k + 1) ?_ ?_ (Nat.le_of_ble_eq_true rfl) ?_
      · exact ⟨by dsimp only; omega, by dsimp only; omega⟩
      · rw [cntB_t hc]; rfl
      · rfl
    · refine meet_eq (k + 1) ?_ ?_ (Nat.le_of_ble_eq_true rfl) ?_
      · exact ⟨by dsimp only; omega, by dsimp only; omega⟩
      · rw [cntB_f hc]; rfl
      · rfl
  · have hk4 : k = 4 := by omega
    subst hk4
    repeat' (first | ((refine run ?_); conv => whnf) | with_reducible refine split_nt (by assumption) ?_ | with_reducible refine split_nf (by assumption) ?_ | with_reducible refine split_ht (by assumption) ?_ | with_reducible refine split_hf (by assumption) ?_ | ((first | with_reducible refine split_neg (fun hc => ?_) (fun hc => ?_) | refine split (fun hc => ?_) (fun hc => ?_)) <;> (try simp only [bsl, true_implies, false_implies, Int.reduceEq, Int.reduceLT, Int.reduceLE, Nat.reduceLT, Nat.reduceEqDiff] at hc) <;> (try (exfalso; omega)) <;> (try exact (bool_tf hc (by assumption)).elim) <;> (try exact (bool_ft hc (by assumption)).elim)) | refine fact_in (fun hby => ?_) | refine un_rfl ?_ | refine stp ?_ | exact obs | with_reducible refine And.intro ?_ ?_ | refine nrm ?_ | apply row_eq | (apply cut_end <;> first | ((refine run ?_); conv => whnf) | exact obs) | (apply cut_drop <;> first | ((refine run ?_); conv => whnf) | exact obs) | (apply cuts_end <;> first | ((refine run ?_); conv => whnf) | exact obs) | (apply cuts_drop <;> first | ((refine run ?_); conv => whnf) | exact obs) | (apply wrap_in <;> first | ((refine run ?_); conv => whnf) | exact obs | exact eqs) | refine stq ?_ | (apply callP_skip <;> first | ((refine run ?_); conv => whnf) | assumption | (simp only [bsl, *]; done) | (simp [*]; done)) | ((refine open_in ?_ ?_) <;> first | ((refine run ?_); conv => whnf) | kernel_rfl) | exact eqs | (intro _; rfl))
    · have e : chkN nv al fr l = 1 := by
        refine if_pos ?_
        unfold badN
        rw [← hbl]
        rcases hc with (hc | hc) | hc
        · exact .inl hc
        · exact .inr (.inl hc)
        · exact .inr (.inr hc)
      refine ret_eq ?_ (by rfl); rw [e]
    · have e : chkN nv al fr l = 0 := by
        refine if_neg ?_
        unfold badN
        rw [← hbl]
        rintro (h | h | h)
        · exact h hc.1.1
        · exact h hc.1.2
        · rw [hc.2] at h; cases h
      refine ret_eq ?_ (by rfl); rw [e]
instance {nv al fr : Bool} {l : List Od} {c : Option Nat} : Con Sx0 64 [needs nv al fr l c] (okL l) (.int .i64 (chkN nv al fr l)) := con (chkN_call nv al fr l c)
/-! The function that Meets gives on. -/
noncomputable def inO (l : List Od) (p : Od) : Bool := isO p anyO || l.any (isO p)
theorem inO_call (nv al fr : Bool) (l : List Od) (c : Option Nat) (p : Od) (h : l.length ≤ 1000) : CallF Cx 66 [.agg (oidRow p), .rptr (needsB nv al fr l c)] [] (.bool (inO l p)) [] := by
  have hq : (decide (p.n = anyO.n) && (decide (p.a0 = anyO.a0) && (decide (p.a1 = anyO.a1) && (decide (p.a2 = anyO.a2) && (decide (p.a3 = anyO.a3) && (decide (p.a4 = anyO.a4) && (decide (p.a5 = anyO.a5) && (decide (p.a6 = anyO.a6) && (decide (p.a7 = anyO.a7) && (decide (p.a8 = anyO.a8) && (decide (p.a9 = anyO.a9) && (decide (p.a10 = anyO.a10) && (decide (p.a11 = anyO.a11) && (decide (p.a12 = anyO.a12) && (decide (p.a13 = anyO.a13) && (decide (p.a14 = anyO.a14) && (decide (p.a15 = anyO.a15) && true))))))))))))))))) = isO p anyO := od_dec p anyO
  refine sy_call (X := Sx0) (fun _ => false) [] [] (fn := Tryz.f66) Tryz.func66 rfl (by decide) rfl rfl ?_
  repeat' (first | ((refine run ?_); conv => whnf) | with_reducible refine split_nt (by assumption) ?_ | with_reducible refine split_nf (by assumption) ?_ | with_reducible refine split_ht (by assumption) ?_ | with_reducible refine split_hf (by assumption) ?_ | ((first | with_reducible refine split_neg (fun hc => ?_) (fun hc => ?_) | refine split (fun hc => ?_) (fun hc => ?_)) <;> (try simp only [bsl, true_implies, false_implies, Int.reduceEq, Int.reduceLT, Int.reduceLE, Nat.reduceLT, Nat.reduceEqDiff] at hc) <;> (try (exfalso; omega)) <;> (try exact (bool_tf hc (by assumption)).elim) <;> (try exact (bool_ft hc (by assumption)).elim)) | refine fact_in (fun hby => ?_) | refine un_rfl ?_ | refine stp ?_ | exact obs | with_reducible refine And.intro ?_ ?_ | refine nrm ?_ | apply row_eq | (apply cut_end <;> first | ((refine run ?_); conv => whnf) | exact obs) | (apply cut_drop <;> first | ((refine run ?_); conv => whnf) | exact obs) | (apply cuts_end <;> first | ((refine run ?_); conv => whnf) | exact obs) | (apply cuts_drop <;> first | ((refine run ?_); conv => whnf) | exact obs) | (apply wrap_in <;> first | ((refine run ?_); conv => whnf) | exact obs | exact eqs) | refine stq ?_ | (apply callP_skip <;> first | ((refine run ?_); conv => whnf) | assumption | (simp only [bsl, *]; done) | (simp [*]; done)) | ((refine open_in ?_ ?_) <;> first | ((refine run ?_); conv => whnf) | kernel_rfl) | exact eqs | (intro _; rfl))
  refine ret_eq ?_ (by rfl); rw [hq]; rfl
abbrev fnN (nv al fr : Bool) (l : List Od) (c : Option Nat) : AVal := .func 66 [] [.rptr (needsB nv al fr l c)]
instance {nv al fr : Bool} {l : List Od} {c : Option Nat} {p : Od} : Con Sx0 66 [.agg [.int .u8 p.n, .int .u32 p.a0, .int .u32 p.a1, .int .u32 p.a2, .int .u32 p.a3, .int .u32 p.a4, .int .u32 p.a5, .int .u32 p.a6, .int .u32 p.a7, .int .u32 p.a8, .int .u32 p.a9, .int .u32 p.a10, .int .u32 p.a11, .int .u32 p.a12, .int .u32 p.a13, .int .u32 p.a14, .int .u32 p.a15], .rptr (needsB nv al fr l c)] (l.length ≤ 1000) (.bool (inO l p)) := con (inO_call nv al fr l c p)
theorem IndexF_call (nv al fr : Bool) (l : List Od) (c : Option Nat) (u : List Od) (d : Option Nat) (hl : l.length ≤ 1000) (hu : u.length ≤ 1000) : CallF Cx 100 [oids u d, fnN nv al fr l c] [] (.int .i64 (idxI (inO l) u 0)) [] := by
  have e : idxI (inO l) u 0 = idxI (inO l) (u.drop 0) 0 := rfl
  rw [e]
  refine sy_call (X := Sx0) (fun _ => false) [] [] (fn := Tryz.f100) Tryz.func100 rfl (by decide) rfl rfl ?_
  repeat' (first | ((refine run ?_); conv => whnf) | with_reducible refine split_nt (by assumption) ?_ | with_reducible refine split_nf (by assumption) ?_ | with_reducible refine split_ht (by assumption) ?_ | with_reducible refine split_hf (by assumption) ?_ | ((first | with_reducible refine split_neg (fun hc => ?_) (fun hc => ?_) | refine split (fun hc => ?_) (fun hc => ?_)) <;> (try simp only [bsl, true_implies, false_implies, Int.reduceEq, Int.reduceLT, Int.reduceLE, Nat.reduceLT, Nat.reduceEqDiff] at hc) <;> (try (exfalso; omega)) <;> (try exact (bool_tf hc (by assumption)).elim) <;> (try exact (bool_ft hc (by assumption)).elim)) | refine fact_in (fun hby => ?_) | refine un_rfl ?_ | refine stp ?_ | exact obs | with_reducible refine And.intro ?_ ?_ | refine nrm ?_ | apply row_eq | (apply cut_end <;> first | ((refine run ?_); conv => whnf) | exact obs) | (apply cut_drop <;> first | ((refine run ?_); conv => whnf) | exact obs) | (apply cuts_end <;> first | ((refine run ?_); conv => whnf) | exact obs) | (apply cuts_drop <;> first | ((refine run ?_); conv => whnf) | exact obs) | (apply wrap_in <;> first | ((refine run ?_); conv => whnf) | exact obs | exact eqs) | refine stq ?_ | (apply callP_skip <;> first | ((refine run ?_); conv => whnf) | assumption | (simp only [bsl, *]; done) | (simp [*]; done)) | ((refine open_in ?_ ?_) <;> first | ((refine run ?_); conv => whnf) | kernel_rfl) | exact eqs | (intro _; rfl))
  refine loop_rule (α := Nat) [8] 0 (fun k => [.int .i64 k]) (fun k => []) (fun k => k ≤ u.length ∧ idxI (inO l) (u.drop 0) 0 = idxI (inO l) (u.drop k) k) (fun k => u.length - k) (0) (fun _ => rfl) (by decide) ?_
  ((refine run ?_); conv => whnf)
  refine goal_in ⟨?_, fit_eq ?_, sto_take (n := 0) (Nat.le_of_ble_eq_true rfl) ?_⟩ (fun k hinv => ?_)
  · exact ⟨Nat.zero_le _, rfl⟩
  · rfl
  · rfl
  obtain ⟨hk, he⟩ := hinv
  by_cases hlt : k < u.length
  · repeat' (first | ((refine run ?_); conv => whnf) | with_reducible refine split_nt (by assumption) ?_ | with_reducible refine split_nf (by assumption) ?_ | with_reducible refine split_ht (by assumption) ?_ | with_reducible refine split_hf (by assumption) ?_ | ((first | with_reducible refine split_neg (fun hc => ?_) (fun hc => ?_) | refine split (fun hc => ?_) (fun hc => ?_)) <;> (try simp only [bsl, true_implies, false_implies, Int.reduceEq, Int.reduceLT, Int.reduceLE, Nat.reduceLT, Nat.reduceEqDiff] at hc) <;> (try (exfalso; omega)) <;> (try exact (bool_tf hc (by assumption)).elim) <;> (try exact (bool_ft hc (by assumption)).elim)) | refine fact_in (fun hby => ?_) | refine un_rfl ?_ | refine stp ?_ | exact obs | with_reducible refine And.intro ?_ ?_ | refine nrm ?_ | apply row_eq | (apply cut_end <;> first | ((refine run ?_); conv => whnf) | exact obs) | (apply cut_drop <;> first | ((refine run ?_); conv => whnf) | exact obs) | (apply cuts_end <;> first | ((refine run ?_); conv => whnf) | exact obs) | (apply cuts_drop <;> first | ((refine run ?_); conv => whnf) | exact obs) | (apply wrap_in <;> first | ((refine run ?_); conv => whnf) | exact obs | exact eqs) | refine stq ?_ | (apply callP_skip <;> first | ((refine run ?_); conv => whnf) | assumption | (simp only [bsl, *]; done) | (simp [*]; done)) | ((refine open_in ?_ ?_) <;> first | ((refine run ?_); conv => whnf) | kernel_rfl) | exact eqs | (intro _; rfl))
    · refine ret_eq ?_ (by rfl); rw [he, idxI_hit (f := inO l) hlt hc]
    · refine meet_eq (k + 1) ?_ ?_ (Nat.le_of_ble_eq_true rfl) ?_
      · exact ⟨⟨by omega, he.trans (idxI_miss (f := inO l) hlt (by rw [hc]; exact Bool.noConfusion))⟩, by dsimp only; omega⟩
      · rfl
      · rfl
  · have hn := idxI_end (f := inO l) (Nat.le_of_not_lt hlt)
    repeat' (first | ((refine run ?_); conv => whnf) | with_reducible refine split_nt (by assumption) ?_ | with_reducible refine split_nf (by assumption) ?_ | with_reducible refine split_ht (by assumption) ?_ | with_reducible refine split_hf (by assumption) ?_ | ((first | with_reducible refine split_neg (fun hc => ?_) (fun hc => ?_) | refine split (fun hc => ?_) (fun hc => ?_)) <;> (try simp only [bsl, true_implies, false_implies, Int.reduceEq, Int.reduceLT, Int.reduceLE, Nat.reduceLT, Nat.reduceEqDiff] at hc) <;> (try (exfalso; omega)) <;> (try exact (bool_tf hc (by assumption)).elim) <;> (try exact (bool_ft hc (by assumption)).elim)) | refine fact_in (fun hby => ?_) | refine un_rfl ?_ | refine stp ?_ | exact obs | with_reducible refine And.intro ?_ ?_ | refine nrm ?_ | apply row_eq | (apply cut_end <;> first | ((refine run ?_); conv => whnf) | exact obs) | (apply cut_drop <;> first | ((refine run ?_); conv => whnf) | exact obs) | (apply cuts_end <;> first | ((refine run ?_); conv => whnf) | exact obs) | (apply cuts_drop <;> first | ((refine run ?_); conv => whnf) | exact obs) | (apply wrap_in <;> first | ((refine run ?_); conv => whnf) | exact obs | exact eqs) | refine stq ?_ | (apply callP_skip <;> first | ((refine run ?_); conv => whnf) | assumption | (simp only [bsl, *]; done) | (simp [*]; done)) | ((refine open_in ?_ ?_) <;> first | ((refine run ?_); conv => whnf) | kernel_rfl) | exact eqs | (intro _; rfl))
    refine ret_eq ?_ (by rfl); rw [he, hn]
instance {nv al fr : Bool} {l : List Od} {c : Option Nat} {u : List Od} {d : Option Nat} : Con Sx0 100 [oids u d, fnN nv al fr l c] (l.length ≤ 1000 ∧ u.length ≤ 1000) (.int .i64 (idxI (inO l) u 0)) := con fun h => IndexF_call nv al fr l c u d h.1 h.2
theorem ContF_call (nv al fr : Bool) (l : List Od) (c : Option Nat) (u : List Od) (d : Option Nat) (hl : l.length ≤ 1000) (hu : u.length ≤ 1000) : CallF Cx 65 [oids u d, fnN nv al fr l c] [] (.bool (u.any (inO l))) [] := by
  have e := idxI_nonneg (inO l) u 0
  have e' : decide (0 ≤ idxI (inO l) u 0) = u.any (inO l) := by
    cases h : u.any (inO l) with
    | true => exact decide_eq_true (e.2 h)
    | false => exact decide_eq_false fun h' => by rw [e.1 h'] at h; cases h
  refine sy_call (X := Sx0) (fun _ => false) [] [] (fn := Tryz.f65) Tryz.func65 rfl (by decide) rfl rfl ?_
  repeat' (first | ((refine run ?_); conv => whnf) | with_reducible refine split_nt (by assumption) ?_ | with_reducible refine split_nf (by assumption) ?_ | with_reducible refine split_ht (by assumption) ?_ | with_reducible refine split_hf (by assumption) ?_ | ((first | with_reducible refine split_neg (fun hc => ?_) (fun hc => ?_) | refine split (fun hc => ?_) (fun hc => ?_)) <;> (try simp only [bsl, true_implies, false_implies, Int.reduceEq, Int.reduceLT, Int.reduceLE, Nat.reduceLT, Nat.reduceEqDiff] at hc) <;> (try (exfalso; omega)) <;> (try exact (bool_tf hc (by assumption)).elim) <;> (try exact (bool_ft hc (by assumption)).elim)) | refine fact_in (fun hby => ?_) | refine un_rfl ?_ | refine stp ?_ | exact obs | with_reducible refine And.intro ?_ ?_ | refine nrm ?_ | apply row_eq | (apply cut_end <;> first | ((refine run ?_); conv => whnf) | exact obs) | (apply cut_drop <;> first | ((refine run ?_); conv => whnf) | exact obs) | (apply cuts_end <;> first | ((refine run ?_); conv => whnf) | exact obs) | (apply cuts_drop <;> first | ((refine run ?_); conv => whnf) | exact obs) | (apply wrap_in <;> first | ((refine run ?_); conv => whnf) | exact obs | exact eqs) | refine stq ?_ | (apply callP_skip <;> first | ((refine run ?_); conv => whnf) | assumption | (simp only [bsl, *]; done) | (simp [*]; done)) | ((refine open_in ?_ ?_) <;> first | ((refine run ?_); conv => whnf) | kernel_rfl) | exact eqs | (intro _; rfl))
  refine ret_eq ?_ (by rfl); rw [← e']
instance {nv al fr : Bool} {l : List Od} {c : Option Nat} {u : List Od} {d : Option Nat} : Con Sx0 65 [oids u d, fnN nv al fr l c] (l.length ≤ 1000 ∧ u.length ≤ 1000) (.bool (u.any (inO l))) := con fun h => ContF_call nv al fr l c u d h.1 h.2
noncomputable def metE (nv al fr : Bool) (l u : List Od) : Int := if chkN nv al fr l = 0 then chkS u else chkN nv al fr l
noncomputable def metV (nv al fr : Bool) (l u : List Od) : Bool := if metE nv al fr l u = 0 then (if al = true ∨ nv = true then al else if fr = true then decide (0 < u.length) else u.any (inO l)) else false
theorem Meets_call (nv al fr : Bool) (l : List Od) (c : Option Nat) (u : List Od) (d : Option Nat) (hl : okL l) (hu : okL u) : CallF Cx 38 [needs nv al fr l c, oids u d] [] (.tup [.bool (metV nv al fr l u), .int .i64 (metE nv al fr l u)]) [] := by
  have h1 := hl.1
  have h2 := hu.1
  have hp : l.length ≤ 1000 ∧ u.length ≤ 1000 := ⟨h1, h2⟩
  refine sy_call (X := Sx0) (fun _ => false) [] [] (fn := Tryz.f38) Tryz.func38 rfl (by decide) rfl rfl ?_
  repeat' (first | ((refine run ?_); conv => whnf) | with_reducible refine split_nt (by assumption) ?_ | with_reducible refine split_nf (by assumption) ?_ | with_reducible refine split_ht (by assumption) ?_ | with_reducible refine split_hf (by assumption) ?_ | ((first | with_reducible refine split_neg (fun hc => ?_) (fun hc => ?_) | refine split (fun hc => ?_) (fun hc => ?_)) <;> (try simp only [bsl, true_implies, false_implies, Int.reduceEq, Int.reduceLT, Int.reduceLE, Nat.reduceLT, Nat.reduceEqDiff] at hc) <;> (try (exfalso; omega)) <;> (try exact (bool_tf hc (by assumption)).elim) <;> (try exact (bool_ft hc (by assumption)).elim)) | refine fact_in (fun hby => ?_) | refine un_rfl ?_ | refine stp ?_ | exact obs | with_reducible refine And.intro ?_ ?_ | refine nrm ?_ | apply row_eq | (apply cut_end <;> first | ((refine run ?_); conv => whnf) | exact obs) | (apply cut_drop <;> first | ((refine run ?_); conv => whnf) | exact obs) | (apply cuts_end <;> first | ((refine run ?_); conv => whnf) | exact obs) | (apply cuts_drop <;> first | ((refine run ?_); conv => whnf) | exact obs) | (apply wrap_in <;> first | ((refine run ?_); conv => whnf) | exact obs | exact eqs) | refine stq ?_ | (apply callP_skip <;> first | ((refine run ?_); conv => whnf) | assumption | (simp only [bsl, *]; done) | (simp [*]; done)) | ((refine open_in ?_ ?_) <;> first | ((refine run ?_); conv => whnf) | kernel_rfl) | exact eqs | (intro _; rfl))
  all_goals first
    | (refine ret_eq ?_ (by rfl); simp [metV, metE, *]; done)
    | (rename_i e; obtain ⟨rfl, rfl⟩ := e; cases fr <;> simp at * <;> refine ret_eq ?_ (by rfl) <;> simp [metV, metE, *]; done)
instance {nv al fr : Bool} {l : List Od} {c : Option Nat} {u : List Od} {d : Option Nat} : Con Sx0 38 [needs nv al fr l c, oids u d] (okL l ∧ okL u) (.tup [.bool (metV nv al fr l u), .int .i64 (metE nv al fr l u)]) := con fun h => Meets_call nv al fr l c u d h.1 h.2
end Go.Proofs.YtepnbdacekkapaaGreatDoor.Ai
