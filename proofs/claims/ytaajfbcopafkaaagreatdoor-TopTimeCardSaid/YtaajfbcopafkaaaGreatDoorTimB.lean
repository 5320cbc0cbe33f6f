/- Times: Element, Text, Of. Own work of this seat. -/
import Derived.Test.YtaajfbcopafkaaaGreatDoorTimA
namespace Go.Proofs.YtaajfbcopafkaaaGreatDoor.Ai
open Go
set_option linter.unusedSimpArgs false
set_option linter.unusedVariables false
set_option maxHeartbeats 4000000
set_option maxRecDepth 100000
def Tim.tag (t : Tim) : Int := if t.utc = true then 23 else 24
def Tim.ev (t : Tim) : AVal := .agg [.int .u8 0, .bool false, .int .u32 t.tag, .slc 1 (t.bytes.map bytesRow) (some t.bytes.length), .slc 0 [] (some 0)]
theorem timElem_call (t : Tim) (h : t.ok) : CallF Cx 6 [t.av] [] (.tup [t.ev, .int .i64 0]) [] := by
  have hc := timCheck_call t h
  obtain ⟨y, mo, d, h, mi, s⟩ := t
  obtain ⟨a1, a2, a3, a4, a5, a6⟩ := h
  dsimp only at a1 a2 a3 a4 a5 a6 hc
  have hb := daysI_bd y mo
  have cc : Con Sx0 20 [.agg [.int .i64 y, .int .i64 mo, .int .i64 d, .int .i64 h, .int .i64 mi, .int .i64 s]] True (.int .i64 0) := con0 hc
  have c4 : Con Sx0 21 [.int .i64 y, .int .i64 4] True (.str [dgt (y / 1000), dgt (y / 100 % 10), dgt (y / 10 % 10), dgt (y % 10)]) := con0 (digits4_call y a1)
  unfold Tim.av
  dsimp only
  by_cases hu : 1950 ≤ y ∧ y ≤ 2049
  · have e : Tim.utc ⟨y, mo, d, h, mi, s⟩ = true := by simp [Tim.utc, hu]
    refine sy_call (X := Sx0) (fun _ => false) [] [] (fn := Tryz.f6) Tryz.func6 rfl (by decide) rfl rfl ?_
    repeat' (first | (apply run; conv => whnf) | (refine splitT ?_ ?_; focus (simp; done)) | (refine splitF ?_ ?_; focus (simp; done)) | (with_reducible first | refine snt ?_ | refine snf ?_ | refine sht ?_ | refine shf ?_) | ((first | with_reducible refine split_neg (fun hc => ?_) (fun hc => ?_) | refine split (fun hc => ?_) (fun hc => ?_)) <;> (try simp only [bsl, true_implies, false_implies, Int.reduceEq, Int.reduceLT, Int.reduceLE, Nat.reduceLT, Nat.reduceEqDiff] at hc) <;> try first | (exfalso; omega) | exact btf hc | exact bft hc) | refine loop_round ?_ | (refine obs ?_; focus (simp [Ob, dig2, dig4]; done)) | refine fact_in (fun hby => ?_) | refine un_rfl ?_ | refine stp ?_ | exact obs | with_reducible refine And.intro ?_ ?_ | refine nrm ?_ | apply row_eq | refine cte ?_ | refine ctd ?_ | refine cse ?_ | refine csd ?_ | refine wrp ?_ | refine stq ?_ | refine cps ?_ | refine opn ?_ | exact eqs | (intro _; rfl))
    refine ret_eq ?_ (by rfl)
    simp [Tim.ev, Tim.tag, Tim.bytes, Tim.rest, e, dig2, show y % 100 / 10 = y / 10 % 10 by omega, show y % 100 % 10 = y % 10 by omega]
  · have e : Tim.utc ⟨y, mo, d, h, mi, s⟩ = false := by simp [Tim.utc]; omega
    refine sy_call (X := Sx0) (fun _ => false) [] [] (fn := Tryz.f6) Tryz.func6 rfl (by decide) rfl rfl ?_
    repeat' (first | (apply run; conv => whnf) | (refine splitT ?_ ?_; focus (simp; done)) | (refine splitF ?_ ?_; focus (simp; done)) | (with_reducible first | refine snt ?_ | refine snf ?_ | refine sht ?_ | refine shf ?_) | ((first | with_reducible refine split_neg (fun hc => ?_) (fun hc => ?_) | refine split (fun hc => ?_) (fun hc => ?_)) <;> (try simp only [bsl, true_implies, false_implies, Int.reduceEq, Int.reduceLT, Int.reduceLE, Nat.reduceLT, Nat.reduceEqDiff] at hc) <;> try first | (exfalso; omega) | exact btf hc | exact bft hc) | refine loop_round ?_ | (refine obs ?_; focus (simp [Ob, dig2, dig4]; done)) | refine fact_in (fun hby => ?_) | refine un_rfl ?_ | refine stp ?_ | exact obs | with_reducible refine And.intro ?_ ?_ | refine nrm ?_ | apply row_eq | refine cte ?_ | refine ctd ?_ | refine cse ?_ | refine csd ?_ | refine wrp ?_ | refine stq ?_ | refine cps ?_ | refine opn ?_ | exact eqs | (intro _; rfl))
    all_goals first
      | (exfalso; omega)
      | (refine ret_eq ?_ (by rfl); simp [Tim.ev, Tim.tag, Tim.bytes, Tim.rest, e, dig4])
def Tim.text (t : Tim) : List UInt8 := dig4 t.y ++ ([45] ++ (dig2 t.mo ++ ([45] ++ (dig2 t.d ++ ([84] ++ (dig2 t.h ++ ([58] ++ (dig2 t.mi ++ ([58] ++ (dig2 t.s ++ [90]))))))))))
theorem timText_call (t : Tim) (h : t.ok) : CallF Cx 8 [t.av] [] (.str t.text) [] := by
  have hc := timCheck_call t h
  obtain ⟨y, mo, d, h, mi, s⟩ := t
  obtain ⟨a1, a2, a3, a4, a5, a6⟩ := h
  dsimp only at a1 a2 a3 a4 a5 a6 hc
  have hb := daysI_bd y mo
  have cc : Con Sx0 20 [.agg [.int .i64 y, .int .i64 mo, .int .i64 d, .int .i64 h, .int .i64 mi, .int .i64 s]] True (.int .i64 0) := con0 hc
  unfold Tim.av
  dsimp only
  refine sy_call (X := Sx0) (fun _ => false) [] [] (fn := Tryz.f8) Tryz.func8 rfl (by decide) rfl rfl ?_
  repeat' (first | (apply run; conv => whnf) | (with_reducible first | refine snt ?_ | refine snf ?_ | refine sht ?_ | refine shf ?_) | ((first | with_reducible refine split_neg (fun hc => ?_) (fun hc => ?_) | refine split (fun hc => ?_) (fun hc => ?_)) <;> (try simp only [bsl, true_implies, false_implies, Int.reduceEq, Int.reduceLT, Int.reduceLE, Nat.reduceLT, Nat.reduceEqDiff] at hc) <;> try first | (exfalso; omega) | exact btf hc | exact bft hc) | (refine obs ?_; focus (simp [Ob, dig2, dig4]; done)) | refine fact_in (fun hby => ?_) | refine un_rfl ?_ | refine stp ?_ | exact obs | with_reducible refine And.intro ?_ ?_ | refine nrm ?_ | apply row_eq | refine cte ?_ | refine ctd ?_ | refine cse ?_ | refine csd ?_ | refine wrp ?_ | refine stq ?_ | refine cps ?_ | refine opn ?_ | exact eqs | (intro _; rfl))
  refine ret_eq ?_ (by rfl)
  simp [Tim.text]
/-! What the runs of Of ask for. -/
theorem nth_z {α : Type} [Inhabited α] {x : α} {l : List α} : nth (x :: l) 0 = x := rfl
theorem nth_s {α : Type} [Inhabited α] {x : α} {l : List α} {n : Nat} : nth (x :: l) (n + 1) = nth l n := rfl
instance : Inl Sx0 64 (Tryz.f64.body.getD .skip) Tryz.f64.results.toList Tryz.f64.ntmps := inl Tryz.func64 rfl (by decide) rfl rfl
instance : Inl Sx0 113 (Tryz.f113.body.getD .skip) Tryz.f113.results.toList Tryz.f113.ntmps := inl Tryz.func113 rfl (by decide) rfl rfl
instance : Inl Sx0 114 (Tryz.f114.body.getD .skip) Tryz.f114.results.toList Tryz.f114.ntmps := inl Tryz.func114 rfl (by decide) rfl rfl
theorem drp_z {α : Type} {l : List α} : List.drop 0 l = l := rfl
theorem drp_s {α : Type} {x : α} {l : List α} {n : Nat} : List.drop (n + 1) (x :: l) = List.drop n l := rfl
/-- A digit. -/
def isD (x : UInt8) : Prop := 48 ≤ x.toNat ∧ x.toNat ≤ 57
def num2 (a b : UInt8) : Int := 10 * ((a.toNat : Int) - 48) + ((b.toNat : Int) - 48)
def num4 (a b c d : UInt8) : Int := 10 * (10 * (10 * ((a.toNat : Int) - 48) + ((b.toNat : Int) - 48)) + ((c.toNat : Int) - 48)) + ((d.toNat : Int) - 48)
end Go.Proofs.YtaajfbcopafkaaaGreatDoor.Ai
