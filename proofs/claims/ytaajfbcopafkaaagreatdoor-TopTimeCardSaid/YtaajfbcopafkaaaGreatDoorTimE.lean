/- TopTime. Own work of this seat. -/
import Derived.Test.YtaajfbcopafkaaaGreatDoorTimD
import Derived.Test.YtaajfbcopafkaaaGreatDoorLive11
namespace Go.Proofs.YtaajfbcopafkaaaGreatDoor.Ai
open Go
set_option linter.unusedSimpArgs false
set_option linter.unusedVariables false
set_option maxHeartbeats 4000000
set_option maxRecDepth 100000
instance {a b : List UInt8} {c d : Option Nat} : Con Sx0 78 [.slc 1 (a.map bytesRow) c, .slc 1 (b.map bytesRow) d] True (.int .i64 (Lib.compareBytes a b)) := con0 (X_call (.bcmp a b c d))
theorem bytesCmp_call (a b : List UInt8) (c d : Option Nat) : CallF Cx 37 [.slc 1 (a.map bytesRow) c, .slc 1 (b.map bytesRow) d] [] (.int .i64 (Lib.compareBytes a b)) [] := by
  refine sy_call (X := Sx0) (fun _ => false) [] [] (fn := Tryz.f37) Tryz.func37 rfl (by decide) rfl rfl ?_
  repeat' (first | (apply run; conv => whnf) | (with_reducible first | refine snt ?_ | refine snf ?_ | refine sht ?_ | refine shf ?_) | ((first | with_reducible refine split_neg (fun hc => ?_) (fun hc => ?_) | refine split (fun hc => ?_) (fun hc => ?_)) <;> (try simp only [bsl, true_implies, false_implies, Int.reduceEq, Int.reduceLT, Int.reduceLE, Nat.reduceLT, Nat.reduceEqDiff] at hc) <;> try first | (exfalso; omega) | exact btf hc | exact bft hc) | refine fact_in (fun hby => ?_) | refine un_rfl ?_ | refine stp ?_ | exact obs | with_reducible refine And.intro ?_ ?_ | refine nrm ?_ | apply row_eq | refine cte ?_ | refine ctd ?_ | refine cse ?_ | refine csd ?_ | refine wrp ?_ | refine stq ?_ | refine cps ?_ | refine opn ?_ | exact eqs | (intro _; rfl))
  refine ret_eq ?_ (by rfl); rfl
instance {a b : List UInt8} {c d : Option Nat} : Con Sx0 37 [.slc 1 (a.map bytesRow) c, .slc 1 (b.map bytesRow) d] True (.int .i64 (Lib.compareBytes a b)) := con0 (bytesCmp_call a b c d)
theorem cmp_same (x : UInt8) (a b : List UInt8) : Lib.compareBytes (x :: a) (x :: b) = Lib.compareBytes a b := by
  simp [Lib.compareBytes]
theorem elCmp_call (k : Int) (a b : List UInt8) (ca cb : Option Nat) (n : Nat) (ha : a.length = n) (hb : b.length = n) (h : k = 23 ∧ n = 13 ∨ k = 24 ∧ n = 15) : CallF Cx 10 [.agg [.int .u8 0, .bool false, .int .u32 k, .slc 1 (a.map bytesRow) ca, .slc 5 [] (some 0)], .agg [.int .u8 0, .bool false, .int .u32 k, .slc 1 (b.map bytesRow) cb, .slc 5 [] (some 0)]] [] (.int .i64 (Lib.compareBytes a b)) [] := by
  have d1 := @con0 Sx0 _ _ _ (timPut_call k a ca n ha h)
  have d2 := @con0 Sx0 _ _ _ (timPut_call k b cb n hb h)
  refine sy_call (X := Sx0) (fun _ => false) [] [] (fn := Tryz.f10) Tryz.func10 rfl (by decide) rfl rfl ?_
  repeat' (first | (apply run; conv => whnf) | (with_reducible first | refine snt ?_ | refine snf ?_ | refine sht ?_ | refine shf ?_) | ((first | with_reducible refine split_neg (fun hc => ?_) (fun hc => ?_) | refine split (fun hc => ?_) (fun hc => ?_)) <;> (try simp only [bsl, true_implies, false_implies, Int.reduceEq, Int.reduceLT, Int.reduceLE, Nat.reduceLT, Nat.reduceEqDiff] at hc) <;> try first | (exfalso; omega) | exact btf hc | exact bft hc) | refine fact_in (fun hby => ?_) | refine un_rfl ?_ | refine stp ?_ | exact obs | with_reducible refine And.intro ?_ ?_ | refine nrm ?_ | apply row_eq | refine cte ?_ | refine ctd ?_ | refine cse ?_ | refine csd ?_ | refine wrp ?_ | refine stq ?_ | refine cps ?_ | refine opn ?_ | exact eqs | (intro _; rfl))
  refine ret_eq ?_ (by rfl)
  rw [cmp_same, cmp_same]
theorem topTime_run (x1 x2 x3 x4 x5 x6 z1 z2 z3 z4 z5 z6 : Nat) (y1 m1 d1 h1 i1 s1 y2 m2 d2 h2 i2 s2 k l c : Int) (a b : List UInt8) (ca cb : Option Nat) (tx : List UInt8)
    (o1 : Con Sx0 5 [.agg [.int .u16 x1, .int .u8 x2, .int .u8 x3, .int .u8 x4, .int .u8 x5, .int .u8 x6]] True (.agg [.int .i64 y1, .int .i64 m1, .int .i64 d1, .int .i64 h1, .int .i64 i1, .int .i64 s1]))
    (o2 : Con Sx0 5 [.agg [.int .u16 z1, .int .u8 z2, .int .u8 z3, .int .u8 z4, .int .u8 z5, .int .u8 z6]] True (.agg [.int .i64 y2, .int .i64 m2, .int .i64 d2, .int .i64 h2, .int .i64 i2, .int .i64 s2]))
    (e1 : Con Sx0 6 [.agg [.int .i64 y1, .int .i64 m1, .int .i64 d1, .int .i64 h1, .int .i64 i1, .int .i64 s1]] True (.tup [.agg [.int .u8 0, .bool false, .int .u32 k, .slc 1 (a.map bytesRow) ca, .slc 0 [] (some 0)], .int .i64 0]))
    (e2 : Con Sx0 6 [.agg [.int .i64 y2, .int .i64 m2, .int .i64 d2, .int .i64 h2, .int .i64 i2, .int .i64 s2]] True (.tup [.agg [.int .u8 0, .bool false, .int .u32 l, .slc 1 (b.map bytesRow) cb, .slc 0 [] (some 0)], .int .i64 0]))
    (v1 : Con Sx0 7 [.agg [.int .u8 0, .bool false, .int .u32 k, .slc 1 (a.map bytesRow) ca, .slc 0 [] (some 0)]] True (.str tx))
    (v2 : Con Sx0 8 [.agg [.int .i64 y1, .int .i64 m1, .int .i64 d1, .int .i64 h1, .int .i64 i1, .int .i64 s1]] True (.str tx))
    (c1 : Con Sx0 11 [.agg [.int .i64 y1, .int .i64 m1, .int .i64 d1, .int .i64 h1, .int .i64 i1, .int .i64 s1], .agg [.int .i64 y2, .int .i64 m2, .int .i64 d2, .int .i64 h2, .int .i64 i2, .int .i64 s2]] True (.int .i64 c))
    (c2 : Con Sx0 10 [.agg [.int .u8 0, .bool false, .int .u32 k, .slc 1 (a.map bytesRow) ca, .slc 0 [] (some 0)], .agg [.int .u8 0, .bool false, .int .u32 l, .slc 1 (b.map bytesRow) cb, .slc 0 [] (some 0)]] (k = l ∧ (k = 23 → (y1 < 2000 ↔ y2 < 2000))) (.int .i64 c))
    (hk : (k = 23 ∨ k = 24) ∧ (l = 23 ∨ l = 24)) : CallF Cx 3 [.agg [.int .u16 x1, .int .u8 x2, .int .u8 x3, .int .u8 x4, .int .u8 x5, .int .u8 x6], .agg [.int .u16 z1, .int .u8 z2, .int .u8 z3, .int .u8 z4, .int .u8 z5, .int .u8 z6]] [] (.bool true) [] := by
  obtain ⟨rfl | rfl, rfl | rfl⟩ := hk
  all_goals
    refine sy_call (X := Sx0) (fun _ => false) [] [] (fn := Tryz.f3) Tryz.func3 rfl (by decide) rfl rfl ?_
    repeat' (first | (apply run; conv => whnf) | (with_reducible first | refine snt ?_ | refine snf ?_ | refine sht ?_ | refine shf ?_) | ((first | with_reducible refine split_neg (fun hc => ?_) (fun hc => ?_) | refine split (fun hc => ?_) (fun hc => ?_)) <;> (try simp only [bsl, true_implies, false_implies, Int.reduceEq, Int.reduceLT, Int.reduceLE, Nat.reduceLT, Nat.reduceEqDiff] at hc) <;> try first | (exfalso; omega) | exact btf hc | exact bft hc) | refine fact_in (fun hby => ?_) | refine un_rfl ?_ | refine stp ?_ | exact obs | with_reducible refine And.intro ?_ ?_ | refine nrm ?_ | apply row_eq | refine cte ?_ | refine ctd ?_ | refine cse ?_ | refine csd ?_ | refine wrp ?_ | refine stq ?_ | refine cps ?_ | refine opn ?_ | exact eqs | (intro _; rfl))
    all_goals first
      | (simp only [Ob]; exact ⟨rfl, fun _ => by simpa using hc⟩)
      | (simp only [Ob]; simpa using hc)
      | (exfalso; omega)
      | (exfalso; simp_all; done)
      | (refine ret_eq ?_ (by rfl); rfl)
      | (refine ret_eq ?_ (by rfl); simp)
theorem lawTopTime (x1 x2 x3 x4 x5 x6 z1 z2 z3 z4 z5 z6 : Nat) (hx : x1 ≤ 65535 ∧ x2 ≤ 255 ∧ x3 ≤ 255 ∧ x4 ≤ 255 ∧ x5 ≤ 255 ∧ x6 ≤ 255) (hz : z1 ≤ 65535 ∧ z2 ≤ 255 ∧ z3 ≤ 255 ∧ z4 ≤ 255 ∧ z5 ≤ 255 ∧ z6 ≤ 255) :
    CallF Cx 3 [.agg [.int .u16 x1, .int .u8 x2, .int .u8 x3, .int .u8 x4, .int .u8 x5, .int .u8 x6], .agg [.int .u16 z1, .int .u8 z2, .int .u8 z3, .int .u8 z4, .int .u8 z5, .int .u8 z6]] [] (.bool true) [] := by
  have o1 := TOf_call x1 x2 x3 x4 x5 x6 hx.1 hx.2.1 hx.2.2.1 hx.2.2.2.1 hx.2.2.2.2.1 hx.2.2.2.2.2
  have o2 := TOf_call z1 z2 z3 z4 z5 z6 hz.1 hz.2.1 hz.2.2.1 hz.2.2.2.1 hz.2.2.2.2.1 hz.2.2.2.2.2
  have k1 : (timOf x1 x2 x3 x4 x5 x6).ok := timOf_ok (by omega)
  have k2 : (timOf z1 z2 z3 z4 z5 z6).ok := timOf_ok (by omega)
  generalize timOf x1 x2 x3 x4 x5 x6 = s at *
  generalize timOf z1 z2 z3 z4 z5 z6 = t at *
  have hs := tim_len s
  have ht := tim_len t
  have hc := cmp_bytes k1 k2
  have us : s.utc = decide (1950 ≤ s.y ∧ s.y ≤ 2049) := rfl
  refine topTime_run x1 x2 x3 x4 x5 x6 z1 z2 z3 z4 z5 z6 s.y s.mo s.d s.h s.mi s.s t.y t.mo t.d t.h t.mi t.s s.tag t.tag (s.cmp t) s.bytes t.bytes (some s.bytes.length) (some t.bytes.length) s.text (con0 o1) (con0 o2) (con0 (timElem_call s k1)) (con0 (timElem_call t k2)) (con5 (Value_call s k1 _)) (con0 (timText_call s k1)) (con0 (timCmp_call s t)) ?_ (by omega)
  refine ⟨fun hp => ?_⟩
  have e : s.utc = t.utc := by
    rcases hs with ⟨p, p', _⟩ | ⟨p, p', _⟩ <;> rcases ht with ⟨q, q', _⟩ | ⟨q, q', _⟩ <;> first | (rw [p, q]; done) | (exfalso; have := hp.1; omega)
  have hc := hc e fun hu => hp.2 (by rcases hs with ⟨p, p', _⟩ | ⟨p, p', _⟩ <;> first | exact p' | (rw [p] at hu; cases hu))
  have hl : s.bytes.length = t.bytes.length := by
    have := hp.1
    omega
  have ec := elCmp_call s.tag s.bytes t.bytes (some s.bytes.length) (some t.bytes.length) s.bytes.length rfl hl.symm (by omega)
  rw [hc] at ec
  have ec' := con55 (l := s.tag) ec
  rw [← hp.1]
  exact ec'.1 trivial
end Go.Proofs.YtaajfbcopafkaaaGreatDoor.Ai
