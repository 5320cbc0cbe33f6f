/- TopString: a text is converted, written and read again, and its elements have the sizes that its lengths tell. Own work of this seat. -/
import Derived.Test.YtaajfbcopafkaaaGreatDoorTotal
import Derived.Test.YtaajfbcopafkaaaGreatDoorLawP
import Derived.Test.YtaajfbcopafkaaaGreatDoorLive11
namespace Go.Proofs.YtaajfbcopafkaaaGreatDoor.Ai
open Go
set_option linter.unusedSimpArgs false
set_option linter.unusedVariables false
set_option maxHeartbeats 4000000
set_option maxRecDepth 100000
attribute [local irreducible] decodeL
theorem inUtf8 {k c : Int} (h : hasB k c = true) : hasB 12 c = true := by
 unfold hasB at h ⊢
 simp only [Bool.and_eq_true] at h ⊢
 exact ⟨h.1, by simp⟩
theorem toUtf8 {k : Int} {s : List UInt8} (h : checkI k s = 0) : checkI 12 s = 0 := by
 obtain ⟨hk, hl, hs, ha⟩ := checkI_dec h
 unfold checkI
 rw [if_neg (by decide), if_neg (by omega), if_pos]
 simp only [hs, Bool.true_and, List.all_eq_true]
 exact fun c hc => inUtf8 (List.all_eq_true.1 ha c hc)
theorem toBmp {k : Int} {s : List UInt8} (h : checkI k s = 0) : checkI 30 s = 0 ∨ checkI 30 s = 11 := by
 obtain ⟨hk, hl, hs, ha⟩ := checkI_dec h
 unfold checkI
 rw [if_neg (by decide), if_neg (by omega)]
 split
 ·exact .inl rfl
 ·exact .inr rfl
theorem put30_len {s : List UInt8} (h : checkI 30 s = 0) : (putI 30 s).length = 2 * (decT s).length := by
 obtain ⟨hk, hl, hs, ha⟩ := checkI_dec h
 unfold putI
 rw [if_neg (by decide)]
 exact (pairs_back fun c hc => by
  have := List.all_eq_true.1 ha c hc
  rw [← q30] at this
  simp [btwP] at this; omega).2
theorem elem_con {k : Int} {t b : List UInt8} (hk : checkI k t = 0) (hb : putI k t = b) (hl : t.length ≤ 160) : Con Sx0 14 [.agg [.int .u32 k, .str t]] True (.tup [.agg [.int .u8 0, .bool false, .int .u32 k, .slc 1 (b.map bytesRow) (some b.length), .slc 0 [] (some 0)], .int .i64 0]) := con0 (by
 have := Element_call k t (by omega)
 rw [if_pos hk, hk, show putR k t = b by simp [putR, hk, hb]] at this
 exact this)
theorem of_con {k : Int} {t b : List UInt8} (hk : checkI k t = 0) (hb : putI k t = b) : Con Sx0 17 [.agg [.int .u8 0, .bool false, .int .u32 k, .slc 1 (b.map bytesRow) (some b.length), .slc 0 [] (some 0)]] True (.tup [.agg [.int .u32 k, .str t], .int .i64 0]) := by
 subst hb
 obtain ⟨h3, h4, h5⟩ := put_get hk
 have hkk := (checkI_dec hk).1
 have h8 : ofE 0 false k (putI k t) 0 = 0 := by simp [ofE, hkk, h3]
 refine ⟨fun _ => ⟨[.agg [.int .u8 0, .bool false, .int .u32 k, .slc 1 ((putI k t).map bytesRow) (some (putI k t).length), .slc 5 [] (some 0)]], PLs.list ⟨ple_agg ⟨.refl _, .refl _, .refl _, .refl _, ple_nil (.inr rfl), trivial⟩, trivial⟩, ?_⟩⟩
 have := Of_call 0 false k (putI k t) (some (putI k t).length) (some 0) [] (by omega)
 simp only [List.length_nil] at this
 simp only [h8, if_true, h4] at this
 exact this
theorem conv_con {k m e : Int} {t : List UInt8} (hk : checkI k t = 0) (hm : checkI m t = e) (hl : t.length ≤ 160) : Con Sx0 13 [.agg [.int .u32 k, .str t], .int .u32 m] True (.tup [.agg [.int .u32 (if e = 0 then m else 0), .str (if e = 0 then t else [])], .int .i64 e]) := con0 (by
 have := Convert_call k m t (by omega)
 rw [show convE k t m = e by simp [convE, hk, hm]] at this
 exact this)
theorem lawTopString (n : Nat) (cs : List Int) (cap : Option Nat) (h : charsOK n cs) : CallF Cx 4 [.agg [.int .u8 n, .slc 1 (cs.map u32Row) cap]] [] (.bool true) [] := by
 have h1 := check_text n cs
 have h2 := text_len n cs
 have cC : Con Sx0 12 [.agg [.int .u8 n, .slc 1 (cs.map u32Row) cap]] True (.agg [.int .u32 (kindC n), .str (textC n cs)]) := con0 (COf_call n cs cap h.1 h.2.1 h.2.2)
 generalize kindC n = k at *
 generalize textC n cs = t at *
 have h12 := toUtf8 h1
 have c1 := conv_con (m := 12) h1 h12 h2
 have c2 := elem_con h12 (show putI 12 t = t by simp [putI]) h2
 have c3 := of_con h12 (show putI 12 t = t by simp [putI])
 rw [if_pos rfl, if_pos rfl] at c1
 rcases toBmp h1 with h30 | h30
 ·have c4 := conv_con (m := 30) h1 h30 h2
  rw [if_pos rfl, if_pos rfl] at c4
  have hlen := put30_len h30
  have hb := (put_get h30).2.2
  generalize hp : putI 30 t = b at *
  have c5 := elem_con h30 hp h2
  have c6 := of_con h30 hp
  have c7 : Con Sx0 18 [.agg [.int .u32 k, .str t]] True (.int .i64 (decT t).length) := con0 (by
   have := Length_call k t (by omega)
   rw [show cntI k t = (decT t).length by simp [cntI, h1]] at this
   exact this)
  have e1 : totN (2 * ((decT t).length : Int)) = totN (b.length : Int) := by rw [hlen]; simp
  refine sy_call (X := Sx0) (fun _ => false) [] [] (fn := Tryz.f4) Tryz.func4 rfl (by decide) rfl rfl ?_
  repeat' (first | (apply run; conv => whnf) | (with_reducible first | refine snt ?_ | refine snf ?_ | refine sht ?_ | refine shf ?_) | ((first | with_reducible refine split_neg (fun hc => ?_) (fun hc => ?_) | refine split (fun hc => ?_) (fun hc => ?_)) <;> (try simp only [bsl, true_implies, false_implies, Int.reduceEq, Int.reduceLT, Int.reduceLE, Nat.reduceLT, Nat.reduceEqDiff] at hc) <;> try first | (exfalso; omega) | exact btf hc | exact bft hc) | refine fact_in (fun hby => ?_) | refine un_rfl ?_ | refine stp ?_ | exact obs | with_reducible refine And.intro ?_ ?_ | refine nrm ?_ | apply row_eq | refine cte ?_ | refine ctd ?_ | refine cse ?_ | refine csd ?_ | refine wrp ?_ | refine stq ?_ | refine cps ?_ | refine opn ?_ | exact eqs | (intro _; rfl))
  all_goals first
   | (exfalso; omega)
   | (exfalso; simp_all; done)
   | (refine ret_eq ?_ (by rfl); simp [e1])
 ·have c4 := conv_con (m := 30) h1 h30 h2
  rw [if_neg (by decide), if_neg (by decide)] at c4
  refine sy_call (X := Sx0) (fun _ => false) [] [] (fn := Tryz.f4) Tryz.func4 rfl (by decide) rfl rfl ?_
  repeat' (first | (apply run; conv => whnf) | (with_reducible first | refine snt ?_ | refine snf ?_ | refine sht ?_ | refine shf ?_) | ((first | with_reducible refine split_neg (fun hc => ?_) (fun hc => ?_) | refine split (fun hc => ?_) (fun hc => ?_)) <;> (try simp only [bsl, true_implies, false_implies, Int.reduceEq, Int.reduceLT, Int.reduceLE, Nat.reduceLT, Nat.reduceEqDiff] at hc) <;> try first | (exfalso; omega) | exact btf hc | exact bft hc) | refine fact_in (fun hby => ?_) | refine un_rfl ?_ | refine stp ?_ | exact obs | with_reducible refine And.intro ?_ ?_ | refine nrm ?_ | apply row_eq | refine cte ?_ | refine ctd ?_ | refine cse ?_ | refine csd ?_ | refine wrp ?_ | refine stq ?_ | refine cps ?_ | refine opn ?_ | exact eqs | (intro _; rfl))
  all_goals first
   | (exfalso; omega)
   | (exfalso; simp_all; done)
   | (refine ret_eq ?_ (by rfl); rfl)
end Go.Proofs.YtaajfbcopafkaaaGreatDoor.Ai
