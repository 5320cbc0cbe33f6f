/- The reference's Encode. Own work of this seat. -/
import Derived.Test.YtaajfbcopafkaaaGreatDoorSmall
namespace Go.Proofs.YtaajfbcopafkaaaGreatDoor.Ai
open Go
set_option linter.unusedSimpArgs false
set_option linter.unusedVariables false
set_option maxHeartbeats 4000000
set_option maxRecDepth 100000
def u8Row (n : Int) : List AVal := [.int .u8 n]
def enc1 (c : Int) : List Int := if c < 128 then [c] else if c < 2048 then [192 + c / 64, 128 + c % 64] else if c < 65536 then [224 + c / 4096, 128 + c / 64 % 64, 128 + c % 64] else [240 + c / 262144, 128 + c / 4096 % 64, 128 + c / 64 % 64, 128 + c % 64]
def encI (l : List Int) : List Int := (l.map enc1).flatten
theorem encI_step {l : List Int} {i : Nat} (h : i < l.length) : encI (l.take (i + 1)) = encI (l.take i) ++ enc1 (nth l i) := by
 unfold encI
 rw [take_nth h]
 simp
theorem enc1_len (c : Int) : (enc1 c).length ≤ 4 := by
 unfold enc1
 repeat' split
 all_goals simp
theorem encI_len (l : List Int) : ∀ i, (encI (l.take i)).length ≤ 4 * i := by
 intro i
 induction i with
 | zero => simp [encI]
 | succ i ih =>
  by_cases h : i < l.length
  ·rw [encI_step h, List.length_append]
   have := enc1_len (nth l i)
   omega
  ·have : l.take (i + 1) = l.take i := by rw [List.take_of_length_le (by omega), List.take_of_length_le (by omega)]
   rw [this]; omega
theorem bytesOfRows_u8 (ns : List Int) : bytesOfRows (ns.map u8Row) = some (ns.map fun n => UInt8.ofNat n.toNat) := by
 induction ns with
 | nil => rfl
 | cons n ns ih => simp only [List.map_cons, u8Row] at ih ⊢; simp only [bytesOfRows, ih, Option.map_some]
theorem bytes_u8 {rc : Option Bool} {ns : List Int} {K : List UInt8 → Prop} (hk : Run (K (ns.map fun n => UInt8.ofNat n.toNat))) : HBytes rc (ns.map u8Row) K := bytes_in (bytesOfRows_u8 ns) hk
def encS (l : List Int) : List UInt8 := (encI l).map fun n => UInt8.ofNat n.toNat
theorem Encode_call (l : List Int) (cap : Option Nat) (hl : ∀ c, c ∈ l → 0 ≤ c ∧ c ≤ 1114111) (hlen : l.length ≤ 1000000) :
  CallF Cx 42 [.slc 1 (l.map i64Row) cap] [] (.str (encS l)) [] := by
 refine sy_call (X := Sx0) (fun _ => false) [] [(3, 5, 1)] (fn := Tryz.f42) Tryz.func42 rfl (by decide) rfl rfl ?_
 repeat' (first | (apply run; conv => whnf) | (with_reducible first | refine snt ?_ | refine snf ?_ | refine sht ?_ | refine shf ?_) | ((first | with_reducible refine split_neg (fun hc => ?_) (fun hc => ?_) | refine split (fun hc => ?_) (fun hc => ?_)) <;> (try simp only [bsl, true_implies, false_implies, Int.reduceEq, Int.reduceLT, Int.reduceLE, Nat.reduceLT, Nat.reduceEqDiff] at hc) <;> try first | (exfalso; omega) | exact btf hc | exact bft hc) | refine fact_in (fun hby => ?_) | refine un_rfl ?_ | refine stp ?_ | exact obs | with_reducible refine And.intro ?_ ?_ | refine nrm ?_ | apply row_eq | refine cte ?_ | refine ctd ?_ | refine cse ?_ | refine csd ?_ | refine wrp ?_ | refine stq ?_ | refine cps ?_ | refine opn ?_ | exact eqs | (intro _; rfl))
 refine loop_rule (α := Nat) [3, 4] 1 (fun i => [.bsl 0 (encI (l.take i)).length, .int .i64 i]) (fun i => [.mk 5 1 ((encI (l.take i)).map u8Row)]) (fun i => i ≤ l.length) (fun i => l.length - i) (0) (fun _ => rfl) (by decide) ?_
 ((refine run ?_); conv => whnf)
 refine goal_in ⟨?_, fit_eq ?_, sto_take (n := 1) (Nat.le_of_ble_eq_true rfl) ?_⟩ (fun i hinv => ?_)
 ·simp
 ·rfl
 ·rfl
 have hb := encI_len l i
 by_cases hi : i < l.length
 ·have hc0 := hl _ (nth_mem hi)
  have hs := encI_step hi
  repeat' (first | (apply run; conv => whnf) | (with_reducible first | refine snt ?_ | refine snf ?_ | refine sht ?_ | refine shf ?_) | ((first | with_reducible refine split_neg (fun hc => ?_) (fun hc => ?_) | refine split (fun hc => ?_) (fun hc => ?_)) <;> (try simp only [bsl, true_implies, false_implies, Int.reduceEq, Int.reduceLT, Int.reduceLE, Nat.reduceLT, Nat.reduceEqDiff] at hc) <;> try first | (exfalso; omega) | exact btf hc | exact bft hc) | refine fact_in (fun hby => ?_) | refine un_rfl ?_ | refine stp ?_ | exact obs | with_reducible refine And.intro ?_ ?_ | refine nrm ?_ | apply row_eq | refine cte ?_ | refine ctd ?_ | refine cse ?_ | refine csd ?_ | refine wrp ?_ | refine stq ?_ | refine cps ?_ | refine opn ?_ | exact eqs | (intro _; rfl))
  all_goals
   refine meet_eq (i + 1) ?_ ?_ (Nat.le_of_ble_eq_true rfl) ?_
   ·exact ⟨by dsimp only; omega, by dsimp only; omega⟩
   ·simp [hs, enc1, *]
   ·simp [hs, enc1, u8Row, *]
 ·repeat' (first | (apply run; conv => whnf) | (with_reducible first | refine snt ?_ | refine snf ?_ | refine sht ?_ | refine shf ?_) | ((first | with_reducible refine split_neg (fun hc => ?_) (fun hc => ?_) | refine split (fun hc => ?_) (fun hc => ?_)) <;> (try simp only [bsl, true_implies, false_implies, Int.reduceEq, Int.reduceLT, Int.reduceLE, Nat.reduceLT, Nat.reduceEqDiff] at hc) <;> try first | (exfalso; omega) | exact btf hc | exact bft hc) | refine bytes_u8 ?_ | refine fact_in (fun hby => ?_) | refine un_rfl ?_ | refine stp ?_ | exact obs | with_reducible refine And.intro ?_ ?_ | refine nrm ?_ | apply row_eq | refine cte ?_ | refine ctd ?_ | refine cse ?_ | refine csd ?_ | refine wrp ?_ | refine stq ?_ | refine cps ?_ | refine opn ?_ | exact eqs | (intro _; rfl))
  refine ret_eq ?_ (by rfl)
  rw [List.take_of_length_le (by omega)]
  rfl
def okC (l : List Int) : Prop := (∀ c, c ∈ l → 0 ≤ c ∧ c ≤ 1114111) ∧ l.length ≤ 1000000
instance {l : List Int} {cap : Option Nat} : Con Sx0 42 [.slc 1 (l.map i64Row) cap] (okC l) (.str (encS l)) := con fun h => Encode_call l cap h.1 h.2
end Go.Proofs.YtaajfbcopafkaaaGreatDoor.Ai
