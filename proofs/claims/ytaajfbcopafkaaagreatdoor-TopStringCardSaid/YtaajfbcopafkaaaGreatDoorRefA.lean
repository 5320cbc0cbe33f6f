/- The reference's Kind and Has. Own work of this seat. -/
import Derived.Test.YtaajfbcopafkaaaGreatDoorAiSeat
namespace Go.Proofs.YtaajfbcopafkaaaGreatDoor.Ai
open Go
set_option linter.unusedSimpArgs false
set_option linter.unusedVariables false
set_option maxHeartbeats 4000000
set_option maxRecDepth 100000
def kindI (n : Int) : Int := if n = 12 ∨ n = 19 ∨ n = 22 ∨ n = 26 ∨ n = 30 then 1 else 0
def others : List UInt8 := [32, 39, 40, 41, 43, 44, 45, 46, 47, 58, 61, 63]
def hasB (n c : Int) : Bool := decide (1 ≤ c ∧ c ≤ 1114111 ∧ ¬(55296 ≤ c ∧ c < 57344)) &&
 (if n = 12 then true else if n = 22 then decide (c < 128) else if n = 26 then decide (31 < c ∧ c < 127) else if n = 30 then decide (c < 65536) else
  decide (65 ≤ c ∧ c ≤ 90 ∨ 97 ≤ c ∧ c ≤ 122 ∨ 48 ≤ c ∧ c ≤ 57) || others.any fun b => decide ((b.toNat : Int) = c))
theorem Has_call (n c : Int) : CallF Cx 41 [.int .u32 n, .int .i64 c] [] (.bool (hasB n c)) [] := by
 refine sy_call (X := Sx0) (fun _ => false) [] [] (fn := Tryz.f41) Tryz.func41 rfl (by decide) rfl rfl ?_
 repeat' (first | (apply run; conv => whnf) | (with_reducible first | refine snt ?_ | refine snf ?_ | refine sht ?_ | refine shf ?_) | ((first | with_reducible refine split_neg (fun hc => ?_) (fun hc => ?_) | refine split (fun hc => ?_) (fun hc => ?_)) <;> (try simp only [bsl, true_implies, false_implies, Int.reduceEq, Int.reduceLT, Int.reduceLE, Nat.reduceLT, Nat.reduceEqDiff] at hc) <;> try first | (exfalso; omega) | exact btf hc | exact bft hc) | refine fact_in (fun hby => ?_) | refine un_rfl ?_ | refine stp ?_ | exact obs | with_reducible refine And.intro ?_ ?_ | refine nrm ?_ | apply row_eq | refine cte ?_ | refine ctd ?_ | refine cse ?_ | refine csd ?_ | refine wrp ?_ | refine stq ?_ | refine cps ?_ | refine opn ?_ | exact eqs | (intro _; rfl))
 all_goals try (refine ret_eq ?_ (by rfl); simp [hasB]; first | done | omega)
 all_goals try (refine ret_eq ?_ (by rfl); simp [hasB, *]; first | done | omega)
 refine loop_rule (α := Nat) [6] 0 (fun i => [.int .i64 i]) (fun i => []) (fun i => i ≤ 12 ∧ ∀ k, k < i → ((nth others k).toNat : Int) ≠ c) (fun i => 12 - i) (0) (fun _ => rfl) (by decide) ?_
 ((refine run ?_); conv => whnf)
 refine goal_in ⟨?_, fit_eq ?_, sto_take (n := 0) (Nat.le_of_ble_eq_true rfl) ?_⟩ (fun i hinv => ?_)
 ·exact ⟨by omega, by omega⟩
 ·rfl
 ·rfl
 repeat' (first | (apply run; conv => whnf) | (with_reducible first | refine snt ?_ | refine snf ?_ | refine sht ?_ | refine shf ?_) | ((first | with_reducible refine split_neg (fun hc => ?_) (fun hc => ?_) | refine split (fun hc => ?_) (fun hc => ?_)) <;> (try simp only [bsl, true_implies, false_implies, Int.reduceEq, Int.reduceLT, Int.reduceLE, Nat.reduceLT, Nat.reduceEqDiff] at hc) <;> try first | (exfalso; omega) | exact btf hc | exact bft hc) | refine fact_in (fun hby => ?_) | refine un_rfl ?_ | refine stp ?_ | exact obs | with_reducible refine And.intro ?_ ?_ | refine nrm ?_ | apply row_eq | refine cte ?_ | refine ctd ?_ | refine cse ?_ | refine csd ?_ | refine wrp ?_ | refine stq ?_ | refine cps ?_ | refine opn ?_ | exact eqs | (intro _; rfl))
 ·refine ret_eq ?_ (by rfl)
  have : others.any (fun b => decide ((b.toNat : Int) = c)) = true := any_of_nth (i := i) (by simp at *; simp [others]; omega) (by rw [decide_eq_true_eq]; exact hc)
  simp [hasB, this, *]; omega
 ·refine meet_eq (i + 1) ?_ ?_ (Nat.le_of_ble_eq_true rfl) ?_
  ·refine ⟨⟨by simp at *; omega, fun k hk => ?_⟩, by simp at *; omega⟩
   by_cases e : k = i
   ·subst e; simpa [others] using hc
   ·exact hinv.2 k (by omega)
  ·simp
  ·rfl
 ·refine ret_eq ?_ (by rfl)
  have : others.any (fun b => decide ((b.toNat : Int) = c)) = false := any_false_nth fun k hk => by
   have := hinv.2 k (by simp [others] at hk; simp at hc; omega)
   simpa using this
  simp [hasB, this, *]; omega
instance {n c : Int} : Con Sx0 41 [.int .u32 n, .int .i64 c] True (.bool (hasB n c)) := con0 (Has_call n c)
end Go.Proofs.YtaajfbcopafkaaaGreatDoor.Ai
