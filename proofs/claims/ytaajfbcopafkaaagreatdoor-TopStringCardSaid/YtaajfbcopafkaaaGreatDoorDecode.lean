/- The reference's Decode. Own work of this seat. -/
import Derived.Test.YtaajfbcopafkaaaGreatDoorEncode
namespace Go.Proofs.YtaajfbcopafkaaaGreatDoor.Ai
open Go
set_option linter.unusedSimpArgs false
set_option linter.unusedVariables false
set_option maxHeartbeats 4000000
set_option maxRecDepth 100000
/-- By the first byte: how many bytes follow, what the byte gives, the least character of that length. -/
def cls (x : Int) : Option (Nat × Int × Int) :=
 if x < 128 then some (0, x, 0) else if 194 ≤ x ∧ x < 224 then some (1, x - 192, 128) else if 224 ≤ x ∧ x < 240 then some (2, x - 224, 2048) else if 240 ≤ x ∧ x < 245 then some (3, x - 240, 65536) else none
def byI (s : List UInt8) (i : Nat) : Int := ((nth s i).toNat : Int)
def contF (s : List UInt8) (i : Nat) (c : Int) : Nat → Option Int
 | 0 => some c
 | k + 1 => (contF s i c k).bind fun c => if byI s (i + (k + 1)) < 128 ∨ 191 < byI s (i + (k + 1)) then none else some (64 * c + byI s (i + (k + 1)) - 128)
def badC (c least : Int) : Bool := decide (c < least ∨ c > 1114111 ∨ 55296 ≤ c ∧ c < 57344)
def decAt (s : List UInt8) (i : Nat) : Option (Int × Nat) :=
 (cls (byI s i)).bind fun p => if i + p.1 < s.length then (contF s i p.2.1 p.1).bind fun c => if badC c p.2.2 = true then none else some (c, p.1 + 1) else none
def decL (s : List UInt8) : Nat → Nat → Option (List Int)
 | 0, _ => some []
 | f + 1, i => if i < s.length then (decAt s i).bind fun p => (decL s f (i + p.2)).map (p.1 :: ·) else some []
def decS (s : List UInt8) : Option (List Int) := decL s s.length 0
def decT (s : List UInt8) : List Int := (decS s).getD []
theorem cls_bd {x : Int} {p : Nat × Int × Int} (hx : 0 ≤ x) (h : cls x = some p) : p.1 ≤ 3 ∧ 0 ≤ p.2.1 ∧ p.2.1 ≤ 127 ∧ 0 ≤ p.2.2 := by
 unfold cls at h
 repeat' split at h
 all_goals first | (cases h; dsimp only; omega) | cases h
theorem byI_bd (s : List UInt8) (i : Nat) : 0 ≤ byI s i ∧ byI s i ≤ 255 := by
 unfold byI
 have := (nth s i).toNat_lt
 omega
end Go.Proofs.YtaajfbcopafkaaaGreatDoor.Ai
