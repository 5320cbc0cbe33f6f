/- TopTime, for whatever arguments. Own work of this seat. -/
import Derived.Test.YtaajfbcopafkaaaGreatDoorTimE
import Derived.Test.YtaajfbcopafkaaaGreatDoorGlobs
namespace Go.Proofs.YtaajfbcopafkaaaGreatDoor.Ai
open Go
set_option linter.unusedSimpArgs false
set_option linter.unusedVariables false
set_option maxHeartbeats 4000000
set_option maxRecDepth 100000
theorem fs_T {m : Nat} {xs : List AVal} (h : AS Tryz.prog m 24 xs) : ∃ x1 x2 x3 x4 x5 x6 : Nat, (x1 ≤ 65535 ∧ x2 ≤ 255 ∧ x3 ≤ 255 ∧ x4 ≤ 255 ∧ x5 ≤ 255 ∧ x6 ≤ 255) ∧ xs = [.int .u16 x1, .int .u8 x2, .int .u8 x3, .int .u8 x4, .int .u8 x5, .int .u8 x6] := by
  obtain ⟨k, _, p, q, rfl, h1, p2, q2, rfl, h2, p3, q3, rfl, h3, p4, q4, rfl, h4, p5, q5, rfl, h5, p6, q6, rfl, h6, rfl⟩ := as_struct Tryz.underlying24 h
  obtain ⟨n1, rfl, a1, b1⟩ := as_int Tryz.underlying22 h1
  obtain ⟨n2, rfl, a2, b2⟩ := as_int Tryz.underlying5 h2
  obtain ⟨n3, rfl, a3, b3⟩ := as_int Tryz.underlying5 h3
  obtain ⟨n4, rfl, a4, b4⟩ := as_int Tryz.underlying5 h4
  obtain ⟨n5, rfl, a5, b5⟩ := as_int Tryz.underlying5 h5
  obtain ⟨n6, rfl, a6, b6⟩ := as_int Tryz.underlying5 h6
  have a1 : 0 ≤ n1 := a1
  have b1 : n1 ≤ 65535 := b1
  have a2 : 0 ≤ n2 := a2
  have b2 : n2 ≤ 255 := b2
  have a3 : 0 ≤ n3 := a3
  have b3 : n3 ≤ 255 := b3
  have a4 : 0 ≤ n4 := a4
  have b4 : n4 ≤ 255 := b4
  have a5 : 0 ≤ n5 := a5
  have b5 : n5 ≤ 255 := b5
  have a6 : 0 ≤ n6 := a6
  have b6 : n6 ≤ 255 := b6
  refine ⟨n1.toNat, n2.toNat, n3.toNat, n4.toNat, n5.toNat, n6.toNat, by omega, ?_⟩
  rw [Int.toNat_of_nonneg a1, Int.toNat_of_nonneg a2, Int.toNat_of_nonneg a3, Int.toNat_of_nonneg a4, Int.toNat_of_nonneg a5, Int.toNat_of_nonneg a6]
  rfl
theorem sh_T {x : AVal} (h : AArg Tryz.prog 24 x) : ∃ x1 x2 x3 x4 x5 x6 : Nat, (x1 ≤ 65535 ∧ x2 ≤ 255 ∧ x3 ≤ 255 ∧ x4 ≤ 255 ∧ x5 ≤ 255 ∧ x6 ≤ 255) ∧ x = .agg [.int .u16 x1, .int .u8 x2, .int .u8 x3, .int .u8 x4, .int .u8 x5, .int .u8 x6] := by
  obtain ⟨k, xs, h1, h2⟩ := h
  rw [Tryz.underlying24] at h2
  obtain ⟨x1, x2, x3, x4, x5, x6, hc, rfl⟩ := fs_T h1
  exact ⟨x1, x2, x3, x4, x5, x6, hc, h2⟩
theorem shTopTime {xs : List AVal} (h : AArgs Tryz.prog [24, 24] xs) : CallF Cx 3 xs [] (.bool true) [] := by
  obtain ⟨x, _, rfl, h0, y, _, rfl, h1, rfl⟩ := h
  obtain ⟨x1, x2, x3, x4, x5, x6, hx, rfl⟩ := sh_T h0
  obtain ⟨z1, z2, z3, z4, z5, z6, hz, rfl⟩ := sh_T h1
  exact lawTopTime x1 x2 x3 x4 x5 x6 z1 z2 z3 z4 z5 z6 hx hz
end Go.Proofs.YtaajfbcopafkaaaGreatDoor.Ai
