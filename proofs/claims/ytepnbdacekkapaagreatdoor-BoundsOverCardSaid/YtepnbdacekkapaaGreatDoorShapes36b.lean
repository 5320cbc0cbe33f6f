/- The argument of BoundsOver as an abstract value, and the call. Own work of this seat. -/
import Derived.Test.YtepnbdacekkapaaGreatDoorLawOver
import Derived.Test.YtepnbdacekkapaaGreatDoorAiRead
namespace Go.Proofs.YtepnbdacekkapaaGreatDoor.Ai
open Go
set_option linter.unusedSimpArgs false
set_option linter.unusedVariables false
set_option maxHeartbeats 4000000
set_option maxRecDepth 100000
theorem c1_i64 : Tryz.prog.cellsOf 3 = 1 := by kernel_rfl
theorem fs_ints {m : Nat} {xs : List AVal} (h : AS Tryz.prog m 30 xs) : ∃ (l : List Int) (cap : Option Nat), xs = [.slc 1 (l.map i64Row) cap] := by
  obtain ⟨rows, cap, rfl, hl, hc, j, _, h3⟩ := as_slice Tryz.underlying30 h
  obtain ⟨l, rfl, _⟩ := rows_map (f := i64Row) (q := fun _ => True) fun r hr => by
    obtain ⟨n, rfl, _⟩ := as_int Tryz.underlying3 (h3 r hr)
    exact ⟨n, rfl, trivial⟩
  exact ⟨l, some cap, by rw [c1_i64]⟩
theorem shBoundsOver {xs : List AVal} (h : AArgs Tryz.prog [32] xs) : CallF Cx 4 xs [] (.bool true) [] := by
  obtain ⟨x, _, rfl, h0, rfl⟩ := h
  obtain ⟨ys, m, rfl, p, q, rfl, h1, p2, q2, rfl, h2, p3, q3, rfl, h3, p4, q4, rfl, h4, p5, q5, rfl, h5, rfl⟩ := aarg_struct Tryz.underlying32 h0
  obtain ⟨N, rfl, _⟩ := as_int Tryz.underlying3 h1
  obtain ⟨P, rfl, _⟩ := as_int Tryz.underlying3 h2
  obtain ⟨M, rfl, _⟩ := as_int Tryz.underlying3 h3
  obtain ⟨a, c, rfl⟩ := fs_ints h4
  obtain ⟨b, d, rfl⟩ := fs_ints h5
  exact lawOver N P M a b c d
end Go.Proofs.YtepnbdacekkapaaGreatDoor.Ai
