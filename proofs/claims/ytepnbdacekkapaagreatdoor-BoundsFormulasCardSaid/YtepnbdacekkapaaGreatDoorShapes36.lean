/- The arguments of chapter 36's statements as abstract values, and the calls (BoundsFormulas). Own work of this seat. -/
import Derived.Test.YtepnbdacekkapaaGreatDoorFormLaw36
import Derived.Test.YtepnbdacekkapaaGreatDoorAiRead
namespace Go.Proofs.YtepnbdacekkapaaGreatDoor.Ai
open Go
set_option linter.unusedSimpArgs false
set_option linter.unusedVariables false
set_option maxHeartbeats 4000000
set_option maxRecDepth 100000
theorem sh_int {x : AVal} (h : AArg Tryz.prog 3 x) : ∃ n : Int, x = .int .i64 n := let ⟨m, h1, _⟩ := aarg_int Tryz.underlying3 h; ⟨m, h1⟩
theorem shBoundsFormulas {xs : List AVal} (h : AArgs Tryz.prog [3, 3, 3] xs) : CallF Cx 3 xs [] (.bool true) [] := by
  obtain ⟨x, _, rfl, h0, y, _, rfl, h1, z, _, rfl, h2, rfl⟩ := h
  obtain ⟨i, rfl⟩ := sh_int h0
  obtain ⟨p, rfl⟩ := sh_int h1
  obtain ⟨m, rfl⟩ := sh_int h2
  exact lawFormulas i p m
end Go.Proofs.YtepnbdacekkapaaGreatDoor.Ai
