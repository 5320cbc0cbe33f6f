/- The closed statement of chapter 36, run by the kernel. Own work of this seat. -/
import Derived.Test.YtepnbdacekkapaaGreatDoorAiSeat0
import Derived.Test.YtepnbdacekkapaaGreatDoorAiRead
namespace Go.Proofs.YtepnbdacekkapaaGreatDoor.Ai
open Go
set_option linter.unusedSimpArgs false
set_option linter.unusedVariables false
set_option maxHeartbeats 4000000
set_option maxRecDepth 100000
theorem known36 : CallF Cx 5 [] [] (.bool true) [] := closed (n := 1000000) (by kernel_rfl)
theorem shBoundsKnown {xs : List AVal} (h : AArgs Tryz.prog [] xs) : CallF Cx 5 xs [] (.bool true) [] := by
  have : xs = [] := h
  subst this
  exact known36
end Go.Proofs.YtepnbdacekkapaaGreatDoor.Ai
