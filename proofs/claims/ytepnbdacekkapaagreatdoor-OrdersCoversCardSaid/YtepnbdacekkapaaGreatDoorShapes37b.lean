/- The arguments of OrdersCovers as abstract values, and the call. Own work of this seat. -/
import Derived.Test.YtepnbdacekkapaaGreatDoorLawCovers
import Derived.Test.YtepnbdacekkapaaGreatDoorShapes37
namespace Go.Proofs.YtepnbdacekkapaaGreatDoor.Ai
open Go
set_option linter.unusedSimpArgs false
set_option linter.unusedVariables false
set_option maxHeartbeats 4000000
set_option maxRecDepth 100000
theorem shOrdersCovers {xs : List AVal} (h : AArgs Tryz.prog [51, 51] xs) : CallF Cx 7 xs [] (.bool true) [] := by
  obtain ⟨x, _, rfl, h0, y, _, rfl, h1, rfl⟩ := h
  obtain ⟨u, c, rfl, hu⟩ := sha_oids h0
  obtain ⟨v, d, rfl, hv⟩ := sha_oids h1
  exact lawCovers u c v d hu hv
end Go.Proofs.YtepnbdacekkapaaGreatDoor.Ai
