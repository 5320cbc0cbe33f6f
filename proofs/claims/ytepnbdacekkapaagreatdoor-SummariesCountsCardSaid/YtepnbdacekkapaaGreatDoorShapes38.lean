/- The arguments of SummariesCounts as abstract values, and the call. Own work of this seat. -/
import Derived.Test.YtepnbdacekkapaaGreatDoorLawCounts
import Derived.Test.YtepnbdacekkapaaGreatDoorAiRead
namespace Go.Proofs.YtepnbdacekkapaaGreatDoor.Ai
open Go
set_option linter.unusedSimpArgs false
set_option linter.unusedVariables false
set_option maxHeartbeats 4000000
set_option maxRecDepth 100000
theorem sh_count {x : AVal} (h : AArg Tryz.prog 58 x) : ∃ l m : Int, x = .agg [.int .i64 l, .int .i64 m] := by
  obtain ⟨ys, m, rfl, p, q, rfl, h1, p2, q2, rfl, h2, rfl⟩ := aarg_struct Tryz.underlying58 h
  obtain ⟨L, rfl, _⟩ := as_int Tryz.underlying3 h1
  obtain ⟨M, rfl, _⟩ := as_int Tryz.underlying3 h2
  exact ⟨L, M, rfl⟩
theorem shSummariesCounts {xs : List AVal} (h : AArgs Tryz.prog [58, 58, 3] xs) : CallF Cx 6 xs [] (.bool true) [] := by
  obtain ⟨x, _, rfl, h0, y, _, rfl, h1, z, _, rfl, h2, rfl⟩ := h
  obtain ⟨l, m, rfl⟩ := sh_count h0
  obtain ⟨l2, m2, rfl⟩ := sh_count h1
  obtain ⟨v, rfl, _⟩ := aarg_int Tryz.underlying3 h2
  exact lawCounts l m l2 m2 v
end Go.Proofs.YtepnbdacekkapaaGreatDoor.Ai
