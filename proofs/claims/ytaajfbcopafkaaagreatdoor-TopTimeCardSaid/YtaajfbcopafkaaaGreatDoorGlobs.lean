/- The variables that the runs read, in a world that holds what the statements list. Own work of this seat. -/
import Derived.Test.YtaajfbcopafkaaaGreatDoorAiSeat
import Derived.Test.YtaajfbcopafkaaaGreatDoorAiRead
import Derived.Lib.LaidTab
namespace Go.Proofs.YtaajfbcopafkaaaGreatDoor.Ai
open Go
set_option linter.unusedSimpArgs false
set_option linter.unusedVariables false
set_option maxHeartbeats 4000000
set_option maxRecDepth 100000
theorem glob_whole {P : Program} {W : World} {name : String} {d : DataW Unit} {g : Nat} {t e : TypeId} {n : Nat} {k : IntKind} {zs : List Int} (hg : P.globalNamed name = some g) (h : Lib.VarReads P W name d) (ht : (P.globals[g]?).map (·.type) = some t)
    (h1 : P.underlying t = some (.array n e)) (h2 : P.underlying e = some (.int k)) (h3 : P.cellsOf e = 1) (h4 : P.cellsOf t = n) (hd : d = Lib.tabData k zs) :
    g < W.heap.size ∧ ∃ t fr, W.heap[g]? = some (.cells (zs.map fun z => Value.int k z).toArray t fr) := by
  obtain ⟨g', t', cs, fuel, p, k1, k2, k3, k4⟩ := h
  rw [hg] at k1; cases k1
  rw [ht] at k2; cases k2
  rw [hd] at k4
  have := Lib.cells_of_tab h1 h2 h3 h4 k4
  unfold World.var? at k3
  rw [hg] at k3
  simp only [Option.bind_some] at k3
  split at k3
  · rename_i cs' ty fr hh
    cases k3
    refine ⟨(Array.getElem?_eq_some_iff.1 hh).1, ty, fr, ?_⟩
    rw [hh, ← this]
  · cases k3
/-- The variables that the runs read, in a world that holds what the statements list. -/
theorem globs_ok {W : World} {d1 d2 d3 d4 : DataW Unit} (h1 : Lib.VarReads Tryz.prog W "unicode/utf8.acceptRanges" d1) (h2 : Lib.VarReads Tryz.prog W "unicode/utf8.first" d2)
    (h3 : Lib.VarReads Tryz.prog W "vidimus/times.lengths" d3) (h4 : Lib.VarReads Tryz.prog W "internal/strconv.uint64pow10" d4)
    (e1 : flatD d1 = some (flatRows (fun p : Int × Int => [.int .u8 p.1, .int .u8 p.2]) utf8Accept)) (e2 : flatD d2 = some (flatRows (fun n => [.int .u8 n]) utf8First))
    (e3 : flatD d3 = some (flatRows (fun n => [.int .i64 n]) daysOf)) (e4 : flatD d4 = some (flatRows (fun n => [.int .u64 n]) pow10s))
    (e5 : d4 = Lib.tabData .u64 Lib.pow10Tab) : ∀ g, GlobOK Cx W (fun k => k < W.heap.size) g := by
  intro g
  refine ⟨?_, fun cs hc => ?_⟩
  case refine_2 =>
    have hc : tabsG g = some cs := hc
    unfold tabsG at hc
    split at hc
    · cases hc
      exact glob_whole (by kernel_rfl) h4 (t := 299) (by kernel_rfl) Tryz.underlying299 Tryz.underlying121 (by kernel_rfl) (by kernel_rfl) e5
    · cases hc
  show globs g = .dead ∨ PV W _ (globs g) _
  unfold globs
  split
  · exact .inr (glob_pv (ts := [121, 299]) (by kernel_rfl) h4 (by kernel_rfl) (t := 299) (by kernel_rfl) (by simp) e4)
  · exact .inr (glob_pv (ts := [3, 151]) (by kernel_rfl) h3 (by kernel_rfl) (t := 151) (by kernel_rfl) (by simp) e3)
  · exact .inr (glob_pv (ts := [5, 257]) (by kernel_rfl) h2 (by kernel_rfl) (t := 257) (by kernel_rfl) (by simp) e2)
  · exact .inr (glob_pv (ts := [5, 259, 260]) (by kernel_rfl) h1 (by kernel_rfl) (t := 260) (by kernel_rfl) (by simp) e1)
  · exact .inl rfl
end Go.Proofs.YtaajfbcopafkaaaGreatDoor.Ai
