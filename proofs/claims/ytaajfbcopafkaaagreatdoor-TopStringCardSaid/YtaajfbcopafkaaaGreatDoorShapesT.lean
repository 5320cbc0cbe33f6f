/- TopString, for whatever arguments; the variables that the runs read. Own work of this seat. -/
import Derived.Test.YtaajfbcopafkaaaGreatDoorTopStr
import Derived.Test.YtaajfbcopafkaaaGreatDoorAiRead
namespace Go.Proofs.YtaajfbcopafkaaaGreatDoor.Ai
open Go
set_option linter.unusedSimpArgs false
set_option linter.unusedVariables false
set_option maxHeartbeats 4000000
set_option maxRecDepth 100000
theorem c1_u32 : Tryz.prog.cellsOf 29 = 1 := by kernel_rfl
theorem fs_C {m : Nat} {xs : List AVal} (h : AS Tryz.prog m 47 xs) : ∃ (n : Nat) (cs : List Int) (cap : Option Nat), charsOK n cs ∧ xs = [.int .u8 n, .slc 1 (cs.map u32Row) cap] := by
 obtain ⟨k, _, p, q, rfl, h1, p2, q2, rfl, h2, rfl⟩ := as_struct Tryz.underlying47 h
 obtain ⟨n, rfl, n1, n2⟩ := as_int Tryz.underlying5 h1
 have n1 : 0 ≤ n := n1
 have n2 : n ≤ 255 := n2
 obtain ⟨rows, cap, rfl, hl, hc, j, _, h3⟩ := as_slice Tryz.underlying45 h2
 obtain ⟨cs, rfl, hcs⟩ := rows_map (f := u32Row) (q := fun c => 0 ≤ c ∧ c ≤ 4294967295) fun r hr => by
  obtain ⟨m, h1, h2, h3⟩ := as_int Tryz.underlying29 (h3 r hr)
  exact ⟨m, h1, h2, h3⟩
 refine ⟨n.toNat, cs, some cap, ⟨by omega, hcs, ?_⟩, by rw [c1_u32, Int.toNat_of_nonneg n1]; rfl⟩
 rw [List.length_map] at hl
 simp only [maxLen] at hc
 omega
theorem sh_C {x : AVal} (h : AArg Tryz.prog 47 x) : ∃ (n : Nat) (cs : List Int) (cap : Option Nat), charsOK n cs ∧ x = .agg [.int .u8 n, .slc 1 (cs.map u32Row) cap] := by
 obtain ⟨k, xs, h1, h2⟩ := h
 rw [Tryz.underlying47] at h2
 obtain ⟨n, cs, cap, hc, rfl⟩ := fs_C h1
 exact ⟨n, cs, cap, hc, h2⟩
theorem shTopString {xs : List AVal} (h : AArgs Tryz.prog [47] xs) : CallF Cx 4 xs [] (.bool true) [] := by
 obtain ⟨x, _, rfl, h0, rfl⟩ := h
 obtain ⟨n, cs, cap, hc, rfl⟩ := sh_C h0
 exact lawTopString n cs cap hc
/-- The variables that the runs read, in a world that holds what the statements list. -/
theorem globs_ok {W : World} {d1 d2 d3 d4 : DataW Unit} (h1 : Lib.VarReads Tryz.prog W "unicode/utf8.acceptRanges" d1) (h2 : Lib.VarReads Tryz.prog W "unicode/utf8.first" d2)
  (h3 : Lib.VarReads Tryz.prog W "vidimus/times.lengths" d3) (h4 : Lib.VarReads Tryz.prog W "internal/strconv.uint64pow10" d4)
  (e1 : flatD d1 = some (flatRows (fun p : Int × Int => [.int .u8 p.1, .int .u8 p.2]) utf8Accept)) (e2 : flatD d2 = some (flatRows (fun n => [.int .u8 n]) utf8First))
  (e3 : flatD d3 = some (flatRows (fun n => [.int .i64 n]) daysOf)) (e4 : flatD d4 = some (flatRows (fun n => [.int .u64 n]) pow10s)) :
  ∀ g, Cx.glob g = .dead ∨ PV W (fun k => k < W.heap.size) (Cx.glob g) (.pointer (some ⟨g, 0, none⟩)) := by
 intro g
 show globs g = .dead ∨ PV W _ (globs g) _
 unfold globs
 split
 ·exact .inr (glob_pv (ts := [121, 299]) (by kernel_rfl) h4 (by kernel_rfl) (t := 299) (by kernel_rfl) (by simp) e4)
 ·exact .inr (glob_pv (ts := [3, 151]) (by kernel_rfl) h3 (by kernel_rfl) (t := 151) (by kernel_rfl) (by simp) e3)
 ·exact .inr (glob_pv (ts := [5, 257]) (by kernel_rfl) h2 (by kernel_rfl) (t := 257) (by kernel_rfl) (by simp) e2)
 ·exact .inr (glob_pv (ts := [5, 259, 260]) (by kernel_rfl) h1 (by kernel_rfl) (t := 260) (by kernel_rfl) (by simp) e1)
 ·exact .inl rfl
end Go.Proofs.YtaajfbcopafkaaaGreatDoor.Ai
