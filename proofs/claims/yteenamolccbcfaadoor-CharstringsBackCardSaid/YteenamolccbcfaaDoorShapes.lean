/- The statements of chapter 9, for whatever arguments. Own work of this seat. -/
import Derived.Test.YteenamolccbcfaaDoorLawOrder
import Derived.Test.YteenamolccbcfaaDoorLawKinds
import Derived.Test.YteenamolccbcfaaDoorLawKnown
import Derived.Test.YteenamolccbcfaaDoorAiRead
namespace Go.Proofs.YteenamolccbcfaaDoor.Ai
open Go
set_option linter.unusedSimpArgs false
set_option linter.unusedVariables false
set_option maxHeartbeats 4000000
set_option maxRecDepth 100000
theorem c1_u8 : Tryd.prog.cellsOf 5 = 1 := by kernel_rfl
theorem c1_u32 : Tryd.prog.cellsOf 22 = 1 := by kernel_rfl
theorem c_elem : Tryd.prog.cellsOf 59 = 5 := by kernel_rfl
theorem sh_u32 {x : AVal} (h : AArg Tryd.prog 22 x) : ∃ n : Int, x = .int .u32 n := let ⟨m, h1, _⟩ := aarg_int Tryd.underlying22 h; ⟨m, h1⟩
theorem sh_u8 {x : AVal} (h : AArg Tryd.prog 5 x) : ∃ n : Nat, x = .int .u8 n ∧ n < 256 := by
  obtain ⟨m, h1, h2, h3⟩ := aarg_int Tryd.underlying5 h
  have h2 : 0 ≤ m := h2
  have h3 : m ≤ 255 := h3
  exact ⟨m.toNat, by rw [h1, Int.toNat_of_nonneg h2], by omega⟩
theorem sh_bytes {x : AVal} (h : AArg Tryd.prog 23 x) : ∃ (b : List UInt8) (cap : Option Nat), x = .slc 1 (b.map bytesRow) cap := by
  obtain ⟨rows, cap, rfl, _, _, m, h1⟩ := aarg_slice Tryd.underlying23 h
  obtain ⟨l, rfl⟩ := rows_bytes Tryd.underlying5 h1
  exact ⟨l, some cap, by rw [c1_u8]⟩
theorem fs_char {m : Nat} {xs : List AVal} (h : AS Tryd.prog m 26 xs) : ∃ (n : Int) (s : List UInt8), xs = [.int .u32 n, .str s] := by
  obtain ⟨k, _, p, q, rfl, h1, p2, q2, rfl, h2, rfl⟩ := as_struct Tryd.underlying26 h
  obtain ⟨n, rfl, _⟩ := as_int Tryd.underlying22 h1
  obtain ⟨s, rfl, _⟩ := as_str Tryd.underlying9 h2
  exact ⟨n, s, rfl⟩
theorem sh_char {x : AVal} (h : AArg Tryd.prog 26 x) : ∃ (n : Int) (s : List UInt8), x = .agg [.int .u32 n, .str s] := by
  obtain ⟨k, xs, h1, h2⟩ := h
  rw [Tryd.underlying26] at h2
  obtain ⟨n, s, rfl⟩ := fs_char h1
  exact ⟨n, s, h2⟩
theorem fs_C {m : Nat} {xs : List AVal} (h : AS Tryd.prog m 37 xs) : ∃ (n : Nat) (cs : List Int) (cap : Option Nat), charsOK n cs ∧ xs = [.int .u8 n, .slc 1 (cs.map u32Row) cap] := by
  obtain ⟨k, _, p, q, rfl, h1, p2, q2, rfl, h2, rfl⟩ := as_struct Tryd.underlying37 h
  obtain ⟨n, rfl, n1, n2⟩ := as_int Tryd.underlying5 h1
  have n1 : 0 ≤ n := n1
  have n2 : n ≤ 255 := n2
  obtain ⟨rows, cap, rfl, hl, hc, j, _, h3⟩ := as_slice Tryd.underlying35 h2
  obtain ⟨cs, rfl, hcs⟩ := rows_map (f := u32Row) (q := fun c => 0 ≤ c ∧ c ≤ 4294967295) fun r hr => by
    obtain ⟨m, h1, h2, h3⟩ := as_int Tryd.underlying22 (h3 r hr)
    exact ⟨m, h1, h2, h3⟩
  refine ⟨n.toNat, cs, some cap, ⟨by omega, hcs, ?_⟩, by rw [c1_u32, Int.toNat_of_nonneg n1]; rfl⟩
  rw [List.length_map] at hl
  simp only [maxLen] at hc
  omega
theorem sh_C {x : AVal} (h : AArg Tryd.prog 37 x) : ∃ (n : Nat) (cs : List Int) (cap : Option Nat), charsOK n cs ∧ x = .agg [.int .u8 n, .slc 1 (cs.map u32Row) cap] := by
  obtain ⟨k, xs, h1, h2⟩ := h
  rw [Tryd.underlying37] at h2
  obtain ⟨n, cs, cap, hc, rfl⟩ := fs_C h1
  exact ⟨n, cs, cap, hc, h2⟩
theorem shCharstringsGet {xs : List AVal} (h : AArgs Tryd.prog [22, 23] xs) : CallF Cx 3 xs [] (.bool true) [] := by
  obtain ⟨x, _, rfl, h0, y, _, rfl, h1, rfl⟩ := h
  obtain ⟨n, rfl⟩ := sh_u32 h0
  obtain ⟨b, cap, rfl⟩ := sh_bytes h1
  exact lawGet n b cap
theorem shCharstringsCheck {xs : List AVal} (h : AArgs Tryd.prog [26, 22] xs) : CallF Cx 7 xs [] (.bool true) [] := by
  obtain ⟨x, _, rfl, h0, y, _, rfl, h1, rfl⟩ := h
  obtain ⟨n, s, rfl⟩ := sh_char h0
  obtain ⟨m, rfl⟩ := sh_u32 h1
  exact lawCheck n s m
theorem shCharstringsBack {xs : List AVal} (h : AArgs Tryd.prog [37] xs) : CallF Cx 9 xs [] (.bool true) [] := by
  obtain ⟨x, _, rfl, h0, rfl⟩ := h
  obtain ⟨n, cs, cap, hc, rfl⟩ := sh_C h0
  exact lawBack n cs cap hc
theorem shCharstringsKinds {xs : List AVal} (h : AArgs Tryd.prog [9, 37, 5] xs) : CallF Cx 4 xs [] (.bool true) [] := by
  obtain ⟨x, _, rfl, h0, y, _, rfl, h1, z, _, rfl, h2, rfl⟩ := h
  obtain ⟨s, rfl, _⟩ := aarg_str Tryd.underlying9 h0
  obtain ⟨n, cs, cap, hc, rfl⟩ := sh_C h1
  obtain ⟨k, rfl, hk⟩ := sh_u8 h2
  exact lawKinds s n cs cap k hc hk
theorem shCharstringsOrder {xs : List AVal} (h : AArgs Tryd.prog [47, 26, 26] xs) : CallF Cx 5 xs [] (.bool true) [] := by
  obtain ⟨x, _, rfl, h0, y, _, rfl, h1, z, _, rfl, h2, rfl⟩ := h
  obtain ⟨ys, m, rfl, p, q, rfl, p1, p', q', rfl, p2, rfl⟩ := aarg_array Tryd.underlying47 h0
  obtain ⟨n, cs, cap, hc, rfl⟩ := fs_C p1
  obtain ⟨n', cs', cap', hc', rfl⟩ := fs_C p2
  obtain ⟨k, s, rfl⟩ := sh_char h1
  obtain ⟨l, u, rfl⟩ := sh_char h2
  exact lawOrder n n' cs cs' cap cap' hc hc' k l s u
theorem shCharstringsKnown {xs : List AVal} (h : AArgs Tryd.prog [] xs) : CallF Cx 6 xs [] (.bool true) [] := by
  rw [show xs = [] from h]; exact lawKnown
theorem shCharstringsOf {xs : List AVal} (h : AArgs Tryd.prog [59] xs) : CallF Cx 8 xs [] (.bool true) [] := by
  obtain ⟨x, _, rfl, h0, rfl⟩ := h
  obtain ⟨ys, m, rfl, p, q, rfl, h1, p2, q2, rfl, h2, p3, q3, rfl, h3, rfl⟩ := aarg_struct Tryd.underlying59 h0
  obtain ⟨_, _, a, b, rfl, h4, a2, b2, rfl, h5, a3, b3, rfl, h6, rfl⟩ := as_struct Tryd.underlying56 h1
  obtain ⟨cl, rfl, _⟩ := as_int Tryd.underlying54 h4
  obtain ⟨co, rfl⟩ := as_bool Tryd.underlying4 h5
  obtain ⟨n, rfl, _⟩ := as_int Tryd.underlying22 h6
  obtain ⟨rows, cap, rfl, _, _, j, _, h7⟩ := as_slice Tryd.underlying23 h2
  obtain ⟨l, rfl⟩ := rows_bytes Tryd.underlying5 h7
  obtain ⟨rows2, cap2, rfl, _, _, _, _, _⟩ := as_slice Tryd.underlying57 h3
  rw [c1_u8, c_elem]
  exact lawOf cl co n l (some cap) (some cap2) rows2
/-- Go's tables for UTF-8, in a world that holds what the statements list. -/
theorem globs_ok {W : World} {d1 d2 : DataW Unit} (h1 : Lib.VarReads Tryd.prog W "unicode/utf8.acceptRanges" d1) (h2 : Lib.VarReads Tryd.prog W "unicode/utf8.first" d2)
    (e1 : flatD d1 = some (flatRows (fun p : Int × Int => [.int .u8 p.1, .int .u8 p.2]) utf8Accept)) (e2 : flatD d2 = some (flatRows (fun n => [.int .u8 n]) utf8First)) :
    ∀ g, Cx.glob g = .dead ∨ PV W (fun k => k < W.heap.size) (Cx.glob g) (.pointer (some ⟨g, 0, none⟩)) := by
  intro g
  show globs g = .dead ∨ PV W _ (globs g) _
  unfold globs
  split
  · exact .inr (glob_pv (ts := [5, 101]) (by kernel_rfl) h2 (by kernel_rfl) (t := 101) (by kernel_rfl) (by simp) e2)
  · exact .inr (glob_pv (ts := [5, 103, 104]) (by kernel_rfl) h1 (by kernel_rfl) (t := 104) (by kernel_rfl) (by simp) e1)
  · exact .inl rfl
end Go.Proofs.YteenamolccbcfaaDoor.Ai
