/- The arguments of chapter 37's statements as abstract values, and the calls. Own work of this seat. -/
import Derived.Test.YtepnbdacekkapaaGreatDoorLawMeets
import Derived.Test.YtepnbdacekkapaaGreatDoorAiRead
namespace Go.Proofs.YtepnbdacekkapaaGreatDoor.Ai
open Go
set_option linter.unusedSimpArgs false
set_option linter.unusedVariables false
set_option maxHeartbeats 4000000
set_option maxRecDepth 100000
theorem c17_oid : Tryz.prog.cellsOf 73 = 17 := by kernel_rfl
theorem sh_oid {m : Nat} {xs : List AVal} (h : AS Tryz.prog m 73 xs) : ∃ o : Od, xs = oidRow o ∧ okO o := by
  obtain ⟨m1, _, p, q, rfl, h1, p2, q2, rfl, h2, rfl⟩ := as_struct Tryz.underlying73 h
  obtain ⟨n, rfl, hn⟩ := as_int Tryz.underlying5 h1
  obtain ⟨m2, _, p0, q0, rfl, e0, p1, q1, rfl, e1, p2, q2, rfl, e2, p3, q3, rfl, e3, p4, q4, rfl, e4, p5, q5, rfl, e5, p6, q6, rfl, e6, p7, q7, rfl, e7, p8, q8, rfl, e8, p9, q9, rfl, e9, p10, q10, rfl, e10, p11, q11, rfl, e11, p12, q12, rfl, e12, p13, q13, rfl, e13, p14, q14, rfl, e14, p15, q15, rfl, e15, rfl⟩ := as_array Tryz.underlying71 h2
  obtain ⟨a0, rfl, _⟩ := as_int Tryz.underlying70 e0
  obtain ⟨a1, rfl, _⟩ := as_int Tryz.underlying70 e1
  obtain ⟨a2, rfl, _⟩ := as_int Tryz.underlying70 e2
  obtain ⟨a3, rfl, _⟩ := as_int Tryz.underlying70 e3
  obtain ⟨a4, rfl, _⟩ := as_int Tryz.underlying70 e4
  obtain ⟨a5, rfl, _⟩ := as_int Tryz.underlying70 e5
  obtain ⟨a6, rfl, _⟩ := as_int Tryz.underlying70 e6
  obtain ⟨a7, rfl, _⟩ := as_int Tryz.underlying70 e7
  obtain ⟨a8, rfl, _⟩ := as_int Tryz.underlying70 e8
  obtain ⟨a9, rfl, _⟩ := as_int Tryz.underlying70 e9
  obtain ⟨a10, rfl, _⟩ := as_int Tryz.underlying70 e10
  obtain ⟨a11, rfl, _⟩ := as_int Tryz.underlying70 e11
  obtain ⟨a12, rfl, _⟩ := as_int Tryz.underlying70 e12
  obtain ⟨a13, rfl, _⟩ := as_int Tryz.underlying70 e13
  obtain ⟨a14, rfl, _⟩ := as_int Tryz.underlying70 e14
  obtain ⟨a15, rfl, _⟩ := as_int Tryz.underlying70 e15
  exact ⟨⟨n, a0, a1, a2, a3, a4, a5, a6, a7, a8, a9, a10, a11, a12, a13, a14, a15⟩, rfl, hn⟩
theorem sh_oids {m : Nat} {xs : List AVal} (h : AS Tryz.prog m 51 xs) : ∃ (l : List Od) (cap : Option Nat), xs = [.slc 17 (l.map oidRow) cap] ∧ ∀ k, k < l.length → okO (nth l k) := by
  obtain ⟨rows, cap, rfl, hl, hc, j, _, h3⟩ := as_slice Tryz.underlying51 h
  obtain ⟨l, rfl, h4⟩ := rows_map (f := oidRow) (q := okO) fun r hr => sh_oid (h3 r hr)
  exact ⟨l, some cap, by rw [c17_oid], fun k hk => h4 _ (nth_mem hk)⟩
theorem sha_oids {x : AVal} (h : AArg Tryz.prog 51 x) : ∃ (l : List Od) (cap : Option Nat), x = .slc 17 (l.map oidRow) cap ∧ ∀ k, k < l.length → okO (nth l k) := by
  obtain ⟨rows, cap, rfl, hl, hc, j, h3⟩ := aarg_slice Tryz.underlying51 h
  obtain ⟨l, rfl, h4⟩ := rows_map (f := oidRow) (q := okO) fun r hr => sh_oid (h3 r hr)
  exact ⟨l, some cap, by rw [c17_oid], fun k hk => h4 _ (nth_mem hk)⟩
theorem shOrdersMeets {xs : List AVal} (h : AArgs Tryz.prog [80, 51] xs) : CallF Cx 8 xs [] (.bool true) [] := by
  obtain ⟨x, _, rfl, h0, y, _, rfl, h1, rfl⟩ := h
  obtain ⟨ys, m, rfl, p, q, rfl, g1, p2, q2, rfl, g2, p3, q3, rfl, g3, p4, q4, rfl, g4, rfl⟩ := aarg_struct Tryz.underlying80 h0
  obtain ⟨nv, rfl⟩ := as_bool Tryz.underlying4 g1
  obtain ⟨al, rfl⟩ := as_bool Tryz.underlying4 g2
  obtain ⟨fr, rfl⟩ := as_bool Tryz.underlying4 g3
  obtain ⟨l, c, rfl, hl⟩ := sh_oids g4
  obtain ⟨u, d, rfl, hu⟩ := sha_oids h1
  exact lawMeets nv al fr l c u d hl hu
end Go.Proofs.YtepnbdacekkapaaGreatDoor.Ai
