/- live11, the examples that all statements of the top call: run by the kernel, its greatest calls in theorems of their own. Printed by a program of this seat. -/
import Derived.Test.YtaajfbcopafkaaaGreatDoorKnow11
namespace Go.Proofs.YtaajfbcopafkaaaGreatDoor.Ai
open Go
set_option maxRecDepth 100000
set_option linter.unusedVariables false
def part0 : PE := ⟨25, [(.str [83, 69, 81, 85, 69, 78, 67, 69, 32, 123, 73, 78, 84, 69, 71, 69, 82, 32, 51, 48, 48, 32, 79, 73, 68, 32, 50, 46, 53, 46, 50, 57, 46, 51, 50, 46, 48, 32, 85, 84, 70, 56, 32, 34, 97, 34, 32, 85, 84, 67, 84, 73, 77, 69, 32, 49, 57, 57, 57, 45, 49, 50, 45, 51, 49, 84, 50, 51, 58, 53, 57, 58, 53, 57, 90, 32, 66, 73, 84, 83, 32, 35, 48, 53, 97, 48, 125])],
    (.tup [(.agg [.int .u8 0, .bool true, .int .u32 16, (.slc 0 [] (some 0)), (.slc 5 [[.int .u8 0, .bool false, .int .u32 2, (.slc 1 [[.int .u8 1], [.int .u8 44]] none), (.slc 0 [] (some 0))], [.int .u8 0, .bool false, .int .u32 6, (.slc 1 [[.int .u8 85], [.int .u8 29], [.int .u8 32], [.int .u8 0]] none), (.slc 0 [] (some 0))], [.int .u8 0, .bool false, .int .u32 12, (.slc 1 [[.int .u8 97]] none), (.slc 0 [] (some 0))], [.int .u8 0, .bool false, .int .u32 23, (.slc 1 [[.int .u8 57], [.int .u8 57], [.int .u8 49], [.int .u8 50], [.int .u8 51], [.int .u8 49], [.int .u8 50], [.int .u8 51], [.int .u8 53], [.int .u8 57], [.int .u8 53], [.int .u8 57], [.int .u8 90]] (some 13)), (.slc 0 [] (some 0))], [.int .u8 0, .bool false, .int .u32 3, (.slc 1 [[.int .u8 5], [.int .u8 160]] none), (.slc 0 [] (some 0))]] none)]), .int .i64 0, .int .i64 0, .int .i64 0])⟩
theorem part0_ok : CallS Cb part0.g part0.args [] part0.r [] := CallS.withXE (C := Cb2) (XE := xe) (runR_sound (C := Cb2) (Ms := [249, 267, 216]) (n := 10000) Cb_mixed names_ok2 (fun _ _ _ _ _ h => h.elim) (by rw [show cb Cb2 = Kx2 from rfl]; kernel_rfl))
def part1 : PE := ⟨26, [(.agg [.int .u8 0, .bool true, .int .u32 16, (.slc 0 [] (some 0)), (.slc 5 [[.int .u8 0, .bool false, .int .u32 2, (.slc 1 [[.int .u8 1], [.int .u8 44]] none), (.slc 0 [] (some 0))], [.int .u8 0, .bool false, .int .u32 6, (.slc 1 [[.int .u8 85], [.int .u8 29], [.int .u8 32], [.int .u8 0]] none), (.slc 0 [] (some 0))], [.int .u8 0, .bool false, .int .u32 12, (.slc 1 [[.int .u8 97]] none), (.slc 0 [] (some 0))], [.int .u8 0, .bool false, .int .u32 23, (.slc 1 [[.int .u8 57], [.int .u8 57], [.int .u8 49], [.int .u8 50], [.int .u8 51], [.int .u8 49], [.int .u8 50], [.int .u8 51], [.int .u8 53], [.int .u8 57], [.int .u8 53], [.int .u8 57], [.int .u8 90]] (some 13)), (.slc 0 [] (some 0))], [.int .u8 0, .bool false, .int .u32 3, (.slc 1 [[.int .u8 5], [.int .u8 160]] none), (.slc 0 [] (some 0))]] none)])],
    (.tup [(.slc 1 [[.int .u8 48], [.int .u8 32], [.int .u8 2], [.int .u8 2], [.int .u8 1], [.int .u8 44], [.int .u8 6], [.int .u8 4], [.int .u8 85], [.int .u8 29], [.int .u8 32], [.int .u8 0], [.int .u8 12], [.int .u8 1], [.int .u8 97], [.int .u8 23], [.int .u8 13], [.int .u8 57], [.int .u8 57], [.int .u8 49], [.int .u8 50], [.int .u8 51], [.int .u8 49], [.int .u8 50], [.int .u8 51], [.int .u8 53], [.int .u8 57], [.int .u8 53], [.int .u8 57], [.int .u8 90], [.int .u8 3], [.int .u8 2], [.int .u8 5], [.int .u8 160]] none), .int .i64 0])⟩
theorem part1_ok : CallS Cb part1.g part1.args [] part1.r [] := CallS.withXE (C := Cb2) (XE := xe) (runR_sound (C := Cb2) (Ms := [249, 267, 216]) (n := 10000) Cb_mixed names_ok2 (fun _ _ _ _ _ h => h.elim) (by rw [show cb Cb2 = Kx2 from rfl]; kernel_rfl))
def part2 : PE := ⟨27, [(.slc 1 [[.int .u8 48], [.int .u8 32], [.int .u8 2], [.int .u8 2], [.int .u8 1], [.int .u8 44], [.int .u8 6], [.int .u8 4], [.int .u8 85], [.int .u8 29], [.int .u8 32], [.int .u8 0], [.int .u8 12], [.int .u8 1], [.int .u8 97], [.int .u8 23], [.int .u8 13], [.int .u8 57], [.int .u8 57], [.int .u8 49], [.int .u8 50], [.int .u8 51], [.int .u8 49], [.int .u8 50], [.int .u8 51], [.int .u8 53], [.int .u8 57], [.int .u8 53], [.int .u8 57], [.int .u8 90], [.int .u8 3], [.int .u8 2], [.int .u8 5], [.int .u8 160]] none)],
    (.tup [(.agg [.int .u8 0, .bool true, .int .u32 16, (.slc 0 [] (some 0)), (.slc 5 [[.int .u8 0, .bool false, .int .u32 2, (.slc 1 [[.int .u8 1], [.int .u8 44]] none), (.slc 0 [] (some 0))], [.int .u8 0, .bool false, .int .u32 6, (.slc 1 [[.int .u8 85], [.int .u8 29], [.int .u8 32], [.int .u8 0]] none), (.slc 0 [] (some 0))], [.int .u8 0, .bool false, .int .u32 12, (.slc 1 [[.int .u8 97]] none), (.slc 0 [] (some 0))], [.int .u8 0, .bool false, .int .u32 23, (.slc 1 [[.int .u8 57], [.int .u8 57], [.int .u8 49], [.int .u8 50], [.int .u8 51], [.int .u8 49], [.int .u8 50], [.int .u8 51], [.int .u8 53], [.int .u8 57], [.int .u8 53], [.int .u8 57], [.int .u8 90]] none), (.slc 0 [] (some 0))], [.int .u8 0, .bool false, .int .u32 3, (.slc 1 [[.int .u8 5], [.int .u8 160]] none), (.slc 0 [] (some 0))]] none)]), .int .i64 0, .int .i64 0])⟩
theorem part2_ok : CallS Cb part2.g part2.args [] part2.r [] := CallS.withXE (C := Cb2) (XE := xe) (runR_sound (C := Cb2) (Ms := [249, 267, 216]) (n := 10000) Cb_mixed names_ok2 (fun _ _ _ _ _ h => h.elim) (by rw [show cb Cb2 = Kx2 from rfl]; kernel_rfl))
def parts : List PE := [part0, part1, part2]
theorem parts_ok : ∀ t, t ∈ parts → CallS Cb t.g t.args [] t.r [] := by
  intro t ht
  simp only [parts, List.mem_cons, List.not_mem_nil, or_false] at ht
  rcases ht with rfl | rfl | rfl
  · exact part0_ok
  · exact part1_ok
  · exact part2_ok
def xe3 (f : Nat) (args : List AVal) (gt : Nat → Option Blk) : Option AVal :=
  match xe2 f args gt with
  | some r => some r
  | none => pureE gt f args parts
noncomputable def Cb3 : Ctx := { Cb with XE := xe3 }
noncomputable def Kx3 : CB := ⟨Tryz.prog, globs, tabI Tryz.prog, tabJ Tryz.prog, xe3⟩
theorem names_ok3 : NamesOK Cb3 := by
  refine ⟨names_ok.1, fun f args r sto h => CallS.withXE (C := Cb) (XE := xe3) ?_⟩
  have h : xe3 f args (rd sto) = some r := h
  unfold xe3 at h
  split at h
  · rename_i r' hx
    cases h
    exact xe2_ok hx
  · exact pureE_sound parts_ok h
theorem live11_s : CallS Cb3 9 [] [] (.bool true) [] := runE_sound (C := Cb3) (Ms := []) (n := 10000) Cb_mixed names_ok3 (fun _ _ _ _ _ h => h.elim) .nil (by rw [show cb Cb3 = Kx3 from rfl]; kernel_rfl)
theorem live11_call : CallF Cx 9 [] [] (.bool true) [] := ⟨0, rfl, rfl, CallS.withXE (C := Cb3) (XE := xe) live11_s⟩
instance : Con Sx0 9 [] True (.bool true) := con0 live11_call
end Go.Proofs.YtaajfbcopafkaaaGreatDoor.Ai
