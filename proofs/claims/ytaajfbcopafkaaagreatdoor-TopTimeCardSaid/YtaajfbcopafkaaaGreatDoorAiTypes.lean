/- What the abstract operations ask of each type of the seat. Own work, printed. -/
import Derived.Test.YtaajfbcopafkaaaGreatDoorAiSymG
import Derived.Test.YtaajfbcopafkaaaGreatDoorChecked
namespace Go.Proofs.YtaajfbcopafkaaaGreatDoor.Ai
open Go
set_option maxRecDepth 10000
set_option linter.unusedSimpArgs false
def tyi3 : TyI := ⟨false, 1, 8, false, false, false, some .i64, none, none, [.int .i64 0], none, [], none⟩
theorem tyok3 : TyOK Tryz.prog 3 tyi3 := tyOf
def tyi4 : TyI := ⟨false, 1, 1, false, true, false, none, none, none, [.bool false], none, [], none⟩
theorem tyok4 : TyOK Tryz.prog 4 tyi4 := tyOf
def tyi5 : TyI := ⟨false, 1, 1, false, false, false, some .u8, none, none, [.int .u8 0], none, [], none⟩
theorem tyok5 : TyOK Tryz.prog 5 tyi5 := tyOf
def tyi9 : TyI := ⟨false, 1, 16, true, false, false, none, none, none, [.str []], none, [], none⟩
theorem tyok9 : TyOK Tryz.prog 9 tyi9 := tyOf
def tyi22 : TyI := ⟨false, 1, 2, false, false, false, some .u16, none, none, [.int .u16 0], none, [], none⟩
theorem tyok22 : TyOK Tryz.prog 22 tyi22 := tyOf
def tyi24 : TyI := ⟨true, 6, 8, false, false, false, none, none, none, [.int .u16 0, .int .u8 0, .int .u8 0, .int .u8 0, .int .u8 0, .int .u8 0], some [(0, 1), (1, 1), (2, 1), (3, 1), (4, 1), (5, 1)], [(0, 22), (1, 5), (2, 5), (3, 5), (4, 5), (5, 5)], some [.i, .i, .i, .i, .i, .i]⟩
theorem lv24 : leavesT Tryz.prog 8 24 = some [.i, .i, .i, .i, .i, .i] := by
  have h24 : Tryz.prog.stoodInHeld 24 = false := by kernel_rfl
  have s5 : szOf Tryz.prog 5 = 1 := by kernel_rfl
  have s22 : szOf Tryz.prog 22 = 1 := by kernel_rfl
  have s24 : szOf Tryz.prog 24 = 6 := by kernel_rfl
  simp [leavesT, leavesT.go, Tryz.underlying5, s5, Tryz.underlying22, s22, Tryz.underlying24, s24, h24]
theorem tyok24 : TyOK Tryz.prog 24 tyi24 := tyOf (hl := lv24)
def tyi26 : TyI := ⟨true, 6, 48, false, false, false, none, none, none, [.int .i64 0, .int .i64 0, .int .i64 0, .int .i64 0, .int .i64 0, .int .i64 0], some [(0, 1), (1, 1), (2, 1), (3, 1), (4, 1), (5, 1)], [(0, 3), (1, 3), (2, 3), (3, 3), (4, 3), (5, 3)], some [.i, .i, .i, .i, .i, .i]⟩
theorem lv26 : leavesT Tryz.prog 8 26 = some [.i, .i, .i, .i, .i, .i] := by
  have h26 : Tryz.prog.stoodInHeld 26 = false := by kernel_rfl
  have s3 : szOf Tryz.prog 3 = 1 := by kernel_rfl
  have s26 : szOf Tryz.prog 26 = 6 := by kernel_rfl
  simp [leavesT, leavesT.go, Tryz.underlying3, s3, Tryz.underlying26, s26, h26]
theorem tyok26 : TyOK Tryz.prog 26 tyi26 := tyOf (hl := lv26)
def tyi28 : TyI := ⟨false, 1, 1, false, false, false, some .u8, none, none, [.int .u8 0], none, [], none⟩
theorem tyok28 : TyOK Tryz.prog 28 tyi28 := tyOf
def tyi29 : TyI := ⟨false, 1, 4, false, false, false, some .u32, none, none, [.int .u32 0], none, [], none⟩
theorem tyok29 : TyOK Tryz.prog 29 tyi29 := tyOf
def tyi31 : TyI := ⟨true, 3, 8, false, false, false, none, none, none, [.int .u8 0, .bool false, .int .u32 0], some [(0, 1), (1, 1), (2, 1)], [(0, 28), (1, 4), (2, 29)], some [.i, .b, .i]⟩
theorem lv31 : leavesT Tryz.prog 8 31 = some [.i, .b, .i] := by
  have h31 : Tryz.prog.stoodInHeld 31 = false := by kernel_rfl
  have s4 : szOf Tryz.prog 4 = 1 := by kernel_rfl
  have s28 : szOf Tryz.prog 28 = 1 := by kernel_rfl
  have s29 : szOf Tryz.prog 29 = 1 := by kernel_rfl
  have s31 : szOf Tryz.prog 31 = 3 := by kernel_rfl
  simp [leavesT, leavesT.go, Tryz.underlying4, s4, Tryz.underlying28, s28, Tryz.underlying29, s29, Tryz.underlying31, s31, h31]
theorem tyok31 : TyOK Tryz.prog 31 tyi31 := tyOf (hl := lv31)
def tyi32 : TyI := ⟨false, 1, 24, false, false, false, none, some 5, none, [.slc 0 [] (some 0)], none, [], none⟩
theorem tyok32 : TyOK Tryz.prog 32 tyi32 := tyOf
def tyi33 : TyI := ⟨false, 1, 24, false, false, false, none, some 35, none, [.slc 0 [] (some 0)], none, [], none⟩
theorem tyok33 : TyOK Tryz.prog 33 tyi33 := tyOf
def tyi35 : TyI := ⟨true, 5, 56, false, false, false, none, none, none, [.int .u8 0, .bool false, .int .u32 0, .slc 0 [] (some 0), .slc 0 [] (some 0)], some [(0, 3), (3, 1), (4, 1)], [(0, 31), (3, 32), (4, 33)], none⟩
theorem tyok35 : TyOK Tryz.prog 35 tyi35 := tyOf
def tyi36 : TyI := ⟨false, 1, 8, false, false, false, some .i64, none, none, [.int .i64 0], none, [], none⟩
theorem tyok36 : TyOK Tryz.prog 36 tyi36 := tyOf
def tyi49 : TyI := ⟨true, 2, 24, false, false, false, none, none, none, [.int .u32 0, .str []], some [(0, 1), (1, 1)], [(0, 29), (1, 9)], some [.i, .s]⟩
theorem lv49 : leavesT Tryz.prog 8 49 = some [.i, .s] := by
  have h49 : Tryz.prog.stoodInHeld 49 = false := by kernel_rfl
  have s9 : szOf Tryz.prog 9 = 1 := by kernel_rfl
  have s29 : szOf Tryz.prog 29 = 1 := by kernel_rfl
  have s49 : szOf Tryz.prog 49 = 2 := by kernel_rfl
  simp [leavesT, leavesT.go, Tryz.underlying9, s9, Tryz.underlying29, s29, Tryz.underlying49, s49, h49]
theorem tyok49 : TyOK Tryz.prog 49 tyi49 := tyOf (hl := lv49)
def tyi61 : TyI := ⟨false, 1, 24, false, false, false, none, some 3, none, [.slc 0 [] (some 0)], none, [], none⟩
theorem tyok61 : TyOK Tryz.prog 61 tyi61 := tyOf
def tyi71 : TyI := ⟨true, 16, 64, false, false, false, none, none, some (16, 29), [.int .u32 0, .int .u32 0, .int .u32 0, .int .u32 0, .int .u32 0, .int .u32 0, .int .u32 0, .int .u32 0, .int .u32 0, .int .u32 0, .int .u32 0, .int .u32 0, .int .u32 0, .int .u32 0, .int .u32 0, .int .u32 0], none, [], some [.i, .i, .i, .i, .i, .i, .i, .i, .i, .i, .i, .i, .i, .i, .i, .i]⟩
theorem lv71 : leavesT Tryz.prog 8 71 = some [.i, .i, .i, .i, .i, .i, .i, .i, .i, .i, .i, .i, .i, .i, .i, .i] := by
  have s29 : szOf Tryz.prog 29 = 1 := by kernel_rfl
  have s71 : szOf Tryz.prog 71 = 16 := by kernel_rfl
  simp [leavesT, leavesT.go, Tryz.underlying29, s29, Tryz.underlying71, s71]
theorem tyok71 : TyOK Tryz.prog 71 tyi71 := tyOf (hl := lv71)
def tyi73 : TyI := ⟨true, 17, 68, false, false, false, none, none, none, [.int .u8 0, .int .u32 0, .int .u32 0, .int .u32 0, .int .u32 0, .int .u32 0, .int .u32 0, .int .u32 0, .int .u32 0, .int .u32 0, .int .u32 0, .int .u32 0, .int .u32 0, .int .u32 0, .int .u32 0, .int .u32 0, .int .u32 0], some [(0, 1), (1, 16)], [(0, 5), (1, 71)], some [.i, .i, .i, .i, .i, .i, .i, .i, .i, .i, .i, .i, .i, .i, .i, .i, .i]⟩
theorem lv73 : leavesT Tryz.prog 8 73 = some [.i, .i, .i, .i, .i, .i, .i, .i, .i, .i, .i, .i, .i, .i, .i, .i, .i] := by
  have h73 : Tryz.prog.stoodInHeld 73 = false := by kernel_rfl
  have s5 : szOf Tryz.prog 5 = 1 := by kernel_rfl
  have s29 : szOf Tryz.prog 29 = 1 := by kernel_rfl
  have s71 : szOf Tryz.prog 71 = 16 := by kernel_rfl
  have s73 : szOf Tryz.prog 73 = 17 := by kernel_rfl
  simp [leavesT, leavesT.go, Tryz.underlying5, s5, Tryz.underlying29, s29, Tryz.underlying71, s71, Tryz.underlying73, s73, h73]
theorem tyok73 : TyOK Tryz.prog 73 tyi73 := tyOf (hl := lv73)
def tyi94 : TyI := ⟨false, 1, 8, false, false, true, none, none, none, [.nilfunc], none, [], none⟩
theorem tyok94 : TyOK Tryz.prog 94 tyi94 := tyOf
def tyi123 : TyI := ⟨false, 1, 8, false, false, true, none, none, none, [.nilfunc], none, [], none⟩
theorem tyok123 : TyOK Tryz.prog 123 tyi123 := tyOf
def tyi126 : TyI := ⟨false, 1, 8, false, false, false, none, none, none, [.nilptr], none, [], none⟩
theorem tyok126 : TyOK Tryz.prog 126 tyi126 := tyOf
def tyi127 : TyI := ⟨false, 1, 24, false, false, false, none, some 126, none, [.slc 0 [] (some 0)], none, [], none⟩
theorem tyok127 : TyOK Tryz.prog 127 tyi127 := tyOf
def tyi151 : TyI := ⟨true, 12, 96, false, false, false, none, none, some (12, 3), [.int .i64 0, .int .i64 0, .int .i64 0, .int .i64 0, .int .i64 0, .int .i64 0, .int .i64 0, .int .i64 0, .int .i64 0, .int .i64 0, .int .i64 0, .int .i64 0], none, [], some [.i, .i, .i, .i, .i, .i, .i, .i, .i, .i, .i, .i]⟩
theorem lv151 : leavesT Tryz.prog 8 151 = some [.i, .i, .i, .i, .i, .i, .i, .i, .i, .i, .i, .i] := by
  have s3 : szOf Tryz.prog 3 = 1 := by kernel_rfl
  have s151 : szOf Tryz.prog 151 = 12 := by kernel_rfl
  simp [leavesT, leavesT.go, Tryz.underlying3, s3, Tryz.underlying151, s151]
theorem tyok151 : TyOK Tryz.prog 151 tyi151 := tyOf (hl := lv151)
def tyi154 : TyI := ⟨false, 1, 8, false, false, true, none, none, none, [.nilfunc], none, [], none⟩
theorem tyok154 : TyOK Tryz.prog 154 tyi154 := tyOf
def tyi178 : TyI := ⟨false, 1, 8, false, false, true, none, none, none, [.nilfunc], none, [], none⟩
theorem tyok178 : TyOK Tryz.prog 178 tyi178 := tyOf
def tyL : List (Option TyI) := [none, none, none, some tyi3, some tyi4, some tyi5, none, none, none, some tyi9, none, none, none, none, none, none, none, none, none, none, none, none, some tyi22, none, some tyi24, none, some tyi26, none, some tyi28, some tyi29, none, some tyi31, some tyi32, some tyi33, none, some tyi35, some tyi36, none, none, none, none, none, none, none, none, none, none, none, none, some tyi49, none, none, none, none, none, none, none, none, none, none, none, some tyi61, none, none, none, none, none, none, none, none, none, some tyi71, none, some tyi73, none, none, none, none, none, none, none, none, none, none, none, none, none, none, none, none, none, none, none, none, some tyi94, none, none, none, none, none, none, none, none, none, none, none, none, none, none, none, none, none, none, none, none, none, none, none, none, none, none, none, none, some tyi123, none, none, some tyi126, some tyi127, none, none, none, none, none, none, none, none, none, none, none, none, none, none, none, none, none, none, none, none, none, none, none, some tyi151, none, none, some tyi154, none, none, none, none, none, none, none, none, none, none, none, none, none, none, none, none, none, none, none, none, none, none, none, some tyi178, none, none, none, none, none, none, none, none, none, none, none, none, none, none, none, none, none, none, none, none, none, none, none, none, none, none, none, none, none, none, none, none, none, none, none, none, none, none, none, none, none, none, none, none, none, none, none, none, none, none, none, none, none, none, none, none, none, none, none, none, none, none, none, none, none, none, none, none, none, none, none, none, none, none, none, none, none, none, none, none, none, none, none, none, none, none, none, none, none, none, none, none, none, none, none, none, none, none, none, none, none, none, none, none, none, none, none, none, none, none, none, none, none, none, none, none, none, none, none, none, none, none, none, none, none, none, none, none, none, none, none, none, none, none, none, none, none, none, none, none, none, none, none, none, none, none, none, none, none, none, none, none, none, none, none, none, none, none, none, none, none, none, none, none, none, none, none, none, none, none, none, none, none, none, none, none, none, none, none, none]
theorem tyL_ok : TyOKs Tryz.prog 0 tyL := ⟨tyok3, ⟨tyok4, ⟨tyok5, ⟨tyok9, ⟨tyok22, ⟨tyok24, ⟨tyok26, ⟨tyok28, ⟨tyok29, ⟨tyok31, ⟨tyok32, ⟨tyok33, ⟨tyok35, ⟨tyok36, ⟨tyok49, ⟨tyok61, ⟨tyok71, ⟨tyok73, ⟨tyok94, ⟨tyok123, ⟨tyok126, ⟨tyok127, ⟨tyok151, ⟨tyok154, ⟨tyok178, trivial⟩⟩⟩⟩⟩⟩⟩⟩⟩⟩⟩⟩⟩⟩⟩⟩⟩⟩⟩⟩⟩⟩⟩⟩⟩
end Go.Proofs.YtaajfbcopafkaaaGreatDoor.Ai
