/- What the abstract operations ask of each type of the seat. Own work, printed. -/
import Derived.Test.YtepnbdacekkapaaGreatDoorAiSymG
import Derived.Test.YtepnbdacekkapaaGreatDoorChecked
namespace Go.Proofs.YtepnbdacekkapaaGreatDoor.Ai
open Go
set_option maxRecDepth 10000
set_option linter.unusedSimpArgs false
def tyi1 : TyI := ⟨false, 1, 8, false, false, true, none, none, none, [.nilfunc], none, [], none⟩
theorem tyok1 : TyOK Tryz.prog 1 tyi1 := tyOf
def tyi2 : TyI := ⟨false, 1, 8, false, false, false, some .i64, none, none, [.int .i64 0], none, [], none⟩
theorem tyok2 : TyOK Tryz.prog 2 tyi2 := tyOf
def tyi3 : TyI := ⟨false, 1, 8, false, false, false, some .i64, none, none, [.int .i64 0], none, [], none⟩
theorem tyok3 : TyOK Tryz.prog 3 tyi3 := tyOf
def tyi4 : TyI := ⟨false, 1, 1, false, true, false, none, none, none, [.bool false], none, [], none⟩
theorem tyok4 : TyOK Tryz.prog 4 tyi4 := tyOf
def tyi5 : TyI := ⟨false, 1, 1, false, false, false, some .u8, none, none, [.int .u8 0], none, [], none⟩
theorem tyok5 : TyOK Tryz.prog 5 tyi5 := tyOf
def tyi6 : TyI := ⟨false, 1, 1, false, false, false, some .u8, none, none, [.int .u8 0], none, [], none⟩
theorem tyok6 : TyOK Tryz.prog 6 tyi6 := tyOf
def tyi7 : TyI := ⟨true, 4, 24, false, false, false, none, none, none, [.int .i64 0, .int .i64 0, .bool false, .int .u8 0], some [(0, 1), (1, 1), (2, 1), (3, 1)], [(0, 2), (1, 3), (2, 4), (3, 6)], some [.i, .i, .b, .i]⟩
theorem lv7 : leavesT Tryz.prog 8 7 = some [.i, .i, .b, .i] := by
  have h7 : Tryz.prog.stoodInHeld 7 = false := by kernel_rfl
  have s2 : szOf Tryz.prog 2 = 1 := by kernel_rfl
  have s3 : szOf Tryz.prog 3 = 1 := by kernel_rfl
  have s4 : szOf Tryz.prog 4 = 1 := by kernel_rfl
  have s6 : szOf Tryz.prog 6 = 1 := by kernel_rfl
  have s7 : szOf Tryz.prog 7 = 4 := by kernel_rfl
  simp [leavesT, leavesT.go, Tryz.underlying2, s2, Tryz.underlying3, s3, Tryz.underlying4, s4, Tryz.underlying6, s6, Tryz.underlying7, s7, h7]
theorem tyok7 : TyOK Tryz.prog 7 tyi7 := tyOf (hl := lv7)
def tyi8 : TyI := ⟨true, 4, 24, false, false, false, none, none, none, [.int .i64 0, .int .i64 0, .bool false, .int .u8 0], some [(0, 1), (1, 1), (2, 1), (3, 1)], [(0, 2), (1, 3), (2, 4), (3, 6)], some [.i, .i, .b, .i]⟩
theorem lv8 : leavesT Tryz.prog 8 8 = some [.i, .i, .b, .i] := by
  have h8 : Tryz.prog.stoodInHeld 8 = false := by kernel_rfl
  have s2 : szOf Tryz.prog 2 = 1 := by kernel_rfl
  have s3 : szOf Tryz.prog 3 = 1 := by kernel_rfl
  have s4 : szOf Tryz.prog 4 = 1 := by kernel_rfl
  have s6 : szOf Tryz.prog 6 = 1 := by kernel_rfl
  have s8 : szOf Tryz.prog 8 = 4 := by kernel_rfl
  simp [leavesT, leavesT.go, Tryz.underlying2, s2, Tryz.underlying3, s3, Tryz.underlying4, s4, Tryz.underlying6, s6, Tryz.underlying8, s8, h8]
theorem tyok8 : TyOK Tryz.prog 8 tyi8 := tyOf (hl := lv8)
def tyi9 : TyI := ⟨false, 1, 16, true, false, false, none, none, none, [.str []], none, [], none⟩
theorem tyok9 : TyOK Tryz.prog 9 tyi9 := tyOf
def tyi10 : TyI := ⟨false, 1, 16, true, false, false, none, none, none, [.str []], none, [], none⟩
theorem tyok10 : TyOK Tryz.prog 10 tyi10 := tyOf
def tyi11 : TyI := ⟨false, 1, 16, true, false, false, none, none, none, [.str []], none, [], none⟩
theorem tyok11 : TyOK Tryz.prog 11 tyi11 := tyOf
def tyi12 : TyI := ⟨false, 1, 8, false, false, false, some .u64, none, none, [.int .u64 0], none, [], none⟩
theorem tyok12 : TyOK Tryz.prog 12 tyi12 := tyOf
def tyi13 : TyI := ⟨true, 2, 24, false, false, false, none, none, none, [.str [], .int .u64 0], some [(0, 1), (1, 1)], [(0, 9), (1, 12)], none⟩
theorem tyok13 : TyOK Tryz.prog 13 tyi13 := tyOf
def tyi14 : TyI := ⟨true, 2, 24, false, false, false, none, none, none, [.str [], .int .u64 0], some [(0, 1), (1, 1)], [(0, 9), (1, 12)], none⟩
theorem tyok14 : TyOK Tryz.prog 14 tyi14 := tyOf
def tyi15 : TyI := ⟨false, 1, 8, false, false, false, none, none, none, [.nilptr], none, [], none⟩
theorem tyok15 : TyOK Tryz.prog 15 tyi15 := tyOf
def tyi16 : TyI := ⟨false, 1, 8, false, false, false, none, none, none, [.nilptr], none, [], none⟩
theorem tyok16 : TyOK Tryz.prog 16 tyi16 := tyOf
def tyi17 : TyI := ⟨false, 1, 8, false, false, false, none, none, none, [.nilptr], none, [], none⟩
theorem tyok17 : TyOK Tryz.prog 17 tyi17 := tyOf
def tyi18 : TyI := ⟨true, 1, 8, false, false, false, none, none, none, [.nilptr], some [(0, 1)], [(0, 17)], none⟩
theorem tyok18 : TyOK Tryz.prog 18 tyi18 := tyOf
def tyi19 : TyI := ⟨true, 1, 8, false, false, false, none, none, none, [.nilptr], some [(0, 1)], [(0, 17)], none⟩
theorem tyok19 : TyOK Tryz.prog 19 tyi19 := tyOf
def tyi20 : TyI := ⟨false, 1, 16, false, false, false, none, none, none, [.nilif], none, [], none⟩
theorem tyok20 : TyOK Tryz.prog 20 tyi20 := tyOf
def tyi21 : TyI := ⟨false, 1, 4, false, false, false, some .i32, none, none, [.int .i32 0], none, [], none⟩
theorem tyok21 : TyOK Tryz.prog 21 tyi21 := tyOf
def tyi22 : TyI := ⟨false, 1, 8, false, false, false, some .i64, none, none, [.int .i64 0], none, [], none⟩
theorem tyok22 : TyOK Tryz.prog 22 tyi22 := tyOf
def tyi24 : TyI := ⟨false, 1, 8, false, false, true, none, none, none, [.nilfunc], none, [], none⟩
theorem tyok24 : TyOK Tryz.prog 24 tyi24 := tyOf
def tyi25 : TyI := ⟨false, 1, 8, false, false, true, none, none, none, [.nilfunc], none, [], none⟩
theorem tyok25 : TyOK Tryz.prog 25 tyi25 := tyOf
def tyi26 : TyI := ⟨false, 1, 8, false, false, true, none, none, none, [.nilfunc], none, [], none⟩
theorem tyok26 : TyOK Tryz.prog 26 tyi26 := tyOf
def tyi27 : TyI := ⟨false, 1, 8, false, false, true, none, none, none, [.nilfunc], none, [], none⟩
theorem tyok27 : TyOK Tryz.prog 27 tyi27 := tyOf
def tyi28 : TyI := ⟨true, 3, 24, false, false, false, none, none, some (3, 3), [.int .i64 0, .int .i64 0, .int .i64 0], none, [], some [.i, .i, .i]⟩
theorem lv28 : leavesT Tryz.prog 8 28 = some [.i, .i, .i] := by
  have s3 : szOf Tryz.prog 3 = 1 := by kernel_rfl
  have s28 : szOf Tryz.prog 28 = 3 := by kernel_rfl
  simp [leavesT, leavesT.go, Tryz.underlying3, s3, Tryz.underlying28, s28]
theorem tyok28 : TyOK Tryz.prog 28 tyi28 := tyOf (hl := lv28)
def tyi29 : TyI := ⟨false, 1, 24, false, false, false, none, some 28, none, [.slc 0 [] (some 0)], none, [], none⟩
theorem tyok29 : TyOK Tryz.prog 29 tyi29 := tyOf
def tyi30 : TyI := ⟨false, 1, 24, false, false, false, none, some 3, none, [.slc 0 [] (some 0)], none, [], none⟩
theorem tyok30 : TyOK Tryz.prog 30 tyi30 := tyOf
def tyi31 : TyI := ⟨true, 5, 72, false, false, false, none, none, none, [.int .i64 0, .int .i64 0, .int .i64 0, .slc 0 [] (some 0), .slc 0 [] (some 0)], some [(0, 1), (1, 1), (2, 1), (3, 1), (4, 1)], [(0, 3), (1, 3), (2, 3), (3, 30), (4, 30)], none⟩
theorem tyok31 : TyOK Tryz.prog 31 tyi31 := tyOf
def tyi32 : TyI := ⟨true, 5, 72, false, false, false, none, none, none, [.int .i64 0, .int .i64 0, .int .i64 0, .slc 0 [] (some 0), .slc 0 [] (some 0)], some [(0, 1), (1, 1), (2, 1), (3, 1), (4, 1)], [(0, 3), (1, 3), (2, 3), (3, 30), (4, 30)], none⟩
theorem tyok32 : TyOK Tryz.prog 32 tyi32 := tyOf
def tyi33 : TyI := ⟨false, 1, 8, false, false, true, none, none, none, [.nilfunc], none, [], none⟩
theorem tyok33 : TyOK Tryz.prog 33 tyi33 := tyOf
def tyi35 : TyI := ⟨false, 1, 8, false, false, true, none, none, none, [.nilfunc], none, [], none⟩
theorem tyok35 : TyOK Tryz.prog 35 tyi35 := tyOf
def tyi36 : TyI := ⟨false, 1, 8, false, false, true, none, none, none, [.nilfunc], none, [], none⟩
theorem tyok36 : TyOK Tryz.prog 36 tyi36 := tyOf
def tyi37 : TyI := ⟨false, 1, 8, false, false, true, none, none, none, [.nilfunc], none, [], none⟩
theorem tyok37 : TyOK Tryz.prog 37 tyi37 := tyOf
def tyi38 : TyI := ⟨false, 1, 8, false, false, true, none, none, none, [.nilfunc], none, [], none⟩
theorem tyok38 : TyOK Tryz.prog 38 tyi38 := tyOf
def tyi39 : TyI := ⟨false, 1, 24, false, false, false, none, some 5, none, [.slc 0 [] (some 0)], none, [], none⟩
theorem tyok39 : TyOK Tryz.prog 39 tyi39 := tyOf
def tyi40 : TyI := ⟨false, 1, 24, false, false, false, none, some 44, none, [.slc 0 [] (some 0)], none, [], none⟩
theorem tyok40 : TyOK Tryz.prog 40 tyi40 := tyOf
def tyi41 : TyI := ⟨true, 3, 3, false, false, false, none, none, some (3, 5), [.int .u8 0, .int .u8 0, .int .u8 0], none, [], some [.i, .i, .i]⟩
theorem lv41 : leavesT Tryz.prog 8 41 = some [.i, .i, .i] := by
  have s5 : szOf Tryz.prog 5 = 1 := by kernel_rfl
  have s41 : szOf Tryz.prog 41 = 3 := by kernel_rfl
  simp [leavesT, leavesT.go, Tryz.underlying5, s5, Tryz.underlying41, s41]
theorem tyok41 : TyOK Tryz.prog 41 tyi41 := tyOf (hl := lv41)
def tyi42 : TyI := ⟨true, 6, 64, false, false, false, none, none, none, [.bool false, .slc 0 [] (some 0), .slc 0 [] (some 0), .int .u8 0, .int .u8 0, .int .u8 0], some [(0, 1), (1, 1), (2, 1), (3, 3)], [(0, 4), (1, 39), (2, 40), (3, 41)], none⟩
theorem tyok42 : TyOK Tryz.prog 42 tyi42 := tyOf
def tyi43 : TyI := ⟨true, 6, 64, false, false, false, none, none, none, [.bool false, .slc 0 [] (some 0), .slc 0 [] (some 0), .int .u8 0, .int .u8 0, .int .u8 0], some [(0, 1), (1, 1), (2, 1), (3, 3)], [(0, 4), (1, 39), (2, 40), (3, 41)], none⟩
theorem tyok43 : TyOK Tryz.prog 43 tyi43 := tyOf
def tyi44 : TyI := ⟨true, 2, 2, false, false, false, none, none, some (2, 5), [.int .u8 0, .int .u8 0], none, [], some [.i, .i]⟩
theorem lv44 : leavesT Tryz.prog 8 44 = some [.i, .i] := by
  have s5 : szOf Tryz.prog 5 = 1 := by kernel_rfl
  have s44 : szOf Tryz.prog 44 = 2 := by kernel_rfl
  simp [leavesT, leavesT.go, Tryz.underlying5, s5, Tryz.underlying44, s44]
theorem tyok44 : TyOK Tryz.prog 44 tyi44 := tyOf (hl := lv44)
def tyi45 : TyI := ⟨false, 1, 24, false, false, false, none, some 43, none, [.slc 0 [] (some 0)], none, [], none⟩
theorem tyok45 : TyOK Tryz.prog 45 tyi45 := tyOf
def tyi46 : TyI := ⟨true, 3, 56, false, false, false, none, none, none, [.slc 0 [] (some 0), .slc 0 [] (some 0), .int .u8 0], some [(0, 1), (1, 1), (2, 1)], [(0, 45), (1, 39), (2, 5)], none⟩
theorem tyok46 : TyOK Tryz.prog 46 tyi46 := tyOf
def tyi47 : TyI := ⟨true, 3, 56, false, false, false, none, none, none, [.slc 0 [] (some 0), .slc 0 [] (some 0), .int .u8 0], some [(0, 1), (1, 1), (2, 1)], [(0, 45), (1, 39), (2, 5)], none⟩
theorem tyok47 : TyOK Tryz.prog 47 tyi47 := tyOf
def tyi49 : TyI := ⟨false, 1, 8, false, false, true, none, none, none, [.nilfunc], none, [], none⟩
theorem tyok49 : TyOK Tryz.prog 49 tyi49 := tyOf
def tyi50 : TyI := ⟨false, 1, 24, false, false, false, none, some 98, none, [.slc 0 [] (some 0)], none, [], none⟩
theorem tyok50 : TyOK Tryz.prog 50 tyi50 := tyOf
def tyi51 : TyI := ⟨false, 1, 24, false, false, false, none, some 73, none, [.slc 0 [] (some 0)], none, [], none⟩
theorem tyok51 : TyOK Tryz.prog 51 tyi51 := tyOf
def tyi52 : TyI := ⟨true, 4, 32, false, false, false, none, none, none, [.slc 0 [] (some 0), .bool false, .bool false, .bool false], some [(0, 1), (1, 1), (2, 1), (3, 1)], [(0, 51), (1, 4), (2, 4), (3, 4)], none⟩
theorem tyok52 : TyOK Tryz.prog 52 tyi52 := tyOf
def tyi53 : TyI := ⟨true, 4, 32, false, false, false, none, none, none, [.slc 0 [] (some 0), .bool false, .bool false, .bool false], some [(0, 1), (1, 1), (2, 1), (3, 1)], [(0, 51), (1, 4), (2, 4), (3, 4)], none⟩
theorem tyok53 : TyOK Tryz.prog 53 tyi53 := tyOf
def tyi55 : TyI := ⟨false, 1, 8, false, false, true, none, none, none, [.nilfunc], none, [], none⟩
theorem tyok55 : TyOK Tryz.prog 55 tyi55 := tyOf
def tyi56 : TyI := ⟨false, 1, 8, false, false, true, none, none, none, [.nilfunc], none, [], none⟩
theorem tyok56 : TyOK Tryz.prog 56 tyi56 := tyOf
def tyi57 : TyI := ⟨true, 2, 16, false, false, false, none, none, none, [.int .i64 0, .int .i64 0], some [(0, 1), (1, 1)], [(0, 3), (1, 3)], some [.i, .i]⟩
theorem lv57 : leavesT Tryz.prog 8 57 = some [.i, .i] := by
  have h57 : Tryz.prog.stoodInHeld 57 = false := by kernel_rfl
  have s3 : szOf Tryz.prog 3 = 1 := by kernel_rfl
  have s57 : szOf Tryz.prog 57 = 2 := by kernel_rfl
  simp [leavesT, leavesT.go, Tryz.underlying3, s3, Tryz.underlying57, s57, h57]
theorem tyok57 : TyOK Tryz.prog 57 tyi57 := tyOf (hl := lv57)
def tyi58 : TyI := ⟨true, 2, 16, false, false, false, none, none, none, [.int .i64 0, .int .i64 0], some [(0, 1), (1, 1)], [(0, 3), (1, 3)], some [.i, .i]⟩
theorem lv58 : leavesT Tryz.prog 8 58 = some [.i, .i] := by
  have h58 : Tryz.prog.stoodInHeld 58 = false := by kernel_rfl
  have s3 : szOf Tryz.prog 3 = 1 := by kernel_rfl
  have s58 : szOf Tryz.prog 58 = 2 := by kernel_rfl
  simp [leavesT, leavesT.go, Tryz.underlying3, s3, Tryz.underlying58, s58, h58]
theorem tyok58 : TyOK Tryz.prog 58 tyi58 := tyOf (hl := lv58)
def tyi60 : TyI := ⟨false, 1, 8, false, false, true, none, none, none, [.nilfunc], none, [], none⟩
theorem tyok60 : TyOK Tryz.prog 60 tyi60 := tyOf
def tyi61 : TyI := ⟨false, 1, 8, false, false, true, none, none, none, [.nilfunc], none, [], none⟩
theorem tyok61 : TyOK Tryz.prog 61 tyi61 := tyOf
def tyi62 : TyI := ⟨false, 1, 8, false, false, true, none, none, none, [.nilfunc], none, [], none⟩
theorem tyok62 : TyOK Tryz.prog 62 tyi62 := tyOf
def tyi63 : TyI := ⟨false, 1, 8, false, false, true, none, none, none, [.nilfunc], none, [], none⟩
theorem tyok63 : TyOK Tryz.prog 63 tyi63 := tyOf
def tyi64 : TyI := ⟨false, 1, 8, false, false, true, none, none, none, [.nilfunc], none, [], none⟩
theorem tyok64 : TyOK Tryz.prog 64 tyi64 := tyOf
def tyi65 : TyI := ⟨false, 1, 8, false, false, true, none, none, none, [.nilfunc], none, [], none⟩
theorem tyok65 : TyOK Tryz.prog 65 tyi65 := tyOf
def tyi67 : TyI := ⟨false, 1, 8, false, false, true, none, none, none, [.nilfunc], none, [], none⟩
theorem tyok67 : TyOK Tryz.prog 67 tyi67 := tyOf
def tyi68 : TyI := ⟨false, 1, 8, false, false, true, none, none, none, [.nilfunc], none, [], none⟩
theorem tyok68 : TyOK Tryz.prog 68 tyi68 := tyOf
def tyi69 : TyI := ⟨false, 1, 24, false, false, false, none, some 76, none, [.slc 0 [] (some 0)], none, [], none⟩
theorem tyok69 : TyOK Tryz.prog 69 tyi69 := tyOf
def tyi70 : TyI := ⟨false, 1, 4, false, false, false, some .u32, none, none, [.int .u32 0], none, [], none⟩
theorem tyok70 : TyOK Tryz.prog 70 tyi70 := tyOf
def tyi71 : TyI := ⟨true, 16, 64, false, false, false, none, none, some (16, 70), [.int .u32 0, .int .u32 0, .int .u32 0, .int .u32 0, .int .u32 0, .int .u32 0, .int .u32 0, .int .u32 0, .int .u32 0, .int .u32 0, .int .u32 0, .int .u32 0, .int .u32 0, .int .u32 0, .int .u32 0, .int .u32 0], none, [], some [.i, .i, .i, .i, .i, .i, .i, .i, .i, .i, .i, .i, .i, .i, .i, .i]⟩
theorem lv71 : leavesT Tryz.prog 8 71 = some [.i, .i, .i, .i, .i, .i, .i, .i, .i, .i, .i, .i, .i, .i, .i, .i] := by
  have s70 : szOf Tryz.prog 70 = 1 := by kernel_rfl
  have s71 : szOf Tryz.prog 71 = 16 := by kernel_rfl
  simp [leavesT, leavesT.go, Tryz.underlying70, s70, Tryz.underlying71, s71]
theorem tyok71 : TyOK Tryz.prog 71 tyi71 := tyOf (hl := lv71)
def tyi72 : TyI := ⟨true, 17, 68, false, false, false, none, none, none, [.int .u8 0, .int .u32 0, .int .u32 0, .int .u32 0, .int .u32 0, .int .u32 0, .int .u32 0, .int .u32 0, .int .u32 0, .int .u32 0, .int .u32 0, .int .u32 0, .int .u32 0, .int .u32 0, .int .u32 0, .int .u32 0, .int .u32 0], some [(0, 1), (1, 16)], [(0, 5), (1, 71)], some [.i, .i, .i, .i, .i, .i, .i, .i, .i, .i, .i, .i, .i, .i, .i, .i, .i]⟩
theorem lv72 : leavesT Tryz.prog 8 72 = some [.i, .i, .i, .i, .i, .i, .i, .i, .i, .i, .i, .i, .i, .i, .i, .i, .i] := by
  have h72 : Tryz.prog.stoodInHeld 72 = false := by kernel_rfl
  have s5 : szOf Tryz.prog 5 = 1 := by kernel_rfl
  have s70 : szOf Tryz.prog 70 = 1 := by kernel_rfl
  have s71 : szOf Tryz.prog 71 = 16 := by kernel_rfl
  have s72 : szOf Tryz.prog 72 = 17 := by kernel_rfl
  simp [leavesT, leavesT.go, Tryz.underlying5, s5, Tryz.underlying70, s70, Tryz.underlying71, s71, Tryz.underlying72, s72, h72]
theorem tyok72 : TyOK Tryz.prog 72 tyi72 := tyOf (hl := lv72)
def tyi73 : TyI := ⟨true, 17, 68, false, false, false, none, none, none, [.int .u8 0, .int .u32 0, .int .u32 0, .int .u32 0, .int .u32 0, .int .u32 0, .int .u32 0, .int .u32 0, .int .u32 0, .int .u32 0, .int .u32 0, .int .u32 0, .int .u32 0, .int .u32 0, .int .u32 0, .int .u32 0, .int .u32 0], some [(0, 1), (1, 16)], [(0, 5), (1, 71)], some [.i, .i, .i, .i, .i, .i, .i, .i, .i, .i, .i, .i, .i, .i, .i, .i, .i]⟩
theorem lv73 : leavesT Tryz.prog 8 73 = some [.i, .i, .i, .i, .i, .i, .i, .i, .i, .i, .i, .i, .i, .i, .i, .i, .i] := by
  have h73 : Tryz.prog.stoodInHeld 73 = false := by kernel_rfl
  have s5 : szOf Tryz.prog 5 = 1 := by kernel_rfl
  have s70 : szOf Tryz.prog 70 = 1 := by kernel_rfl
  have s71 : szOf Tryz.prog 71 = 16 := by kernel_rfl
  have s73 : szOf Tryz.prog 73 = 17 := by kernel_rfl
  simp [leavesT, leavesT.go, Tryz.underlying5, s5, Tryz.underlying70, s70, Tryz.underlying71, s71, Tryz.underlying73, s73, h73]
theorem tyok73 : TyOK Tryz.prog 73 tyi73 := tyOf (hl := lv73)
def tyi74 : TyI := ⟨false, 1, 24, false, false, false, none, some 147, none, [.slc 0 [] (some 0)], none, [], none⟩
theorem tyok74 : TyOK Tryz.prog 74 tyi74 := tyOf
def tyi75 : TyI := ⟨true, 18, 96, false, false, false, none, none, none, [.int .u8 0, .int .u32 0, .int .u32 0, .int .u32 0, .int .u32 0, .int .u32 0, .int .u32 0, .int .u32 0, .int .u32 0, .int .u32 0, .int .u32 0, .int .u32 0, .int .u32 0, .int .u32 0, .int .u32 0, .int .u32 0, .int .u32 0, .slc 0 [] (some 0)], some [(0, 17), (17, 1)], [(0, 73), (17, 74)], none⟩
theorem tyok75 : TyOK Tryz.prog 75 tyi75 := tyOf
def tyi76 : TyI := ⟨true, 18, 96, false, false, false, none, none, none, [.int .u8 0, .int .u32 0, .int .u32 0, .int .u32 0, .int .u32 0, .int .u32 0, .int .u32 0, .int .u32 0, .int .u32 0, .int .u32 0, .int .u32 0, .int .u32 0, .int .u32 0, .int .u32 0, .int .u32 0, .int .u32 0, .int .u32 0, .slc 0 [] (some 0)], some [(0, 17), (17, 1)], [(0, 73), (17, 74)], none⟩
theorem tyok76 : TyOK Tryz.prog 76 tyi76 := tyOf
def tyi77 : TyI := ⟨false, 1, 8, false, false, true, none, none, none, [.nilfunc], none, [], none⟩
theorem tyok77 : TyOK Tryz.prog 77 tyi77 := tyOf
def tyi78 : TyI := ⟨false, 1, 8, false, false, true, none, none, none, [.nilfunc], none, [], none⟩
theorem tyok78 : TyOK Tryz.prog 78 tyi78 := tyOf
def tyi79 : TyI := ⟨true, 4, 32, false, false, false, none, none, none, [.bool false, .bool false, .bool false, .slc 0 [] (some 0)], some [(0, 1), (1, 1), (2, 1), (3, 1)], [(0, 4), (1, 4), (2, 4), (3, 51)], none⟩
theorem tyok79 : TyOK Tryz.prog 79 tyi79 := tyOf
def tyi80 : TyI := ⟨true, 4, 32, false, false, false, none, none, none, [.bool false, .bool false, .bool false, .slc 0 [] (some 0)], some [(0, 1), (1, 1), (2, 1), (3, 1)], [(0, 4), (1, 4), (2, 4), (3, 51)], none⟩
theorem tyok80 : TyOK Tryz.prog 80 tyi80 := tyOf
def tyi81 : TyI := ⟨false, 1, 24, false, false, false, none, some 4, none, [.slc 0 [] (some 0)], none, [], none⟩
theorem tyok81 : TyOK Tryz.prog 81 tyi81 := tyOf
def tyi82 : TyI := ⟨false, 1, 8, false, false, true, none, none, none, [.nilfunc], none, [], none⟩
theorem tyok82 : TyOK Tryz.prog 82 tyi82 := tyOf
def tyi83 : TyI := ⟨false, 1, 8, false, false, true, none, none, none, [.nilfunc], none, [], none⟩
theorem tyok83 : TyOK Tryz.prog 83 tyi83 := tyOf
def tyi84 : TyI := ⟨false, 1, 8, false, false, true, none, none, none, [.nilfunc], none, [], none⟩
theorem tyok84 : TyOK Tryz.prog 84 tyi84 := tyOf
def tyi85 : TyI := ⟨false, 1, 8, false, false, true, none, none, none, [.nilfunc], none, [], none⟩
theorem tyok85 : TyOK Tryz.prog 85 tyi85 := tyOf
def tyi86 : TyI := ⟨true, 2, 16, false, false, false, none, none, none, [.int .i64 0, .int .i64 0], some [(0, 1), (1, 1)], [(0, 3), (1, 3)], some [.i, .i]⟩
theorem lv86 : leavesT Tryz.prog 8 86 = some [.i, .i] := by
  have h86 : Tryz.prog.stoodInHeld 86 = false := by kernel_rfl
  have s3 : szOf Tryz.prog 3 = 1 := by kernel_rfl
  have s86 : szOf Tryz.prog 86 = 2 := by kernel_rfl
  simp [leavesT, leavesT.go, Tryz.underlying3, s3, Tryz.underlying86, s86, h86]
theorem tyok86 : TyOK Tryz.prog 86 tyi86 := tyOf (hl := lv86)
def tyi87 : TyI := ⟨true, 2, 16, false, false, false, none, none, none, [.int .i64 0, .int .i64 0], some [(0, 1), (1, 1)], [(0, 3), (1, 3)], some [.i, .i]⟩
theorem lv87 : leavesT Tryz.prog 8 87 = some [.i, .i] := by
  have h87 : Tryz.prog.stoodInHeld 87 = false := by kernel_rfl
  have s3 : szOf Tryz.prog 3 = 1 := by kernel_rfl
  have s87 : szOf Tryz.prog 87 = 2 := by kernel_rfl
  simp [leavesT, leavesT.go, Tryz.underlying3, s3, Tryz.underlying87, s87, h87]
theorem tyok87 : TyOK Tryz.prog 87 tyi87 := tyOf (hl := lv87)
def tyi88 : TyI := ⟨true, 2, 16, false, false, false, none, none, none, [.int .i64 0, .int .i64 0], some [(0, 2)], [(0, 87)], some [.i, .i]⟩
theorem lv88 : leavesT Tryz.prog 8 88 = some [.i, .i] := by
  have h87 : Tryz.prog.stoodInHeld 87 = false := by kernel_rfl
  have h88 : Tryz.prog.stoodInHeld 88 = false := by kernel_rfl
  have s3 : szOf Tryz.prog 3 = 1 := by kernel_rfl
  have s87 : szOf Tryz.prog 87 = 2 := by kernel_rfl
  have s88 : szOf Tryz.prog 88 = 2 := by kernel_rfl
  simp [leavesT, leavesT.go, Tryz.underlying3, s3, Tryz.underlying87, s87, Tryz.underlying88, s88, h87, h88]
theorem tyok88 : TyOK Tryz.prog 88 tyi88 := tyOf (hl := lv88)
def tyi89 : TyI := ⟨true, 2, 16, false, false, false, none, none, none, [.int .i64 0, .int .i64 0], some [(0, 2)], [(0, 87)], some [.i, .i]⟩
theorem lv89 : leavesT Tryz.prog 8 89 = some [.i, .i] := by
  have h87 : Tryz.prog.stoodInHeld 87 = false := by kernel_rfl
  have h89 : Tryz.prog.stoodInHeld 89 = false := by kernel_rfl
  have s3 : szOf Tryz.prog 3 = 1 := by kernel_rfl
  have s87 : szOf Tryz.prog 87 = 2 := by kernel_rfl
  have s89 : szOf Tryz.prog 89 = 2 := by kernel_rfl
  simp [leavesT, leavesT.go, Tryz.underlying3, s3, Tryz.underlying87, s87, Tryz.underlying89, s89, h87, h89]
theorem tyok89 : TyOK Tryz.prog 89 tyi89 := tyOf (hl := lv89)
def tyi90 : TyI := ⟨false, 1, 8, false, false, true, none, none, none, [.nilfunc], none, [], none⟩
theorem tyok90 : TyOK Tryz.prog 90 tyi90 := tyOf
def tyi91 : TyI := ⟨false, 1, 8, false, false, true, none, none, none, [.nilfunc], none, [], none⟩
theorem tyok91 : TyOK Tryz.prog 91 tyi91 := tyOf
def tyi92 : TyI := ⟨false, 1, 24, false, false, false, none, some 99, none, [.slc 0 [] (some 0)], none, [], none⟩
theorem tyok92 : TyOK Tryz.prog 92 tyi92 := tyOf
def tyi94 : TyI := ⟨false, 1, 8, false, false, true, none, none, none, [.nilfunc], none, [], none⟩
theorem tyok94 : TyOK Tryz.prog 94 tyi94 := tyOf
def tyi95 : TyI := ⟨false, 1, 24, false, false, false, none, some 155, none, [.slc 0 [] (some 0)], none, [], none⟩
theorem tyok95 : TyOK Tryz.prog 95 tyi95 := tyOf
def tyi96 : TyI := ⟨false, 1, 24, false, false, false, none, some 157, none, [.slc 0 [] (some 0)], none, [], none⟩
theorem tyok96 : TyOK Tryz.prog 96 tyi96 := tyOf
def tyi97 : TyI := ⟨true, 8, 88, false, false, false, none, none, none, [.bool false, .bool false, .slc 0 [] (some 0), .bool false, .slc 0 [] (some 0), .int .i64 0, .int .i64 0, .int .i64 0], some [(0, 1), (1, 1), (2, 1), (3, 1), (4, 1), (5, 1), (6, 1), (7, 1)], [(0, 4), (1, 4), (2, 95), (3, 4), (4, 96), (5, 3), (6, 3), (7, 3)], none⟩
theorem tyok97 : TyOK Tryz.prog 97 tyi97 := tyOf
def tyi98 : TyI := ⟨true, 8, 88, false, false, false, none, none, none, [.bool false, .bool false, .slc 0 [] (some 0), .bool false, .slc 0 [] (some 0), .int .i64 0, .int .i64 0, .int .i64 0], some [(0, 1), (1, 1), (2, 1), (3, 1), (4, 1), (5, 1), (6, 1), (7, 1)], [(0, 4), (1, 4), (2, 95), (3, 4), (4, 96), (5, 3), (6, 3), (7, 3)], none⟩
theorem tyok98 : TyOK Tryz.prog 98 tyi98 := tyOf
def tyi99 : TyI := ⟨false, 1, 24, false, false, false, none, some 101, none, [.slc 0 [] (some 0)], none, [], none⟩
theorem tyok99 : TyOK Tryz.prog 99 tyi99 := tyOf
def tyi100 : TyI := ⟨true, 20, 144, false, false, false, none, none, none, [.int .u8 0, .int .u32 0, .int .u32 0, .int .u32 0, .int .u32 0, .int .u32 0, .int .u32 0, .int .u32 0, .int .u32 0, .int .u32 0, .int .u32 0, .int .u32 0, .int .u32 0, .int .u32 0, .int .u32 0, .int .u32 0, .int .u32 0, .slc 0 [] (some 0), .slc 0 [] (some 0), .slc 0 [] (some 0)], some [(0, 17), (17, 1), (18, 1), (19, 1)], [(0, 73), (17, 51), (18, 51), (19, 74)], none⟩
theorem tyok100 : TyOK Tryz.prog 100 tyi100 := tyOf
def tyi101 : TyI := ⟨true, 20, 144, false, false, false, none, none, none, [.int .u8 0, .int .u32 0, .int .u32 0, .int .u32 0, .int .u32 0, .int .u32 0, .int .u32 0, .int .u32 0, .int .u32 0, .int .u32 0, .int .u32 0, .int .u32 0, .int .u32 0, .int .u32 0, .int .u32 0, .int .u32 0, .int .u32 0, .slc 0 [] (some 0), .slc 0 [] (some 0), .slc 0 [] (some 0)], some [(0, 17), (17, 1), (18, 1), (19, 1)], [(0, 73), (17, 51), (18, 51), (19, 74)], none⟩
theorem tyok101 : TyOK Tryz.prog 101 tyi101 := tyOf
def tyi102 : TyI := ⟨false, 1, 8, false, false, true, none, none, none, [.nilfunc], none, [], none⟩
theorem tyok102 : TyOK Tryz.prog 102 tyi102 := tyOf
def tyi103 : TyI := ⟨false, 1, 8, false, false, true, none, none, none, [.nilfunc], none, [], none⟩
theorem tyok103 : TyOK Tryz.prog 103 tyi103 := tyOf
def tyi104 : TyI := ⟨false, 1, 8, false, false, true, none, none, none, [.nilfunc], none, [], none⟩
theorem tyok104 : TyOK Tryz.prog 104 tyi104 := tyOf
def tyi105 : TyI := ⟨false, 1, 8, false, false, true, none, none, none, [.nilfunc], none, [], none⟩
theorem tyok105 : TyOK Tryz.prog 105 tyi105 := tyOf
def tyi106 : TyI := ⟨false, 1, 8, false, false, true, none, none, none, [.nilfunc], none, [], none⟩
theorem tyok106 : TyOK Tryz.prog 106 tyi106 := tyOf
def tyi107 : TyI := ⟨false, 1, 24, false, false, false, none, some 115, none, [.slc 0 [] (some 0)], none, [], none⟩
theorem tyok107 : TyOK Tryz.prog 107 tyi107 := tyOf
def tyi108 : TyI := ⟨true, 11, 136, false, false, false, none, none, none, [.int .i64 0, .int .i64 0, .slc 0 [] (some 0), .slc 0 [] (some 0), .slc 0 [] (some 0), .int .i64 0, .int .i64 0, .int .i64 0, .int .i64 0, .int .i64 0, .int .i64 0], some [(0, 1), (1, 1), (2, 1), (3, 1), (4, 1), (5, 2), (7, 2), (9, 2)], [(0, 3), (1, 3), (2, 51), (3, 51), (4, 107), (5, 58), (7, 58), (9, 58)], none⟩
theorem tyok108 : TyOK Tryz.prog 108 tyi108 := tyOf
def tyi109 : TyI := ⟨true, 11, 136, false, false, false, none, none, none, [.int .i64 0, .int .i64 0, .slc 0 [] (some 0), .slc 0 [] (some 0), .slc 0 [] (some 0), .int .i64 0, .int .i64 0, .int .i64 0, .int .i64 0, .int .i64 0, .int .i64 0], some [(0, 1), (1, 1), (2, 1), (3, 1), (4, 1), (5, 2), (7, 2), (9, 2)], [(0, 3), (1, 3), (2, 51), (3, 51), (4, 107), (5, 58), (7, 58), (9, 58)], none⟩
theorem tyok109 : TyOK Tryz.prog 109 tyi109 := tyOf
def tyi111 : TyI := ⟨false, 1, 8, false, false, true, none, none, none, [.nilfunc], none, [], none⟩
theorem tyok111 : TyOK Tryz.prog 111 tyi111 := tyOf
def tyi112 : TyI := ⟨false, 1, 8, false, false, true, none, none, none, [.nilfunc], none, [], none⟩
theorem tyok112 : TyOK Tryz.prog 112 tyi112 := tyOf
def tyi113 : TyI := ⟨false, 1, 8, false, false, true, none, none, none, [.nilfunc], none, [], none⟩
theorem tyok113 : TyOK Tryz.prog 113 tyi113 := tyOf
def tyi114 : TyI := ⟨true, 34, 136, false, false, false, none, none, none, [.int .u8 0, .int .u32 0, .int .u32 0, .int .u32 0, .int .u32 0, .int .u32 0, .int .u32 0, .int .u32 0, .int .u32 0, .int .u32 0, .int .u32 0, .int .u32 0, .int .u32 0, .int .u32 0, .int .u32 0, .int .u32 0, .int .u32 0, .int .u8 0, .int .u32 0, .int .u32 0, .int .u32 0, .int .u32 0, .int .u32 0, .int .u32 0, .int .u32 0, .int .u32 0, .int .u32 0, .int .u32 0, .int .u32 0, .int .u32 0, .int .u32 0, .int .u32 0, .int .u32 0, .int .u32 0], some [(0, 17), (17, 17)], [(0, 73), (17, 73)], some [.i, .i, .i, .i, .i, .i, .i, .i, .i, .i, .i, .i, .i, .i, .i, .i, .i, .i, .i, .i, .i, .i, .i, .i, .i, .i, .i, .i, .i, .i, .i, .i, .i, .i]⟩
theorem lv114 : leavesT Tryz.prog 8 114 = some [.i, .i, .i, .i, .i, .i, .i, .i, .i, .i, .i, .i, .i, .i, .i, .i, .i, .i, .i, .i, .i, .i, .i, .i, .i, .i, .i, .i, .i, .i, .i, .i, .i, .i] := by
  have h73 : Tryz.prog.stoodInHeld 73 = false := by kernel_rfl
  have h114 : Tryz.prog.stoodInHeld 114 = false := by kernel_rfl
  have s5 : szOf Tryz.prog 5 = 1 := by kernel_rfl
  have s70 : szOf Tryz.prog 70 = 1 := by kernel_rfl
  have s71 : szOf Tryz.prog 71 = 16 := by kernel_rfl
  have s73 : szOf Tryz.prog 73 = 17 := by kernel_rfl
  have s114 : szOf Tryz.prog 114 = 34 := by kernel_rfl
  simp [leavesT, leavesT.go, Tryz.underlying5, s5, Tryz.underlying70, s70, Tryz.underlying71, s71, Tryz.underlying73, s73, Tryz.underlying114, s114, h73, h114]
theorem tyok114 : TyOK Tryz.prog 114 tyi114 := tyOf (hl := lv114)
def tyi115 : TyI := ⟨true, 34, 136, false, false, false, none, none, none, [.int .u8 0, .int .u32 0, .int .u32 0, .int .u32 0, .int .u32 0, .int .u32 0, .int .u32 0, .int .u32 0, .int .u32 0, .int .u32 0, .int .u32 0, .int .u32 0, .int .u32 0, .int .u32 0, .int .u32 0, .int .u32 0, .int .u32 0, .int .u8 0, .int .u32 0, .int .u32 0, .int .u32 0, .int .u32 0, .int .u32 0, .int .u32 0, .int .u32 0, .int .u32 0, .int .u32 0, .int .u32 0, .int .u32 0, .int .u32 0, .int .u32 0, .int .u32 0, .int .u32 0, .int .u32 0], some [(0, 17), (17, 17)], [(0, 73), (17, 73)], some [.i, .i, .i, .i, .i, .i, .i, .i, .i, .i, .i, .i, .i, .i, .i, .i, .i, .i, .i, .i, .i, .i, .i, .i, .i, .i, .i, .i, .i, .i, .i, .i, .i, .i]⟩
theorem lv115 : leavesT Tryz.prog 8 115 = some [.i, .i, .i, .i, .i, .i, .i, .i, .i, .i, .i, .i, .i, .i, .i, .i, .i, .i, .i, .i, .i, .i, .i, .i, .i, .i, .i, .i, .i, .i, .i, .i, .i, .i] := by
  have h73 : Tryz.prog.stoodInHeld 73 = false := by kernel_rfl
  have h115 : Tryz.prog.stoodInHeld 115 = false := by kernel_rfl
  have s5 : szOf Tryz.prog 5 = 1 := by kernel_rfl
  have s70 : szOf Tryz.prog 70 = 1 := by kernel_rfl
  have s71 : szOf Tryz.prog 71 = 16 := by kernel_rfl
  have s73 : szOf Tryz.prog 73 = 17 := by kernel_rfl
  have s115 : szOf Tryz.prog 115 = 34 := by kernel_rfl
  simp [leavesT, leavesT.go, Tryz.underlying5, s5, Tryz.underlying70, s70, Tryz.underlying71, s71, Tryz.underlying73, s73, Tryz.underlying115, s115, h73, h115]
theorem tyok115 : TyOK Tryz.prog 115 tyi115 := tyOf (hl := lv115)
def tyi116 : TyI := ⟨false, 1, 8, false, false, false, none, none, none, [.nilmap], none, [], none⟩
theorem tyok116 : TyOK Tryz.prog 116 tyi116 := tyOf
def tyi118 : TyI := ⟨false, 1, 8, false, false, true, none, none, none, [.nilfunc], none, [], none⟩
theorem tyok118 : TyOK Tryz.prog 118 tyi118 := tyOf
def tyi119 : TyI := ⟨false, 1, 24, false, false, false, none, some 124, none, [.slc 0 [] (some 0)], none, [], none⟩
theorem tyok119 : TyOK Tryz.prog 119 tyi119 := tyOf
def tyi121 : TyI := ⟨false, 1, 8, false, false, true, none, none, none, [.nilfunc], none, [], none⟩
theorem tyok121 : TyOK Tryz.prog 121 tyi121 := tyOf
def tyi122 : TyI := ⟨false, 1, 1, false, false, false, some .u8, none, none, [.int .u8 0], none, [], none⟩
theorem tyok122 : TyOK Tryz.prog 122 tyi122 := tyOf
def tyi123 : TyI := ⟨true, 5, 56, false, false, false, none, none, none, [.int .u8 0, .bool false, .bool false, .slc 0 [] (some 0), .slc 0 [] (some 0)], some [(0, 1), (1, 1), (2, 1), (3, 1), (4, 1)], [(0, 122), (1, 4), (2, 4), (3, 51), (4, 51)], none⟩
theorem tyok123 : TyOK Tryz.prog 123 tyi123 := tyOf
def tyi124 : TyI := ⟨true, 5, 56, false, false, false, none, none, none, [.int .u8 0, .bool false, .bool false, .slc 0 [] (some 0), .slc 0 [] (some 0)], some [(0, 1), (1, 1), (2, 1), (3, 1), (4, 1)], [(0, 122), (1, 4), (2, 4), (3, 51), (4, 51)], none⟩
theorem tyok124 : TyOK Tryz.prog 124 tyi124 := tyOf
def tyi125 : TyI := ⟨false, 1, 8, false, false, true, none, none, none, [.nilfunc], none, [], none⟩
theorem tyok125 : TyOK Tryz.prog 125 tyi125 := tyOf
def tyi126 : TyI := ⟨false, 1, 8, false, false, true, none, none, none, [.nilfunc], none, [], none⟩
theorem tyok126 : TyOK Tryz.prog 126 tyi126 := tyOf
def tyi127 : TyI := ⟨false, 1, 8, false, false, true, none, none, none, [.nilfunc], none, [], none⟩
theorem tyok127 : TyOK Tryz.prog 127 tyi127 := tyOf
def tyi128 : TyI := ⟨false, 1, 8, false, false, true, none, none, none, [.nilfunc], none, [], none⟩
theorem tyok128 : TyOK Tryz.prog 128 tyi128 := tyOf
def tyi129 : TyI := ⟨false, 1, 8, false, false, true, none, none, none, [.nilfunc], none, [], none⟩
theorem tyok129 : TyOK Tryz.prog 129 tyi129 := tyOf
def tyi130 : TyI := ⟨false, 1, 8, false, false, true, none, none, none, [.nilfunc], none, [], none⟩
theorem tyok130 : TyOK Tryz.prog 130 tyi130 := tyOf
def tyi131 : TyI := ⟨false, 1, 8, false, false, true, none, none, none, [.nilfunc], none, [], none⟩
theorem tyok131 : TyOK Tryz.prog 131 tyi131 := tyOf
def tyi132 : TyI := ⟨false, 1, 8, false, false, true, none, none, none, [.nilfunc], none, [], none⟩
theorem tyok132 : TyOK Tryz.prog 132 tyi132 := tyOf
def tyi133 : TyI := ⟨false, 1, 8, false, false, true, none, none, none, [.nilfunc], none, [], none⟩
theorem tyok133 : TyOK Tryz.prog 133 tyi133 := tyOf
def tyi134 : TyI := ⟨false, 1, 8, false, false, true, none, none, none, [.nilfunc], none, [], none⟩
theorem tyok134 : TyOK Tryz.prog 134 tyi134 := tyOf
def tyi135 : TyI := ⟨false, 1, 8, false, false, true, none, none, none, [.nilfunc], none, [], none⟩
theorem tyok135 : TyOK Tryz.prog 135 tyi135 := tyOf
def tyi136 : TyI := ⟨false, 1, 1, false, false, false, some .u8, none, none, [.int .u8 0], none, [], none⟩
theorem tyok136 : TyOK Tryz.prog 136 tyi136 := tyOf
def tyi137 : TyI := ⟨true, 4, 64, false, false, false, none, none, none, [.slc 0 [] (some 0), .slc 0 [] (some 0), .int .u8 0, .int .i64 0], some [(0, 1), (1, 1), (2, 1), (3, 1)], [(0, 92), (1, 92), (2, 136), (3, 3)], none⟩
theorem tyok137 : TyOK Tryz.prog 137 tyi137 := tyOf
def tyi138 : TyI := ⟨true, 4, 64, false, false, false, none, none, none, [.slc 0 [] (some 0), .slc 0 [] (some 0), .int .u8 0, .int .i64 0], some [(0, 1), (1, 1), (2, 1), (3, 1)], [(0, 92), (1, 92), (2, 136), (3, 3)], none⟩
theorem tyok138 : TyOK Tryz.prog 138 tyi138 := tyOf
def tyi139 : TyI := ⟨false, 1, 8, false, false, true, none, none, none, [.nilfunc], none, [], none⟩
theorem tyok139 : TyOK Tryz.prog 139 tyi139 := tyOf
def tyi140 : TyI := ⟨false, 1, 8, false, false, true, none, none, none, [.nilfunc], none, [], none⟩
theorem tyok140 : TyOK Tryz.prog 140 tyi140 := tyOf
def tyi141 : TyI := ⟨false, 1, 8, false, false, true, none, none, none, [.nilfunc], none, [], none⟩
theorem tyok141 : TyOK Tryz.prog 141 tyi141 := tyOf
def tyi142 : TyI := ⟨false, 1, 1, false, false, false, some .u8, none, none, [.int .u8 0], none, [], none⟩
theorem tyok142 : TyOK Tryz.prog 142 tyi142 := tyOf
def tyi143 : TyI := ⟨true, 2, 24, false, false, false, none, none, none, [.int .u32 0, .str []], some [(0, 1), (1, 1)], [(0, 70), (1, 9)], some [.i, .s]⟩
theorem lv143 : leavesT Tryz.prog 8 143 = some [.i, .s] := by
  have h143 : Tryz.prog.stoodInHeld 143 = false := by kernel_rfl
  have s9 : szOf Tryz.prog 9 = 1 := by kernel_rfl
  have s70 : szOf Tryz.prog 70 = 1 := by kernel_rfl
  have s143 : szOf Tryz.prog 143 = 2 := by kernel_rfl
  simp [leavesT, leavesT.go, Tryz.underlying9, s9, Tryz.underlying70, s70, Tryz.underlying143, s143, h143]
theorem tyok143 : TyOK Tryz.prog 143 tyi143 := tyOf (hl := lv143)
def tyi144 : TyI := ⟨true, 2, 24, false, false, false, none, none, none, [.int .u32 0, .str []], some [(0, 1), (1, 1)], [(0, 70), (1, 9)], some [.i, .s]⟩
theorem lv144 : leavesT Tryz.prog 8 144 = some [.i, .s] := by
  have h144 : Tryz.prog.stoodInHeld 144 = false := by kernel_rfl
  have s9 : szOf Tryz.prog 9 = 1 := by kernel_rfl
  have s70 : szOf Tryz.prog 70 = 1 := by kernel_rfl
  have s144 : szOf Tryz.prog 144 = 2 := by kernel_rfl
  simp [leavesT, leavesT.go, Tryz.underlying9, s9, Tryz.underlying70, s70, Tryz.underlying144, s144, h144]
theorem tyok144 : TyOK Tryz.prog 144 tyi144 := tyOf (hl := lv144)
def tyi145 : TyI := ⟨false, 1, 24, false, false, false, none, some 70, none, [.slc 0 [] (some 0)], none, [], none⟩
theorem tyok145 : TyOK Tryz.prog 145 tyi145 := tyOf
def tyi146 : TyI := ⟨true, 27, 208, false, false, false, none, none, none, [.int .u8 0, .str [], .bool false, .int .u32 0, .str [], .slc 0 [] (some 0), .bool false, .int .u32 0, .str [], .int .u8 0, .int .u32 0, .int .u32 0, .int .u32 0, .int .u32 0, .int .u32 0, .int .u32 0, .int .u32 0, .int .u32 0, .int .u32 0, .int .u32 0, .int .u32 0, .int .u32 0, .int .u32 0, .int .u32 0, .int .u32 0, .int .u32 0, .slc 0 [] (some 0)], some [(0, 1), (1, 1), (2, 1), (3, 2), (5, 1), (6, 1), (7, 2), (9, 17), (26, 1)], [(0, 142), (1, 9), (2, 4), (3, 144), (5, 145), (6, 4), (7, 144), (9, 73), (26, 39)], none⟩
theorem tyok146 : TyOK Tryz.prog 146 tyi146 := tyOf
def tyi147 : TyI := ⟨true, 27, 208, false, false, false, none, none, none, [.int .u8 0, .str [], .bool false, .int .u32 0, .str [], .slc 0 [] (some 0), .bool false, .int .u32 0, .str [], .int .u8 0, .int .u32 0, .int .u32 0, .int .u32 0, .int .u32 0, .int .u32 0, .int .u32 0, .int .u32 0, .int .u32 0, .int .u32 0, .int .u32 0, .int .u32 0, .int .u32 0, .int .u32 0, .int .u32 0, .int .u32 0, .int .u32 0, .slc 0 [] (some 0)], some [(0, 1), (1, 1), (2, 1), (3, 2), (5, 1), (6, 1), (7, 2), (9, 17), (26, 1)], [(0, 142), (1, 9), (2, 4), (3, 144), (5, 145), (6, 4), (7, 144), (9, 73), (26, 39)], none⟩
theorem tyok147 : TyOK Tryz.prog 147 tyi147 := tyOf
def tyi148 : TyI := ⟨false, 1, 8, false, false, true, none, none, none, [.nilfunc], none, [], none⟩
theorem tyok148 : TyOK Tryz.prog 148 tyi148 := tyOf
def tyi149 : TyI := ⟨false, 1, 8, false, false, true, none, none, none, [.nilfunc], none, [], none⟩
theorem tyok149 : TyOK Tryz.prog 149 tyi149 := tyOf
def tyi150 : TyI := ⟨false, 1, 8, false, false, true, none, none, none, [.nilfunc], none, [], none⟩
theorem tyok150 : TyOK Tryz.prog 150 tyi150 := tyOf
def tyi151 : TyI := ⟨false, 1, 8, false, false, true, none, none, none, [.nilfunc], none, [], none⟩
theorem tyok151 : TyOK Tryz.prog 151 tyi151 := tyOf
def tyi152 : TyI := ⟨false, 1, 8, false, false, true, none, none, none, [.nilfunc], none, [], none⟩
theorem tyok152 : TyOK Tryz.prog 152 tyi152 := tyOf
def tyi153 : TyI := ⟨false, 1, 8, false, false, true, none, none, none, [.nilfunc], none, [], none⟩
theorem tyok153 : TyOK Tryz.prog 153 tyi153 := tyOf
def tyi154 : TyI := ⟨true, 18, 96, false, false, false, none, none, none, [.int .u8 0, .int .u32 0, .int .u32 0, .int .u32 0, .int .u32 0, .int .u32 0, .int .u32 0, .int .u32 0, .int .u32 0, .int .u32 0, .int .u32 0, .int .u32 0, .int .u32 0, .int .u32 0, .int .u32 0, .int .u32 0, .int .u32 0, .slc 0 [] (some 0)], some [(0, 17), (17, 1)], [(0, 73), (17, 74)], none⟩
theorem tyok154 : TyOK Tryz.prog 154 tyi154 := tyOf
def tyi155 : TyI := ⟨true, 18, 96, false, false, false, none, none, none, [.int .u8 0, .int .u32 0, .int .u32 0, .int .u32 0, .int .u32 0, .int .u32 0, .int .u32 0, .int .u32 0, .int .u32 0, .int .u32 0, .int .u32 0, .int .u32 0, .int .u32 0, .int .u32 0, .int .u32 0, .int .u32 0, .int .u32 0, .slc 0 [] (some 0)], some [(0, 17), (17, 1)], [(0, 73), (17, 74)], none⟩
theorem tyok155 : TyOK Tryz.prog 155 tyi155 := tyOf
def tyi156 : TyI := ⟨true, 34, 136, false, false, false, none, none, none, [.int .u8 0, .int .u32 0, .int .u32 0, .int .u32 0, .int .u32 0, .int .u32 0, .int .u32 0, .int .u32 0, .int .u32 0, .int .u32 0, .int .u32 0, .int .u32 0, .int .u32 0, .int .u32 0, .int .u32 0, .int .u32 0, .int .u32 0, .int .u8 0, .int .u32 0, .int .u32 0, .int .u32 0, .int .u32 0, .int .u32 0, .int .u32 0, .int .u32 0, .int .u32 0, .int .u32 0, .int .u32 0, .int .u32 0, .int .u32 0, .int .u32 0, .int .u32 0, .int .u32 0, .int .u32 0], some [(0, 17), (17, 17)], [(0, 73), (17, 73)], some [.i, .i, .i, .i, .i, .i, .i, .i, .i, .i, .i, .i, .i, .i, .i, .i, .i, .i, .i, .i, .i, .i, .i, .i, .i, .i, .i, .i, .i, .i, .i, .i, .i, .i]⟩
theorem lv156 : leavesT Tryz.prog 8 156 = some [.i, .i, .i, .i, .i, .i, .i, .i, .i, .i, .i, .i, .i, .i, .i, .i, .i, .i, .i, .i, .i, .i, .i, .i, .i, .i, .i, .i, .i, .i, .i, .i, .i, .i] := by
  have h73 : Tryz.prog.stoodInHeld 73 = false := by kernel_rfl
  have h156 : Tryz.prog.stoodInHeld 156 = false := by kernel_rfl
  have s5 : szOf Tryz.prog 5 = 1 := by kernel_rfl
  have s70 : szOf Tryz.prog 70 = 1 := by kernel_rfl
  have s71 : szOf Tryz.prog 71 = 16 := by kernel_rfl
  have s73 : szOf Tryz.prog 73 = 17 := by kernel_rfl
  have s156 : szOf Tryz.prog 156 = 34 := by kernel_rfl
  simp [leavesT, leavesT.go, Tryz.underlying5, s5, Tryz.underlying70, s70, Tryz.underlying71, s71, Tryz.underlying73, s73, Tryz.underlying156, s156, h73, h156]
theorem tyok156 : TyOK Tryz.prog 156 tyi156 := tyOf (hl := lv156)
def tyi157 : TyI := ⟨true, 34, 136, false, false, false, none, none, none, [.int .u8 0, .int .u32 0, .int .u32 0, .int .u32 0, .int .u32 0, .int .u32 0, .int .u32 0, .int .u32 0, .int .u32 0, .int .u32 0, .int .u32 0, .int .u32 0, .int .u32 0, .int .u32 0, .int .u32 0, .int .u32 0, .int .u32 0, .int .u8 0, .int .u32 0, .int .u32 0, .int .u32 0, .int .u32 0, .int .u32 0, .int .u32 0, .int .u32 0, .int .u32 0, .int .u32 0, .int .u32 0, .int .u32 0, .int .u32 0, .int .u32 0, .int .u32 0, .int .u32 0, .int .u32 0], some [(0, 17), (17, 17)], [(0, 73), (17, 73)], some [.i, .i, .i, .i, .i, .i, .i, .i, .i, .i, .i, .i, .i, .i, .i, .i, .i, .i, .i, .i, .i, .i, .i, .i, .i, .i, .i, .i, .i, .i, .i, .i, .i, .i]⟩
theorem lv157 : leavesT Tryz.prog 8 157 = some [.i, .i, .i, .i, .i, .i, .i, .i, .i, .i, .i, .i, .i, .i, .i, .i, .i, .i, .i, .i, .i, .i, .i, .i, .i, .i, .i, .i, .i, .i, .i, .i, .i, .i] := by
  have h73 : Tryz.prog.stoodInHeld 73 = false := by kernel_rfl
  have h157 : Tryz.prog.stoodInHeld 157 = false := by kernel_rfl
  have s5 : szOf Tryz.prog 5 = 1 := by kernel_rfl
  have s70 : szOf Tryz.prog 70 = 1 := by kernel_rfl
  have s71 : szOf Tryz.prog 71 = 16 := by kernel_rfl
  have s73 : szOf Tryz.prog 73 = 17 := by kernel_rfl
  have s157 : szOf Tryz.prog 157 = 34 := by kernel_rfl
  simp [leavesT, leavesT.go, Tryz.underlying5, s5, Tryz.underlying70, s70, Tryz.underlying71, s71, Tryz.underlying73, s73, Tryz.underlying157, s157, h73, h157]
theorem tyok157 : TyOK Tryz.prog 157 tyi157 := tyOf (hl := lv157)
def tyi158 : TyI := ⟨false, 1, 8, false, false, true, none, none, none, [.nilfunc], none, [], none⟩
theorem tyok158 : TyOK Tryz.prog 158 tyi158 := tyOf
def tyi159 : TyI := ⟨false, 1, 8, false, false, false, none, none, none, [.nilmap], none, [], none⟩
theorem tyok159 : TyOK Tryz.prog 159 tyi159 := tyOf
def tyi160 : TyI := ⟨false, 1, 8, false, false, true, none, none, none, [.nilfunc], none, [], none⟩
theorem tyok160 : TyOK Tryz.prog 160 tyi160 := tyOf
def tyi161 : TyI := ⟨false, 1, 8, false, false, false, none, none, none, [.nilmap], none, [], none⟩
theorem tyok161 : TyOK Tryz.prog 161 tyi161 := tyOf
def tyi163 : TyI := ⟨false, 1, 8, false, false, true, none, none, none, [.nilfunc], none, [], none⟩
theorem tyok163 : TyOK Tryz.prog 163 tyi163 := tyOf
def tyi164 : TyI := ⟨false, 1, 8, false, false, true, none, none, none, [.nilfunc], none, [], none⟩
theorem tyok164 : TyOK Tryz.prog 164 tyi164 := tyOf
def tyi165 : TyI := ⟨false, 1, 8, false, false, true, none, none, none, [.nilfunc], none, [], none⟩
theorem tyok165 : TyOK Tryz.prog 165 tyi165 := tyOf
def tyi166 : TyI := ⟨false, 1, 8, false, false, true, none, none, none, [.nilfunc], none, [], none⟩
theorem tyok166 : TyOK Tryz.prog 166 tyi166 := tyOf
def tyi167 : TyI := ⟨false, 1, 8, false, false, true, none, none, none, [.nilfunc], none, [], none⟩
theorem tyok167 : TyOK Tryz.prog 167 tyi167 := tyOf
def tyi168 : TyI := ⟨false, 1, 8, false, false, true, none, none, none, [.nilfunc], none, [], none⟩
theorem tyok168 : TyOK Tryz.prog 168 tyi168 := tyOf
def tyi169 : TyI := ⟨true, 5, 64, false, false, false, none, none, none, [.bool false, .int .u8 0, .int .i64 0, .slc 0 [] (some 0), .slc 0 [] (some 0)], some [(0, 1), (1, 1), (2, 1), (3, 1), (4, 1)], [(0, 4), (1, 136), (2, 3), (3, 51), (4, 69)], none⟩
theorem tyok169 : TyOK Tryz.prog 169 tyi169 := tyOf
def tyi170 : TyI := ⟨true, 5, 64, false, false, false, none, none, none, [.bool false, .int .u8 0, .int .i64 0, .slc 0 [] (some 0), .slc 0 [] (some 0)], some [(0, 1), (1, 1), (2, 1), (3, 1), (4, 1)], [(0, 4), (1, 136), (2, 3), (3, 51), (4, 69)], none⟩
theorem tyok170 : TyOK Tryz.prog 170 tyi170 := tyOf
def tyi172 : TyI := ⟨false, 1, 8, false, false, true, none, none, none, [.nilfunc], none, [], none⟩
theorem tyok172 : TyOK Tryz.prog 172 tyi172 := tyOf
def tyi173 : TyI := ⟨false, 1, 8, false, false, true, none, none, none, [.nilfunc], none, [], none⟩
theorem tyok173 : TyOK Tryz.prog 173 tyi173 := tyOf
def tyi174 : TyI := ⟨false, 1, 8, false, false, true, none, none, none, [.nilfunc], none, [], none⟩
theorem tyok174 : TyOK Tryz.prog 174 tyi174 := tyOf
def tyi175 : TyI := ⟨true, 2, 16, false, false, false, none, none, none, [.int .u8 0, .nilfunc], some [(0, 1), (1, 1)], [(0, 122), (1, 174)], none⟩
theorem tyok175 : TyOK Tryz.prog 175 tyi175 := tyOf
def tyi176 : TyI := ⟨true, 2, 16, false, false, false, none, none, none, [.int .u8 0, .nilfunc], some [(0, 1), (1, 1)], [(0, 122), (1, 174)], none⟩
theorem tyok176 : TyOK Tryz.prog 176 tyi176 := tyOf
def tyi177 : TyI := ⟨false, 1, 24, false, false, false, none, some 176, none, [.slc 0 [] (some 0)], none, [], none⟩
theorem tyok177 : TyOK Tryz.prog 177 tyi177 := tyOf
def tyi178 : TyI := ⟨false, 1, 8, false, false, true, none, none, none, [.nilfunc], none, [], none⟩
theorem tyok178 : TyOK Tryz.prog 178 tyi178 := tyOf
def tyi179 : TyI := ⟨false, 1, 8, false, false, true, none, none, none, [.nilfunc], none, [], none⟩
theorem tyok179 : TyOK Tryz.prog 179 tyi179 := tyOf
def tyi180 : TyI := ⟨false, 1, 8, false, false, false, none, none, none, [.nilmap], none, [], none⟩
theorem tyok180 : TyOK Tryz.prog 180 tyi180 := tyOf
def tyi181 : TyI := ⟨false, 1, 8, false, false, true, none, none, none, [.nilfunc], none, [], none⟩
theorem tyok181 : TyOK Tryz.prog 181 tyi181 := tyOf
def tyi182 : TyI := ⟨false, 1, 8, false, false, true, none, none, none, [.nilfunc], none, [], none⟩
theorem tyok182 : TyOK Tryz.prog 182 tyi182 := tyOf
def tyi183 : TyI := ⟨false, 1, 8, false, false, false, none, none, none, [.nilptr], none, [], none⟩
theorem tyok183 : TyOK Tryz.prog 183 tyi183 := tyOf
def tyi184 : TyI := ⟨false, 1, 8, false, false, true, none, none, none, [.nilfunc], none, [], none⟩
theorem tyok184 : TyOK Tryz.prog 184 tyi184 := tyOf
def tyi185 : TyI := ⟨false, 1, 8, false, false, true, none, none, none, [.nilfunc], none, [], none⟩
theorem tyok185 : TyOK Tryz.prog 185 tyi185 := tyOf
def tyi186 : TyI := ⟨true, 3, 24, false, false, false, none, none, none, [.int .i64 0, .int .i64 0, .int .i64 0], some [(0, 1), (1, 1), (2, 1)], [(0, 3), (1, 3), (2, 3)], some [.i, .i, .i]⟩
theorem lv186 : leavesT Tryz.prog 8 186 = some [.i, .i, .i] := by
  have h186 : Tryz.prog.stoodInHeld 186 = false := by kernel_rfl
  have s3 : szOf Tryz.prog 3 = 1 := by kernel_rfl
  have s186 : szOf Tryz.prog 186 = 3 := by kernel_rfl
  simp [leavesT, leavesT.go, Tryz.underlying3, s3, Tryz.underlying186, s186, h186]
theorem tyok186 : TyOK Tryz.prog 186 tyi186 := tyOf (hl := lv186)
def tyi187 : TyI := ⟨true, 3, 24, false, false, false, none, none, none, [.int .i64 0, .int .i64 0, .int .i64 0], some [(0, 1), (1, 1), (2, 1)], [(0, 3), (1, 3), (2, 3)], some [.i, .i, .i]⟩
theorem lv187 : leavesT Tryz.prog 8 187 = some [.i, .i, .i] := by
  have h187 : Tryz.prog.stoodInHeld 187 = false := by kernel_rfl
  have s3 : szOf Tryz.prog 3 = 1 := by kernel_rfl
  have s187 : szOf Tryz.prog 187 = 3 := by kernel_rfl
  simp [leavesT, leavesT.go, Tryz.underlying3, s3, Tryz.underlying187, s187, h187]
theorem tyok187 : TyOK Tryz.prog 187 tyi187 := tyOf (hl := lv187)
def tyi188 : TyI := ⟨false, 1, 8, false, false, true, none, none, none, [.nilfunc], none, [], none⟩
theorem tyok188 : TyOK Tryz.prog 188 tyi188 := tyOf
def tyi189 : TyI := ⟨false, 1, 8, false, false, true, none, none, none, [.nilfunc], none, [], none⟩
theorem tyok189 : TyOK Tryz.prog 189 tyi189 := tyOf
def tyi190 : TyI := ⟨false, 1, 8, false, false, true, none, none, none, [.nilfunc], none, [], none⟩
theorem tyok190 : TyOK Tryz.prog 190 tyi190 := tyOf
def tyi191 : TyI := ⟨false, 1, 8, false, false, true, none, none, none, [.nilfunc], none, [], none⟩
theorem tyok191 : TyOK Tryz.prog 191 tyi191 := tyOf
def tyi192 : TyI := ⟨false, 1, 8, false, false, true, none, none, none, [.nilfunc], none, [], none⟩
theorem tyok192 : TyOK Tryz.prog 192 tyi192 := tyOf
def tyi193 : TyI := ⟨false, 1, 24, false, false, false, none, some 58, none, [.slc 0 [] (some 0)], none, [], none⟩
theorem tyok193 : TyOK Tryz.prog 193 tyi193 := tyOf
def tyi195 : TyI := ⟨false, 1, 8, false, false, true, none, none, none, [.nilfunc], none, [], none⟩
theorem tyok195 : TyOK Tryz.prog 195 tyi195 := tyOf
def tyi196 : TyI := ⟨false, 1, 8, false, false, true, none, none, none, [.nilfunc], none, [], none⟩
theorem tyok196 : TyOK Tryz.prog 196 tyi196 := tyOf
def tyi197 : TyI := ⟨false, 1, 8, false, false, false, none, none, none, [.nilptr], none, [], none⟩
theorem tyok197 : TyOK Tryz.prog 197 tyi197 := tyOf
def tyi199 : TyI := ⟨false, 1, 8, false, false, true, none, none, none, [.nilfunc], none, [], none⟩
theorem tyok199 : TyOK Tryz.prog 199 tyi199 := tyOf
def tyi200 : TyI := ⟨false, 1, 24, false, false, false, none, some 205, none, [.slc 0 [] (some 0)], none, [], none⟩
theorem tyok200 : TyOK Tryz.prog 200 tyi200 := tyOf
def tyi201 : TyI := ⟨false, 1, 24, false, false, false, none, some 231, none, [.slc 0 [] (some 0)], none, [], none⟩
theorem tyok201 : TyOK Tryz.prog 201 tyi201 := tyOf
def tyi202 : TyI := ⟨true, 9, 136, false, false, false, none, none, none, [.slc 0 [] (some 0), .slc 0 [] (some 0), .bool false, .bool false, .bool false, .slc 0 [] (some 0), .slc 0 [] (some 0), .slc 0 [] (some 0), .int .i64 0], some [(0, 1), (1, 4), (5, 1), (6, 1), (7, 1), (8, 1)], [(0, 50), (1, 53), (5, 200), (6, 201), (7, 81), (8, 3)], none⟩
theorem tyok202 : TyOK Tryz.prog 202 tyi202 := tyOf
def tyi203 : TyI := ⟨true, 9, 136, false, false, false, none, none, none, [.slc 0 [] (some 0), .slc 0 [] (some 0), .bool false, .bool false, .bool false, .slc 0 [] (some 0), .slc 0 [] (some 0), .slc 0 [] (some 0), .int .i64 0], some [(0, 1), (1, 4), (5, 1), (6, 1), (7, 1), (8, 1)], [(0, 50), (1, 53), (5, 200), (6, 201), (7, 81), (8, 3)], none⟩
theorem tyok203 : TyOK Tryz.prog 203 tyi203 := tyOf
def tyi204 : TyI := ⟨true, 3, 24, false, false, false, none, none, none, [.int .i64 0, .int .i64 0, .int .i64 0], some [(0, 1), (1, 1), (2, 1)], [(0, 3), (1, 3), (2, 3)], some [.i, .i, .i]⟩
theorem lv204 : leavesT Tryz.prog 8 204 = some [.i, .i, .i] := by
  have h204 : Tryz.prog.stoodInHeld 204 = false := by kernel_rfl
  have s3 : szOf Tryz.prog 3 = 1 := by kernel_rfl
  have s204 : szOf Tryz.prog 204 = 3 := by kernel_rfl
  simp [leavesT, leavesT.go, Tryz.underlying3, s3, Tryz.underlying204, s204, h204]
theorem tyok204 : TyOK Tryz.prog 204 tyi204 := tyOf (hl := lv204)
def tyi205 : TyI := ⟨true, 3, 24, false, false, false, none, none, none, [.int .i64 0, .int .i64 0, .int .i64 0], some [(0, 1), (1, 1), (2, 1)], [(0, 3), (1, 3), (2, 3)], some [.i, .i, .i]⟩
theorem lv205 : leavesT Tryz.prog 8 205 = some [.i, .i, .i] := by
  have h205 : Tryz.prog.stoodInHeld 205 = false := by kernel_rfl
  have s3 : szOf Tryz.prog 3 = 1 := by kernel_rfl
  have s205 : szOf Tryz.prog 205 = 3 := by kernel_rfl
  simp [leavesT, leavesT.go, Tryz.underlying3, s3, Tryz.underlying205, s205, h205]
theorem tyok205 : TyOK Tryz.prog 205 tyi205 := tyOf (hl := lv205)
def tyi206 : TyI := ⟨false, 1, 8, false, false, true, none, none, none, [.nilfunc], none, [], none⟩
theorem tyok206 : TyOK Tryz.prog 206 tyi206 := tyOf
def tyi207 : TyI := ⟨false, 1, 8, false, false, true, none, none, none, [.nilfunc], none, [], none⟩
theorem tyok207 : TyOK Tryz.prog 207 tyi207 := tyOf
def tyi208 : TyI := ⟨false, 1, 8, false, false, true, none, none, none, [.nilfunc], none, [], none⟩
theorem tyok208 : TyOK Tryz.prog 208 tyi208 := tyOf
def tyi209 : TyI := ⟨false, 1, 8, false, false, true, none, none, none, [.nilfunc], none, [], none⟩
theorem tyok209 : TyOK Tryz.prog 209 tyi209 := tyOf
def tyi210 : TyI := ⟨false, 1, 8, false, false, true, none, none, none, [.nilfunc], none, [], none⟩
theorem tyok210 : TyOK Tryz.prog 210 tyi210 := tyOf
def tyi211 : TyI := ⟨false, 1, 8, false, false, true, none, none, none, [.nilfunc], none, [], none⟩
theorem tyok211 : TyOK Tryz.prog 211 tyi211 := tyOf
def tyi212 : TyI := ⟨false, 1, 8, false, false, true, none, none, none, [.nilfunc], none, [], none⟩
theorem tyok212 : TyOK Tryz.prog 212 tyi212 := tyOf
def tyi213 : TyI := ⟨false, 1, 8, false, false, true, none, none, none, [.nilfunc], none, [], none⟩
theorem tyok213 : TyOK Tryz.prog 213 tyi213 := tyOf
def tyi214 : TyI := ⟨false, 1, 8, false, false, true, none, none, none, [.nilfunc], none, [], none⟩
theorem tyok214 : TyOK Tryz.prog 214 tyi214 := tyOf
def tyi215 : TyI := ⟨false, 1, 8, false, false, true, none, none, none, [.nilfunc], none, [], none⟩
theorem tyok215 : TyOK Tryz.prog 215 tyi215 := tyOf
def tyi216 : TyI := ⟨false, 1, 8, false, false, true, none, none, none, [.nilfunc], none, [], none⟩
theorem tyok216 : TyOK Tryz.prog 216 tyi216 := tyOf
def tyi217 : TyI := ⟨false, 1, 8, false, false, true, none, none, none, [.nilfunc], none, [], none⟩
theorem tyok217 : TyOK Tryz.prog 217 tyi217 := tyOf
def tyi218 : TyI := ⟨false, 1, 8, false, false, true, none, none, none, [.nilfunc], none, [], none⟩
theorem tyok218 : TyOK Tryz.prog 218 tyi218 := tyOf
def tyi219 : TyI := ⟨false, 1, 8, false, false, true, none, none, none, [.nilfunc], none, [], none⟩
theorem tyok219 : TyOK Tryz.prog 219 tyi219 := tyOf
def tyi220 : TyI := ⟨false, 1, 8, false, false, true, none, none, none, [.nilfunc], none, [], none⟩
theorem tyok220 : TyOK Tryz.prog 220 tyi220 := tyOf
def tyi221 : TyI := ⟨false, 1, 8, false, false, true, none, none, none, [.nilfunc], none, [], none⟩
theorem tyok221 : TyOK Tryz.prog 221 tyi221 := tyOf
def tyi222 : TyI := ⟨false, 1, 8, false, false, true, none, none, none, [.nilfunc], none, [], none⟩
theorem tyok222 : TyOK Tryz.prog 222 tyi222 := tyOf
def tyi223 : TyI := ⟨false, 1, 8, false, false, false, some .u64, none, none, [.int .u64 0], none, [], none⟩
theorem tyok223 : TyOK Tryz.prog 223 tyi223 := tyOf
def tyi224 : TyI := ⟨false, 1, 8, false, false, true, none, none, none, [.nilfunc], none, [], none⟩
theorem tyok224 : TyOK Tryz.prog 224 tyi224 := tyOf
def tyi225 : TyI := ⟨false, 1, 8, false, false, true, none, none, none, [.nilfunc], none, [], none⟩
theorem tyok225 : TyOK Tryz.prog 225 tyi225 := tyOf
def tyi227 : TyI := ⟨false, 1, 8, false, false, true, none, none, none, [.nilfunc], none, [], none⟩
theorem tyok227 : TyOK Tryz.prog 227 tyi227 := tyOf
def tyi228 : TyI := ⟨true, 3, 72, false, false, false, none, none, none, [.slc 0 [] (some 0), .slc 0 [] (some 0), .slc 0 [] (some 0)], some [(0, 1), (1, 1), (2, 1)], [(0, 51), (1, 51), (2, 74)], none⟩
theorem tyok228 : TyOK Tryz.prog 228 tyi228 := tyOf
def tyi229 : TyI := ⟨true, 3, 72, false, false, false, none, none, none, [.slc 0 [] (some 0), .slc 0 [] (some 0), .slc 0 [] (some 0)], some [(0, 1), (1, 1), (2, 1)], [(0, 51), (1, 51), (2, 74)], none⟩
theorem tyok229 : TyOK Tryz.prog 229 tyi229 := tyOf
def tyi230 : TyI := ⟨false, 1, 8, false, false, false, none, none, none, [.nilmap], none, [], none⟩
theorem tyok230 : TyOK Tryz.prog 230 tyi230 := tyOf
def tyi231 : TyI := ⟨false, 1, 8, false, false, false, none, none, none, [.nilmap], none, [], none⟩
theorem tyok231 : TyOK Tryz.prog 231 tyi231 := tyOf
def tyi232 : TyI := ⟨false, 1, 8, false, false, true, none, none, none, [.nilfunc], none, [], none⟩
theorem tyok232 : TyOK Tryz.prog 232 tyi232 := tyOf
def tyi233 : TyI := ⟨false, 1, 8, false, false, true, none, none, none, [.nilfunc], none, [], none⟩
theorem tyok233 : TyOK Tryz.prog 233 tyi233 := tyOf
def tyi234 : TyI := ⟨false, 1, 8, false, false, true, none, none, none, [.nilfunc], none, [], none⟩
theorem tyok234 : TyOK Tryz.prog 234 tyi234 := tyOf
def tyi235 : TyI := ⟨false, 1, 24, false, false, false, none, some 180, none, [.slc 0 [] (some 0)], none, [], none⟩
theorem tyok235 : TyOK Tryz.prog 235 tyi235 := tyOf
def tyi236 : TyI := ⟨false, 1, 8, false, false, true, none, none, none, [.nilfunc], none, [], none⟩
theorem tyok236 : TyOK Tryz.prog 236 tyi236 := tyOf
def tyi237 : TyI := ⟨false, 1, 8, false, false, true, none, none, none, [.nilfunc], none, [], none⟩
theorem tyok237 : TyOK Tryz.prog 237 tyi237 := tyOf
def tyi238 : TyI := ⟨false, 1, 8, false, false, true, none, none, none, [.nilfunc], none, [], none⟩
theorem tyok238 : TyOK Tryz.prog 238 tyi238 := tyOf
def tyi239 : TyI := ⟨false, 1, 8, false, false, true, none, none, none, [.nilfunc], none, [], none⟩
theorem tyok239 : TyOK Tryz.prog 239 tyi239 := tyOf
def tyi240 : TyI := ⟨false, 1, 8, false, false, true, none, none, none, [.nilfunc], none, [], none⟩
theorem tyok240 : TyOK Tryz.prog 240 tyi240 := tyOf
def tyi241 : TyI := ⟨false, 1, 8, false, false, true, none, none, none, [.nilfunc], none, [], none⟩
theorem tyok241 : TyOK Tryz.prog 241 tyi241 := tyOf
def tyi242 : TyI := ⟨false, 1, 8, false, false, true, none, none, none, [.nilfunc], none, [], none⟩
theorem tyok242 : TyOK Tryz.prog 242 tyi242 := tyOf
def tyi243 : TyI := ⟨false, 1, 8, false, false, true, none, none, none, [.nilfunc], none, [], none⟩
theorem tyok243 : TyOK Tryz.prog 243 tyi243 := tyOf
def tyi244 : TyI := ⟨false, 1, 8, false, false, true, none, none, none, [.nilfunc], none, [], none⟩
theorem tyok244 : TyOK Tryz.prog 244 tyi244 := tyOf
def tyi245 : TyI := ⟨false, 1, 8, false, false, true, none, none, none, [.nilfunc], none, [], none⟩
theorem tyok245 : TyOK Tryz.prog 245 tyi245 := tyOf
def tyi246 : TyI := ⟨false, 1, 8, false, false, true, none, none, none, [.nilfunc], none, [], none⟩
theorem tyok246 : TyOK Tryz.prog 246 tyi246 := tyOf
def tyi247 : TyI := ⟨false, 1, 8, false, false, true, none, none, none, [.nilfunc], none, [], none⟩
theorem tyok247 : TyOK Tryz.prog 247 tyi247 := tyOf
def tyi248 : TyI := ⟨false, 1, 8, false, false, true, none, none, none, [.nilfunc], none, [], none⟩
theorem tyok248 : TyOK Tryz.prog 248 tyi248 := tyOf
def tyi249 : TyI := ⟨false, 1, 8, false, false, false, some .i64, none, none, [.int .i64 0], none, [], none⟩
theorem tyok249 : TyOK Tryz.prog 249 tyi249 := tyOf
def tyi251 : TyI := ⟨false, 1, 8, false, false, true, none, none, none, [.nilfunc], none, [], none⟩
theorem tyok251 : TyOK Tryz.prog 251 tyi251 := tyOf
def tyi252 : TyI := ⟨false, 1, 8, false, false, true, none, none, none, [.nilfunc], none, [], none⟩
theorem tyok252 : TyOK Tryz.prog 252 tyi252 := tyOf
def tyi253 : TyI := ⟨false, 1, 8, false, false, true, none, none, none, [.nilfunc], none, [], none⟩
theorem tyok253 : TyOK Tryz.prog 253 tyi253 := tyOf
def tyi254 : TyI := ⟨false, 1, 8, false, false, true, none, none, none, [.nilfunc], none, [], none⟩
theorem tyok254 : TyOK Tryz.prog 254 tyi254 := tyOf
def tyi255 : TyI := ⟨false, 1, 8, false, false, true, none, none, none, [.nilfunc], none, [], none⟩
theorem tyok255 : TyOK Tryz.prog 255 tyi255 := tyOf
def tyi256 : TyI := ⟨false, 1, 8, false, false, true, none, none, none, [.nilfunc], none, [], none⟩
theorem tyok256 : TyOK Tryz.prog 256 tyi256 := tyOf
def tyi257 : TyI := ⟨false, 1, 8, false, false, false, some .u64, none, none, [.int .u64 0], none, [], none⟩
theorem tyok257 : TyOK Tryz.prog 257 tyi257 := tyOf
def tyi258 : TyI := ⟨false, 1, 8, false, false, true, none, none, none, [.nilfunc], none, [], none⟩
theorem tyok258 : TyOK Tryz.prog 258 tyi258 := tyOf
def tyi259 : TyI := ⟨false, 1, 8, false, false, true, none, none, none, [.nilfunc], none, [], none⟩
theorem tyok259 : TyOK Tryz.prog 259 tyi259 := tyOf
def tyi260 : TyI := ⟨false, 1, 8, false, false, true, none, none, none, [.nilfunc], none, [], none⟩
theorem tyok260 : TyOK Tryz.prog 260 tyi260 := tyOf
def tyi262 : TyI := ⟨false, 1, 8, false, false, true, none, none, none, [.nilfunc], none, [], none⟩
theorem tyok262 : TyOK Tryz.prog 262 tyi262 := tyOf
def tyi263 : TyI := ⟨false, 1, 8, false, false, true, none, none, none, [.nilfunc], none, [], none⟩
theorem tyok263 : TyOK Tryz.prog 263 tyi263 := tyOf
def tyi265 : TyI := ⟨false, 1, 8, false, false, true, none, none, none, [.nilfunc], none, [], none⟩
theorem tyok265 : TyOK Tryz.prog 265 tyi265 := tyOf
def tyi266 : TyI := ⟨false, 1, 24, false, false, false, none, some 74, none, [.slc 0 [] (some 0)], none, [], none⟩
theorem tyok266 : TyOK Tryz.prog 266 tyi266 := tyOf
def tyi268 : TyI := ⟨false, 1, 8, false, false, true, none, none, none, [.nilfunc], none, [], none⟩
theorem tyok268 : TyOK Tryz.prog 268 tyi268 := tyOf
def tyi269 : TyI := ⟨false, 1, 8, false, false, true, none, none, none, [.nilfunc], none, [], none⟩
theorem tyok269 : TyOK Tryz.prog 269 tyi269 := tyOf
def tyi270 : TyI := ⟨false, 1, 8, false, false, true, none, none, none, [.nilfunc], none, [], none⟩
theorem tyok270 : TyOK Tryz.prog 270 tyi270 := tyOf
def tyi271 : TyI := ⟨false, 1, 8, false, false, true, none, none, none, [.nilfunc], none, [], none⟩
theorem tyok271 : TyOK Tryz.prog 271 tyi271 := tyOf
def tyi272 : TyI := ⟨false, 1, 8, false, false, true, none, none, none, [.nilfunc], none, [], none⟩
theorem tyok272 : TyOK Tryz.prog 272 tyi272 := tyOf
def tyi273 : TyI := ⟨false, 1, 8, false, false, true, none, none, none, [.nilfunc], none, [], none⟩
theorem tyok273 : TyOK Tryz.prog 273 tyi273 := tyOf
def tyi274 : TyI := ⟨false, 1, 8, false, false, true, none, none, none, [.nilfunc], none, [], none⟩
theorem tyok274 : TyOK Tryz.prog 274 tyi274 := tyOf
def tyi275 : TyI := ⟨false, 1, 8, false, false, true, none, none, none, [.nilfunc], none, [], none⟩
theorem tyok275 : TyOK Tryz.prog 275 tyi275 := tyOf
def tyi276 : TyI := ⟨false, 1, 8, false, false, true, none, none, none, [.nilfunc], none, [], none⟩
theorem tyok276 : TyOK Tryz.prog 276 tyi276 := tyOf
def tyi277 : TyI := ⟨false, 1, 8, false, false, true, none, none, none, [.nilfunc], none, [], none⟩
theorem tyok277 : TyOK Tryz.prog 277 tyi277 := tyOf
def tyi278 : TyI := ⟨false, 1, 8, false, false, true, none, none, none, [.nilfunc], none, [], none⟩
theorem tyok278 : TyOK Tryz.prog 278 tyi278 := tyOf
def tyi279 : TyI := ⟨false, 1, 8, false, false, true, none, none, none, [.nilfunc], none, [], none⟩
theorem tyok279 : TyOK Tryz.prog 279 tyi279 := tyOf
def tyi280 : TyI := ⟨false, 1, 8, false, false, true, none, none, none, [.nilfunc], none, [], none⟩
theorem tyok280 : TyOK Tryz.prog 280 tyi280 := tyOf
def tyi281 : TyI := ⟨false, 1, 8, false, false, false, some .u64, none, none, [.int .u64 0], none, [], none⟩
theorem tyok281 : TyOK Tryz.prog 281 tyi281 := tyOf
def tyi282 : TyI := ⟨false, 1, 8, false, false, true, none, none, none, [.nilfunc], none, [], none⟩
theorem tyok282 : TyOK Tryz.prog 282 tyi282 := tyOf
def tyi283 : TyI := ⟨false, 1, 8, false, false, true, none, none, none, [.nilfunc], none, [], none⟩
theorem tyok283 : TyOK Tryz.prog 283 tyi283 := tyOf
def tyi284 : TyI := ⟨false, 1, 8, false, false, true, none, none, none, [.nilfunc], none, [], none⟩
theorem tyok284 : TyOK Tryz.prog 284 tyi284 := tyOf
def tyi285 : TyI := ⟨false, 1, 8, false, false, false, none, none, none, [.nilptr], none, [], none⟩
theorem tyok285 : TyOK Tryz.prog 285 tyi285 := tyOf
def tyi286 : TyI := ⟨false, 1, 8, false, false, true, none, none, none, [.nilfunc], none, [], none⟩
theorem tyok286 : TyOK Tryz.prog 286 tyi286 := tyOf
def tyi287 : TyI := ⟨false, 1, 1, false, false, false, some .u8, none, none, [.int .u8 0], none, [], none⟩
theorem tyok287 : TyOK Tryz.prog 287 tyi287 := tyOf
def tyi288 : TyI := ⟨true, 3, 8, false, false, false, none, none, none, [.int .u8 0, .bool false, .int .u32 0], some [(0, 1), (1, 1), (2, 1)], [(0, 287), (1, 4), (2, 70)], some [.i, .b, .i]⟩
theorem lv288 : leavesT Tryz.prog 8 288 = some [.i, .b, .i] := by
  have h288 : Tryz.prog.stoodInHeld 288 = false := by kernel_rfl
  have s4 : szOf Tryz.prog 4 = 1 := by kernel_rfl
  have s70 : szOf Tryz.prog 70 = 1 := by kernel_rfl
  have s287 : szOf Tryz.prog 287 = 1 := by kernel_rfl
  have s288 : szOf Tryz.prog 288 = 3 := by kernel_rfl
  simp [leavesT, leavesT.go, Tryz.underlying4, s4, Tryz.underlying70, s70, Tryz.underlying287, s287, Tryz.underlying288, s288, h288]
theorem tyok288 : TyOK Tryz.prog 288 tyi288 := tyOf (hl := lv288)
def tyi289 : TyI := ⟨true, 3, 8, false, false, false, none, none, none, [.int .u8 0, .bool false, .int .u32 0], some [(0, 1), (1, 1), (2, 1)], [(0, 287), (1, 4), (2, 70)], some [.i, .b, .i]⟩
theorem lv289 : leavesT Tryz.prog 8 289 = some [.i, .b, .i] := by
  have h289 : Tryz.prog.stoodInHeld 289 = false := by kernel_rfl
  have s4 : szOf Tryz.prog 4 = 1 := by kernel_rfl
  have s70 : szOf Tryz.prog 70 = 1 := by kernel_rfl
  have s287 : szOf Tryz.prog 287 = 1 := by kernel_rfl
  have s289 : szOf Tryz.prog 289 = 3 := by kernel_rfl
  simp [leavesT, leavesT.go, Tryz.underlying4, s4, Tryz.underlying70, s70, Tryz.underlying287, s287, Tryz.underlying289, s289, h289]
theorem tyok289 : TyOK Tryz.prog 289 tyi289 := tyOf (hl := lv289)
def tyi290 : TyI := ⟨false, 1, 24, false, false, false, none, some 292, none, [.slc 0 [] (some 0)], none, [], none⟩
theorem tyok290 : TyOK Tryz.prog 290 tyi290 := tyOf
def tyi291 : TyI := ⟨true, 5, 56, false, false, false, none, none, none, [.int .u8 0, .bool false, .int .u32 0, .slc 0 [] (some 0), .slc 0 [] (some 0)], some [(0, 3), (3, 1), (4, 1)], [(0, 289), (3, 39), (4, 290)], none⟩
theorem tyok291 : TyOK Tryz.prog 291 tyi291 := tyOf
def tyi292 : TyI := ⟨true, 5, 56, false, false, false, none, none, none, [.int .u8 0, .bool false, .int .u32 0, .slc 0 [] (some 0), .slc 0 [] (some 0)], some [(0, 3), (3, 1), (4, 1)], [(0, 289), (3, 39), (4, 290)], none⟩
theorem tyok292 : TyOK Tryz.prog 292 tyi292 := tyOf
def tyi294 : TyI := ⟨false, 1, 8, false, false, true, none, none, none, [.nilfunc], none, [], none⟩
theorem tyok294 : TyOK Tryz.prog 294 tyi294 := tyOf
def tyi295 : TyI := ⟨false, 1, 8, false, false, true, none, none, none, [.nilfunc], none, [], none⟩
theorem tyok295 : TyOK Tryz.prog 295 tyi295 := tyOf
def tyi296 : TyI := ⟨false, 1, 8, false, false, true, none, none, none, [.nilfunc], none, [], none⟩
theorem tyok296 : TyOK Tryz.prog 296 tyi296 := tyOf
def tyi297 : TyI := ⟨false, 1, 8, false, false, true, none, none, none, [.nilfunc], none, [], none⟩
theorem tyok297 : TyOK Tryz.prog 297 tyi297 := tyOf
def tyi298 : TyI := ⟨false, 1, 8, false, false, true, none, none, none, [.nilfunc], none, [], none⟩
theorem tyok298 : TyOK Tryz.prog 298 tyi298 := tyOf
def tyi299 : TyI := ⟨false, 1, 8, false, false, false, none, none, none, [.nilmap], none, [], none⟩
theorem tyok299 : TyOK Tryz.prog 299 tyi299 := tyOf
def tyi301 : TyI := ⟨false, 1, 8, false, false, true, none, none, none, [.nilfunc], none, [], none⟩
theorem tyok301 : TyOK Tryz.prog 301 tyi301 := tyOf
def tyi302 : TyI := ⟨false, 1, 24, false, false, false, none, some 9, none, [.slc 0 [] (some 0)], none, [], none⟩
theorem tyok302 : TyOK Tryz.prog 302 tyi302 := tyOf
def tyi303 : TyI := ⟨false, 1, 8, false, false, true, none, none, none, [.nilfunc], none, [], none⟩
theorem tyok303 : TyOK Tryz.prog 303 tyi303 := tyOf
def tyi304 : TyI := ⟨false, 1, 8, false, false, true, none, none, none, [.nilfunc], none, [], none⟩
theorem tyok304 : TyOK Tryz.prog 304 tyi304 := tyOf
def tyi305 : TyI := ⟨false, 1, 8, false, false, true, none, none, none, [.nilfunc], none, [], none⟩
theorem tyok305 : TyOK Tryz.prog 305 tyi305 := tyOf
def tyi306 : TyI := ⟨false, 1, 8, false, false, true, none, none, none, [.nilfunc], none, [], none⟩
theorem tyok306 : TyOK Tryz.prog 306 tyi306 := tyOf
def tyi307 : TyI := ⟨false, 1, 8, false, false, true, none, none, none, [.nilfunc], none, [], none⟩
theorem tyok307 : TyOK Tryz.prog 307 tyi307 := tyOf
def tyi308 : TyI := ⟨false, 1, 8, false, false, false, none, none, none, [.nilptr], none, [], none⟩
theorem tyok308 : TyOK Tryz.prog 308 tyi308 := tyOf
def tyi310 : TyI := ⟨false, 1, 8, false, false, true, none, none, none, [.nilfunc], none, [], none⟩
theorem tyok310 : TyOK Tryz.prog 310 tyi310 := tyOf
def tyi311 : TyI := ⟨false, 1, 8, false, false, true, none, none, none, [.nilfunc], none, [], none⟩
theorem tyok311 : TyOK Tryz.prog 311 tyi311 := tyOf
def tyi312 : TyI := ⟨false, 1, 8, false, false, true, none, none, none, [.nilfunc], none, [], none⟩
theorem tyok312 : TyOK Tryz.prog 312 tyi312 := tyOf
def tyi313 : TyI := ⟨true, 3, 24, false, false, false, none, none, none, [.nilfunc, .nilfunc, .nilfunc], some [(0, 1), (1, 1), (2, 1)], [(0, 311), (1, 259), (2, 312)], none⟩
theorem tyok313 : TyOK Tryz.prog 313 tyi313 := tyOf
def tyi314 : TyI := ⟨true, 3, 24, false, false, false, none, none, none, [.nilfunc, .nilfunc, .nilfunc], some [(0, 1), (1, 1), (2, 1)], [(0, 311), (1, 259), (2, 312)], none⟩
theorem tyok314 : TyOK Tryz.prog 314 tyi314 := tyOf
def tyi315 : TyI := ⟨true, 12, 96, false, false, false, none, none, some (4, 314), [.nilfunc, .nilfunc, .nilfunc, .nilfunc, .nilfunc, .nilfunc, .nilfunc, .nilfunc, .nilfunc, .nilfunc, .nilfunc, .nilfunc], none, [], none⟩
theorem tyok315 : TyOK Tryz.prog 315 tyi315 := tyOf
def tyi316 : TyI := ⟨false, 1, 8, false, false, true, none, none, none, [.nilfunc], none, [], none⟩
theorem tyok316 : TyOK Tryz.prog 316 tyi316 := tyOf
def tyi317 : TyI := ⟨false, 1, 8, false, false, false, none, none, none, [.nilptr], none, [], none⟩
theorem tyok317 : TyOK Tryz.prog 317 tyi317 := tyOf
def tyi318 : TyI := ⟨false, 1, 8, false, false, true, none, none, none, [.nilfunc], none, [], none⟩
theorem tyok318 : TyOK Tryz.prog 318 tyi318 := tyOf
def tyi319 : TyI := ⟨false, 1, 8, false, false, true, none, none, none, [.nilfunc], none, [], none⟩
theorem tyok319 : TyOK Tryz.prog 319 tyi319 := tyOf
def tyi320 : TyI := ⟨false, 1, 8, false, false, true, none, none, none, [.nilfunc], none, [], none⟩
theorem tyok320 : TyOK Tryz.prog 320 tyi320 := tyOf
def tyi322 : TyI := ⟨false, 1, 8, false, false, true, none, none, none, [.nilfunc], none, [], none⟩
theorem tyok322 : TyOK Tryz.prog 322 tyi322 := tyOf
def tyi323 : TyI := ⟨false, 1, 8, false, false, true, none, none, none, [.nilfunc], none, [], none⟩
theorem tyok323 : TyOK Tryz.prog 323 tyi323 := tyOf
def tyi324 : TyI := ⟨false, 1, 8, false, false, true, none, none, none, [.nilfunc], none, [], none⟩
theorem tyok324 : TyOK Tryz.prog 324 tyi324 := tyOf
def tyi325 : TyI := ⟨false, 1, 8, false, false, true, none, none, none, [.nilfunc], none, [], none⟩
theorem tyok325 : TyOK Tryz.prog 325 tyi325 := tyOf
def tyi327 : TyI := ⟨false, 1, 8, false, false, true, none, none, none, [.nilfunc], none, [], none⟩
theorem tyok327 : TyOK Tryz.prog 327 tyi327 := tyOf
def tyi328 : TyI := ⟨false, 1, 8, false, false, true, none, none, none, [.nilfunc], none, [], none⟩
theorem tyok328 : TyOK Tryz.prog 328 tyi328 := tyOf
def tyi329 : TyI := ⟨false, 1, 8, false, false, true, none, none, none, [.nilfunc], none, [], none⟩
theorem tyok329 : TyOK Tryz.prog 329 tyi329 := tyOf
def tyi330 : TyI := ⟨false, 1, 8, false, false, true, none, none, none, [.nilfunc], none, [], none⟩
theorem tyok330 : TyOK Tryz.prog 330 tyi330 := tyOf
def tyi331 : TyI := ⟨false, 1, 8, false, false, true, none, none, none, [.nilfunc], none, [], none⟩
theorem tyok331 : TyOK Tryz.prog 331 tyi331 := tyOf
def tyi332 : TyI := ⟨false, 1, 8, false, false, true, none, none, none, [.nilfunc], none, [], none⟩
theorem tyok332 : TyOK Tryz.prog 332 tyi332 := tyOf
def tyi333 : TyI := ⟨false, 1, 8, false, false, true, none, none, none, [.nilfunc], none, [], none⟩
theorem tyok333 : TyOK Tryz.prog 333 tyi333 := tyOf
def tyi334 : TyI := ⟨false, 1, 8, false, false, true, none, none, none, [.nilfunc], none, [], none⟩
theorem tyok334 : TyOK Tryz.prog 334 tyi334 := tyOf
def tyi335 : TyI := ⟨false, 1, 8, false, false, true, none, none, none, [.nilfunc], none, [], none⟩
theorem tyok335 : TyOK Tryz.prog 335 tyi335 := tyOf
def tyi336 : TyI := ⟨false, 1, 8, false, false, true, none, none, none, [.nilfunc], none, [], none⟩
theorem tyok336 : TyOK Tryz.prog 336 tyi336 := tyOf
def tyi337 : TyI := ⟨false, 1, 8, false, false, true, none, none, none, [.nilfunc], none, [], none⟩
theorem tyok337 : TyOK Tryz.prog 337 tyi337 := tyOf
def tyi338 : TyI := ⟨false, 1, 8, false, false, true, none, none, none, [.nilfunc], none, [], none⟩
theorem tyok338 : TyOK Tryz.prog 338 tyi338 := tyOf
def tyi339 : TyI := ⟨false, 1, 8, false, false, true, none, none, none, [.nilfunc], none, [], none⟩
theorem tyok339 : TyOK Tryz.prog 339 tyi339 := tyOf
def tyi340 : TyI := ⟨false, 1, 8, false, false, true, none, none, none, [.nilfunc], none, [], none⟩
theorem tyok340 : TyOK Tryz.prog 340 tyi340 := tyOf
def tyi341 : TyI := ⟨false, 1, 8, false, false, true, none, none, none, [.nilfunc], none, [], none⟩
theorem tyok341 : TyOK Tryz.prog 341 tyi341 := tyOf
def tyi342 : TyI := ⟨false, 1, 8, false, false, true, none, none, none, [.nilfunc], none, [], none⟩
theorem tyok342 : TyOK Tryz.prog 342 tyi342 := tyOf
def tyi343 : TyI := ⟨false, 1, 8, false, false, true, none, none, none, [.nilfunc], none, [], none⟩
theorem tyok343 : TyOK Tryz.prog 343 tyi343 := tyOf
def tyi345 : TyI := ⟨false, 1, 8, false, false, true, none, none, none, [.nilfunc], none, [], none⟩
theorem tyok345 : TyOK Tryz.prog 345 tyi345 := tyOf
def tyi346 : TyI := ⟨false, 1, 8, false, false, true, none, none, none, [.nilfunc], none, [], none⟩
theorem tyok346 : TyOK Tryz.prog 346 tyi346 := tyOf
def tyi348 : TyI := ⟨false, 1, 8, false, false, true, none, none, none, [.nilfunc], none, [], none⟩
theorem tyok348 : TyOK Tryz.prog 348 tyi348 := tyOf
def tyi349 : TyI := ⟨false, 1, 8, false, false, true, none, none, none, [.nilfunc], none, [], none⟩
theorem tyok349 : TyOK Tryz.prog 349 tyi349 := tyOf
def tyi350 : TyI := ⟨false, 1, 8, false, false, true, none, none, none, [.nilfunc], none, [], none⟩
theorem tyok350 : TyOK Tryz.prog 350 tyi350 := tyOf
def tyi351 : TyI := ⟨false, 1, 8, false, false, true, none, none, none, [.nilfunc], none, [], none⟩
theorem tyok351 : TyOK Tryz.prog 351 tyi351 := tyOf
def tyi352 : TyI := ⟨false, 1, 8, false, false, true, none, none, none, [.nilfunc], none, [], none⟩
theorem tyok352 : TyOK Tryz.prog 352 tyi352 := tyOf
def tyi353 : TyI := ⟨false, 1, 8, false, false, true, none, none, none, [.nilfunc], none, [], none⟩
theorem tyok353 : TyOK Tryz.prog 353 tyi353 := tyOf
def tyi354 : TyI := ⟨false, 1, 8, false, false, true, none, none, none, [.nilfunc], none, [], none⟩
theorem tyok354 : TyOK Tryz.prog 354 tyi354 := tyOf
def tyi355 : TyI := ⟨false, 1, 8, false, false, true, none, none, none, [.nilfunc], none, [], none⟩
theorem tyok355 : TyOK Tryz.prog 355 tyi355 := tyOf
def tyi356 : TyI := ⟨true, 4, 16, false, false, false, none, none, some (4, 70), [.int .u32 0, .int .u32 0, .int .u32 0, .int .u32 0], none, [], some [.i, .i, .i, .i]⟩
theorem lv356 : leavesT Tryz.prog 8 356 = some [.i, .i, .i, .i] := by
  have s70 : szOf Tryz.prog 70 = 1 := by kernel_rfl
  have s356 : szOf Tryz.prog 356 = 4 := by kernel_rfl
  simp [leavesT, leavesT.go, Tryz.underlying70, s70, Tryz.underlying356, s356]
theorem tyok356 : TyOK Tryz.prog 356 tyi356 := tyOf (hl := lv356)
def tyi357 : TyI := ⟨false, 1, 8, false, false, true, none, none, none, [.nilfunc], none, [], none⟩
theorem tyok357 : TyOK Tryz.prog 357 tyi357 := tyOf
def tyi358 : TyI := ⟨false, 1, 8, false, false, true, none, none, none, [.nilfunc], none, [], none⟩
theorem tyok358 : TyOK Tryz.prog 358 tyi358 := tyOf
def tyi359 : TyI := ⟨true, 8, 8, false, false, false, none, none, some (8, 5), [.int .u8 0, .int .u8 0, .int .u8 0, .int .u8 0, .int .u8 0, .int .u8 0, .int .u8 0, .int .u8 0], none, [], some [.i, .i, .i, .i, .i, .i, .i, .i]⟩
theorem lv359 : leavesT Tryz.prog 8 359 = some [.i, .i, .i, .i, .i, .i, .i, .i] := by
  have s5 : szOf Tryz.prog 5 = 1 := by kernel_rfl
  have s359 : szOf Tryz.prog 359 = 8 := by kernel_rfl
  simp [leavesT, leavesT.go, Tryz.underlying5, s5, Tryz.underlying359, s359]
theorem tyok359 : TyOK Tryz.prog 359 tyi359 := tyOf (hl := lv359)
def tyi360 : TyI := ⟨true, 8, 8, false, false, false, none, none, some (8, 5), [.int .u8 0, .int .u8 0, .int .u8 0, .int .u8 0, .int .u8 0, .int .u8 0, .int .u8 0, .int .u8 0], none, [], some [.i, .i, .i, .i, .i, .i, .i, .i]⟩
theorem lv360 : leavesT Tryz.prog 8 360 = some [.i, .i, .i, .i, .i, .i, .i, .i] := by
  have s5 : szOf Tryz.prog 5 = 1 := by kernel_rfl
  have s360 : szOf Tryz.prog 360 = 8 := by kernel_rfl
  simp [leavesT, leavesT.go, Tryz.underlying5, s5, Tryz.underlying360, s360]
theorem tyok360 : TyOK Tryz.prog 360 tyi360 := tyOf (hl := lv360)
def tyi361 : TyI := ⟨false, 1, 8, false, false, true, none, none, none, [.nilfunc], none, [], none⟩
theorem tyok361 : TyOK Tryz.prog 361 tyi361 := tyOf
def tyi362 : TyI := ⟨true, 2, 16, false, false, false, none, none, none, [.int .i64 0, .int .i64 0], some [(0, 1), (1, 1)], [(0, 3), (1, 22)], some [.i, .i]⟩
theorem lv362 : leavesT Tryz.prog 8 362 = some [.i, .i] := by
  have h362 : Tryz.prog.stoodInHeld 362 = false := by kernel_rfl
  have s3 : szOf Tryz.prog 3 = 1 := by kernel_rfl
  have s22 : szOf Tryz.prog 22 = 1 := by kernel_rfl
  have s362 : szOf Tryz.prog 362 = 2 := by kernel_rfl
  simp [leavesT, leavesT.go, Tryz.underlying3, s3, Tryz.underlying22, s22, Tryz.underlying362, s362, h362]
theorem tyok362 : TyOK Tryz.prog 362 tyi362 := tyOf (hl := lv362)
def tyi363 : TyI := ⟨true, 2, 16, false, false, false, none, none, none, [.int .i64 0, .int .i64 0], some [(0, 1), (1, 1)], [(0, 3), (1, 22)], some [.i, .i]⟩
theorem lv363 : leavesT Tryz.prog 8 363 = some [.i, .i] := by
  have h363 : Tryz.prog.stoodInHeld 363 = false := by kernel_rfl
  have s3 : szOf Tryz.prog 3 = 1 := by kernel_rfl
  have s22 : szOf Tryz.prog 22 = 1 := by kernel_rfl
  have s363 : szOf Tryz.prog 363 = 2 := by kernel_rfl
  simp [leavesT, leavesT.go, Tryz.underlying3, s3, Tryz.underlying22, s22, Tryz.underlying363, s363, h363]
theorem tyok363 : TyOK Tryz.prog 363 tyi363 := tyOf (hl := lv363)
def tyi365 : TyI := ⟨true, 2, 32, false, false, false, none, none, none, [.slc 0 [] (some 0), .int .i64 0], some [(0, 1), (1, 1)], [(0, 39), (1, 3)], none⟩
theorem tyok365 : TyOK Tryz.prog 365 tyi365 := tyOf
def tyi366 : TyI := ⟨true, 2, 32, false, false, false, none, none, none, [.slc 0 [] (some 0), .int .i64 0], some [(0, 1), (1, 1)], [(0, 39), (1, 3)], none⟩
theorem tyok366 : TyOK Tryz.prog 366 tyi366 := tyOf
def tyi368 : TyI := ⟨false, 1, 8, false, false, true, none, none, none, [.nilfunc], none, [], none⟩
theorem tyok368 : TyOK Tryz.prog 368 tyi368 := tyOf
def tyi369 : TyI := ⟨false, 1, 8, false, false, true, none, none, none, [.nilfunc], none, [], none⟩
theorem tyok369 : TyOK Tryz.prog 369 tyi369 := tyOf
def tyi370 : TyI := ⟨false, 1, 8, false, false, true, none, none, none, [.nilfunc], none, [], none⟩
theorem tyok370 : TyOK Tryz.prog 370 tyi370 := tyOf
def tyi371 : TyI := ⟨false, 1, 8, false, false, true, none, none, none, [.nilfunc], none, [], none⟩
theorem tyok371 : TyOK Tryz.prog 371 tyi371 := tyOf
def tyi372 : TyI := ⟨false, 1, 8, false, false, true, none, none, none, [.nilfunc], none, [], none⟩
theorem tyok372 : TyOK Tryz.prog 372 tyi372 := tyOf
def tyi373 : TyI := ⟨false, 1, 8, false, false, true, none, none, none, [.nilfunc], none, [], none⟩
theorem tyok373 : TyOK Tryz.prog 373 tyi373 := tyOf
def tyi374 : TyI := ⟨false, 1, 8, false, false, true, none, none, none, [.nilfunc], none, [], none⟩
theorem tyok374 : TyOK Tryz.prog 374 tyi374 := tyOf
def tyi375 : TyI := ⟨false, 1, 8, false, false, true, none, none, none, [.nilfunc], none, [], none⟩
theorem tyok375 : TyOK Tryz.prog 375 tyi375 := tyOf
def tyi376 : TyI := ⟨true, 3, 24, false, false, false, none, none, none, [.int .u32 0, .nilfunc, .nilfunc], some [(0, 1), (1, 1), (2, 1)], [(0, 70), (1, 374), (2, 375)], none⟩
theorem tyok376 : TyOK Tryz.prog 376 tyi376 := tyOf
def tyi377 : TyI := ⟨true, 3, 24, false, false, false, none, none, none, [.int .u32 0, .nilfunc, .nilfunc], some [(0, 1), (1, 1), (2, 1)], [(0, 70), (1, 374), (2, 375)], none⟩
theorem tyok377 : TyOK Tryz.prog 377 tyi377 := tyOf
def tyi379 : TyI := ⟨false, 1, 8, false, false, true, none, none, none, [.nilfunc], none, [], none⟩
theorem tyok379 : TyOK Tryz.prog 379 tyi379 := tyOf
def tyi380 : TyI := ⟨false, 1, 8, false, false, true, none, none, none, [.nilfunc], none, [], none⟩
theorem tyok380 : TyOK Tryz.prog 380 tyi380 := tyOf
def tyi381 : TyI := ⟨false, 1, 8, false, false, false, none, none, none, [.nilptr], none, [], none⟩
theorem tyok381 : TyOK Tryz.prog 381 tyi381 := tyOf
def tyi383 : TyI := ⟨false, 1, 8, false, false, true, none, none, none, [.nilfunc], none, [], none⟩
theorem tyok383 : TyOK Tryz.prog 383 tyi383 := tyOf
def tyi384 : TyI := ⟨false, 1, 8, false, false, true, none, none, none, [.nilfunc], none, [], none⟩
theorem tyok384 : TyOK Tryz.prog 384 tyi384 := tyOf
def tyi386 : TyI := ⟨false, 1, 8, false, false, true, none, none, none, [.nilfunc], none, [], none⟩
theorem tyok386 : TyOK Tryz.prog 386 tyi386 := tyOf
def tyi388 : TyI := ⟨false, 1, 8, false, false, true, none, none, none, [.nilfunc], none, [], none⟩
theorem tyok388 : TyOK Tryz.prog 388 tyi388 := tyOf
def tyi389 : TyI := ⟨true, 3, 3, false, false, false, none, none, some (3, 5), [.int .u8 0, .int .u8 0, .int .u8 0], none, [], some [.i, .i, .i]⟩
theorem lv389 : leavesT Tryz.prog 8 389 = some [.i, .i, .i] := by
  have s5 : szOf Tryz.prog 5 = 1 := by kernel_rfl
  have s389 : szOf Tryz.prog 389 = 3 := by kernel_rfl
  simp [leavesT, leavesT.go, Tryz.underlying5, s5, Tryz.underlying389, s389]
theorem tyok389 : TyOK Tryz.prog 389 tyi389 := tyOf (hl := lv389)
def tyi390 : TyI := ⟨false, 1, 24, false, false, false, none, some 377, none, [.slc 0 [] (some 0)], none, [], none⟩
theorem tyok390 : TyOK Tryz.prog 390 tyi390 := tyOf
def tyi391 : TyI := ⟨false, 1, 8, false, false, true, none, none, none, [.nilfunc], none, [], none⟩
theorem tyok391 : TyOK Tryz.prog 391 tyi391 := tyOf
def tyi392 : TyI := ⟨false, 1, 8, false, false, true, none, none, none, [.nilfunc], none, [], none⟩
theorem tyok392 : TyOK Tryz.prog 392 tyi392 := tyOf
def tyi393 : TyI := ⟨false, 1, 8, false, false, true, none, none, none, [.nilfunc], none, [], none⟩
theorem tyok393 : TyOK Tryz.prog 393 tyi393 := tyOf
def tyi394 : TyI := ⟨false, 1, 8, false, false, true, none, none, none, [.nilfunc], none, [], none⟩
theorem tyok394 : TyOK Tryz.prog 394 tyi394 := tyOf
def tyi395 : TyI := ⟨false, 1, 8, false, false, true, none, none, none, [.nilfunc], none, [], none⟩
theorem tyok395 : TyOK Tryz.prog 395 tyi395 := tyOf
def tyi396 : TyI := ⟨true, 256, 256, false, false, false, none, none, some (256, 5), [.int .u8 0, .int .u8 0, .int .u8 0, .int .u8 0, .int .u8 0, .int .u8 0, .int .u8 0, .int .u8 0, .int .u8 0, .int .u8 0, .int .u8 0, .int .u8 0, .int .u8 0, .int .u8 0, .int .u8 0, .int .u8 0, .int .u8 0, .int .u8 0, .int .u8 0, .int .u8 0, .int .u8 0, .int .u8 0, .int .u8 0, .int .u8 0, .int .u8 0, .int .u8 0, .int .u8 0, .int .u8 0, .int .u8 0, .int .u8 0, .int .u8 0, .int .u8 0, .int .u8 0, .int .u8 0, .int .u8 0, .int .u8 0, .int .u8 0, .int .u8 0, .int .u8 0, .int .u8 0, .int .u8 0, .int .u8 0, .int .u8 0, .int .u8 0, .int .u8 0, .int .u8 0, .int .u8 0, .int .u8 0, .int .u8 0, .int .u8 0, .int .u8 0, .int .u8 0, .int .u8 0, .int .u8 0, .int .u8 0, .int .u8 0, .int .u8 0, .int .u8 0, .int .u8 0, .int .u8 0, .int .u8 0, .int .u8 0, .int .u8 0, .int .u8 0, .int .u8 0, .int .u8 0, .int .u8 0, .int .u8 0, .int .u8 0, .int .u8 0, .int .u8 0, .int .u8 0, .int .u8 0, .int .u8 0, .int .u8 0, .int .u8 0, .int .u8 0, .int .u8 0, .int .u8 0, .int .u8 0, .int .u8 0, .int .u8 0, .int .u8 0, .int .u8 0, .int .u8 0, .int .u8 0, .int .u8 0, .int .u8 0, .int .u8 0, .int .u8 0, .int .u8 0, .int .u8 0, .int .u8 0, .int .u8 0, .int .u8 0, .int .u8 0, .int .u8 0, .int .u8 0, .int .u8 0, .int .u8 0, .int .u8 0, .int .u8 0, .int .u8 0, .int .u8 0, .int .u8 0, .int .u8 0, .int .u8 0, .int .u8 0, .int .u8 0, .int .u8 0, .int .u8 0, .int .u8 0, .int .u8 0, .int .u8 0, .int .u8 0, .int .u8 0, .int .u8 0, .int .u8 0, .int .u8 0, .int .u8 0, .int .u8 0, .int .u8 0, .int .u8 0, .int .u8 0, .int .u8 0, .int .u8 0, .int .u8 0, .int .u8 0, .int .u8 0, .int .u8 0, .int .u8 0, .int .u8 0, .int .u8 0, .int .u8 0, .int .u8 0, .int .u8 0, .int .u8 0, .int .u8 0, .int .u8 0, .int .u8 0, .int .u8 0, .int .u8 0, .int .u8 0, .int .u8 0, .int .u8 0, .int .u8 0, .int .u8 0, .int .u8 0, .int .u8 0, .int .u8 0, .int .u8 0, .int .u8 0, .int .u8 0, .int .u8 0, .int .u8 0, .int .u8 0, .int .u8 0, .int .u8 0, .int .u8 0, .int .u8 0, .int .u8 0, .int .u8 0, .int .u8 0, .int .u8 0, .int .u8 0, .int .u8 0, .int .u8 0, .int .u8 0, .int .u8 0, .int .u8 0, .int .u8 0, .int .u8 0, .int .u8 0, .int .u8 0, .int .u8 0, .int .u8 0, .int .u8 0, .int .u8 0, .int .u8 0, .int .u8 0, .int .u8 0, .int .u8 0, .int .u8 0, .int .u8 0, .int .u8 0, .int .u8 0, .int .u8 0, .int .u8 0, .int .u8 0, .int .u8 0, .int .u8 0, .int .u8 0, .int .u8 0, .int .u8 0, .int .u8 0, .int .u8 0, .int .u8 0, .int .u8 0, .int .u8 0, .int .u8 0, .int .u8 0, .int .u8 0, .int .u8 0, .int .u8 0, .int .u8 0, .int .u8 0, .int .u8 0, .int .u8 0, .int .u8 0, .int .u8 0, .int .u8 0, .int .u8 0, .int .u8 0, .int .u8 0, .int .u8 0, .int .u8 0, .int .u8 0, .int .u8 0, .int .u8 0, .int .u8 0, .int .u8 0, .int .u8 0, .int .u8 0, .int .u8 0, .int .u8 0, .int .u8 0, .int .u8 0, .int .u8 0, .int .u8 0, .int .u8 0, .int .u8 0, .int .u8 0, .int .u8 0, .int .u8 0, .int .u8 0, .int .u8 0, .int .u8 0, .int .u8 0, .int .u8 0, .int .u8 0, .int .u8 0, .int .u8 0, .int .u8 0, .int .u8 0, .int .u8 0, .int .u8 0, .int .u8 0, .int .u8 0, .int .u8 0, .int .u8 0, .int .u8 0, .int .u8 0, .int .u8 0, .int .u8 0, .int .u8 0, .int .u8 0], none, [], some [.i, .i, .i, .i, .i, .i, .i, .i, .i, .i, .i, .i, .i, .i, .i, .i, .i, .i, .i, .i, .i, .i, .i, .i, .i, .i, .i, .i, .i, .i, .i, .i, .i, .i, .i, .i, .i, .i, .i, .i, .i, .i, .i, .i, .i, .i, .i, .i, .i, .i, .i, .i, .i, .i, .i, .i, .i, .i, .i, .i, .i, .i, .i, .i, .i, .i, .i, .i, .i, .i, .i, .i, .i, .i, .i, .i, .i, .i, .i, .i, .i, .i, .i, .i, .i, .i, .i, .i, .i, .i, .i, .i, .i, .i, .i, .i, .i, .i, .i, .i, .i, .i, .i, .i, .i, .i, .i, .i, .i, .i, .i, .i, .i, .i, .i, .i, .i, .i, .i, .i, .i, .i, .i, .i, .i, .i, .i, .i, .i, .i, .i, .i, .i, .i, .i, .i, .i, .i, .i, .i, .i, .i, .i, .i, .i, .i, .i, .i, .i, .i, .i, .i, .i, .i, .i, .i, .i, .i, .i, .i, .i, .i, .i, .i, .i, .i, .i, .i, .i, .i, .i, .i, .i, .i, .i, .i, .i, .i, .i, .i, .i, .i, .i, .i, .i, .i, .i, .i, .i, .i, .i, .i, .i, .i, .i, .i, .i, .i, .i, .i, .i, .i, .i, .i, .i, .i, .i, .i, .i, .i, .i, .i, .i, .i, .i, .i, .i, .i, .i, .i, .i, .i, .i, .i, .i, .i, .i, .i, .i, .i, .i, .i, .i, .i, .i, .i, .i, .i, .i, .i, .i, .i, .i, .i, .i, .i, .i, .i, .i, .i, .i, .i, .i, .i, .i, .i]⟩
theorem lv396 : leavesT Tryz.prog 8 396 = some [.i, .i, .i, .i, .i, .i, .i, .i, .i, .i, .i, .i, .i, .i, .i, .i, .i, .i, .i, .i, .i, .i, .i, .i, .i, .i, .i, .i, .i, .i, .i, .i, .i, .i, .i, .i, .i, .i, .i, .i, .i, .i, .i, .i, .i, .i, .i, .i, .i, .i, .i, .i, .i, .i, .i, .i, .i, .i, .i, .i, .i, .i, .i, .i, .i, .i, .i, .i, .i, .i, .i, .i, .i, .i, .i, .i, .i, .i, .i, .i, .i, .i, .i, .i, .i, .i, .i, .i, .i, .i, .i, .i, .i, .i, .i, .i, .i, .i, .i, .i, .i, .i, .i, .i, .i, .i, .i, .i, .i, .i, .i, .i, .i, .i, .i, .i, .i, .i, .i, .i, .i, .i, .i, .i, .i, .i, .i, .i, .i, .i, .i, .i, .i, .i, .i, .i, .i, .i, .i, .i, .i, .i, .i, .i, .i, .i, .i, .i, .i, .i, .i, .i, .i, .i, .i, .i, .i, .i, .i, .i, .i, .i, .i, .i, .i, .i, .i, .i, .i, .i, .i, .i, .i, .i, .i, .i, .i, .i, .i, .i, .i, .i, .i, .i, .i, .i, .i, .i, .i, .i, .i, .i, .i, .i, .i, .i, .i, .i, .i, .i, .i, .i, .i, .i, .i, .i, .i, .i, .i, .i, .i, .i, .i, .i, .i, .i, .i, .i, .i, .i, .i, .i, .i, .i, .i, .i, .i, .i, .i, .i, .i, .i, .i, .i, .i, .i, .i, .i, .i, .i, .i, .i, .i, .i, .i, .i, .i, .i, .i, .i, .i, .i, .i, .i, .i, .i] := by
  have s5 : szOf Tryz.prog 5 = 1 := by kernel_rfl
  have s396 : szOf Tryz.prog 396 = 256 := by kernel_rfl
  simp [leavesT, leavesT.go, Tryz.underlying5, s5, Tryz.underlying396, s396]
theorem tyok396 : TyOK Tryz.prog 396 tyi396 := tyOf (hl := lv396)
def tyi397 : TyI := ⟨true, 2, 2, false, false, false, none, none, none, [.int .u8 0, .int .u8 0], some [(0, 1), (1, 1)], [(0, 5), (1, 5)], some [.i, .i]⟩
theorem lv397 : leavesT Tryz.prog 8 397 = some [.i, .i] := by
  have h397 : Tryz.prog.stoodInHeld 397 = false := by kernel_rfl
  have s5 : szOf Tryz.prog 5 = 1 := by kernel_rfl
  have s397 : szOf Tryz.prog 397 = 2 := by kernel_rfl
  simp [leavesT, leavesT.go, Tryz.underlying5, s5, Tryz.underlying397, s397, h397]
theorem tyok397 : TyOK Tryz.prog 397 tyi397 := tyOf (hl := lv397)
def tyi398 : TyI := ⟨true, 2, 2, false, false, false, none, none, none, [.int .u8 0, .int .u8 0], some [(0, 1), (1, 1)], [(0, 5), (1, 5)], some [.i, .i]⟩
theorem lv398 : leavesT Tryz.prog 8 398 = some [.i, .i] := by
  have h398 : Tryz.prog.stoodInHeld 398 = false := by kernel_rfl
  have s5 : szOf Tryz.prog 5 = 1 := by kernel_rfl
  have s398 : szOf Tryz.prog 398 = 2 := by kernel_rfl
  simp [leavesT, leavesT.go, Tryz.underlying5, s5, Tryz.underlying398, s398, h398]
theorem tyok398 : TyOK Tryz.prog 398 tyi398 := tyOf (hl := lv398)
def tyi399 : TyI := ⟨true, 32, 32, false, false, false, none, none, some (16, 398), [.int .u8 0, .int .u8 0, .int .u8 0, .int .u8 0, .int .u8 0, .int .u8 0, .int .u8 0, .int .u8 0, .int .u8 0, .int .u8 0, .int .u8 0, .int .u8 0, .int .u8 0, .int .u8 0, .int .u8 0, .int .u8 0, .int .u8 0, .int .u8 0, .int .u8 0, .int .u8 0, .int .u8 0, .int .u8 0, .int .u8 0, .int .u8 0, .int .u8 0, .int .u8 0, .int .u8 0, .int .u8 0, .int .u8 0, .int .u8 0, .int .u8 0, .int .u8 0], none, [], some [.i, .i, .i, .i, .i, .i, .i, .i, .i, .i, .i, .i, .i, .i, .i, .i, .i, .i, .i, .i, .i, .i, .i, .i, .i, .i, .i, .i, .i, .i, .i, .i]⟩
theorem lv399 : leavesT Tryz.prog 8 399 = some [.i, .i, .i, .i, .i, .i, .i, .i, .i, .i, .i, .i, .i, .i, .i, .i, .i, .i, .i, .i, .i, .i, .i, .i, .i, .i, .i, .i, .i, .i, .i, .i] := by
  have h398 : Tryz.prog.stoodInHeld 398 = false := by kernel_rfl
  have s5 : szOf Tryz.prog 5 = 1 := by kernel_rfl
  have s398 : szOf Tryz.prog 398 = 2 := by kernel_rfl
  have s399 : szOf Tryz.prog 399 = 32 := by kernel_rfl
  simp [leavesT, leavesT.go, Tryz.underlying5, s5, Tryz.underlying398, s398, Tryz.underlying399, s399, h398]
theorem tyok399 : TyOK Tryz.prog 399 tyi399 := tyOf (hl := lv399)
def tyi400 : TyI := ⟨false, 1, 8, false, false, true, none, none, none, [.nilfunc], none, [], none⟩
theorem tyok400 : TyOK Tryz.prog 400 tyi400 := tyOf
def tyi401 : TyI := ⟨false, 1, 8, false, false, true, none, none, none, [.nilfunc], none, [], none⟩
theorem tyok401 : TyOK Tryz.prog 401 tyi401 := tyOf
def tyi402 : TyI := ⟨false, 1, 8, false, false, true, none, none, none, [.nilfunc], none, [], none⟩
theorem tyok402 : TyOK Tryz.prog 402 tyi402 := tyOf
def tyi403 : TyI := ⟨false, 1, 8, false, false, true, none, none, none, [.nilfunc], none, [], none⟩
theorem tyok403 : TyOK Tryz.prog 403 tyi403 := tyOf
def tyi404 : TyI := ⟨false, 1, 8, false, false, true, none, none, none, [.nilfunc], none, [], none⟩
theorem tyok404 : TyOK Tryz.prog 404 tyi404 := tyOf
def tyi405 : TyI := ⟨true, 4, 40, false, false, false, none, none, none, [.nilptr, .nilptr, .nilptr, .str []], some [(0, 1), (1, 1), (2, 1), (3, 1)], [(0, 17), (1, 17), (2, 17), (3, 9)], none⟩
theorem tyok405 : TyOK Tryz.prog 405 tyi405 := tyOf
def tyi406 : TyI := ⟨true, 4, 40, false, false, false, none, none, none, [.nilptr, .nilptr, .nilptr, .str []], some [(0, 1), (1, 1), (2, 1), (3, 1)], [(0, 17), (1, 17), (2, 17), (3, 9)], none⟩
theorem tyok406 : TyOK Tryz.prog 406 tyi406 := tyOf
def tyi407 : TyI := ⟨true, 0, 0, false, false, false, none, none, some (0, 16), [], none, [], none⟩
theorem tyok407 : TyOK Tryz.prog 407 tyi407 := tyOf
def tyi408 : TyI := ⟨true, 0, 0, false, false, false, none, none, none, [], some [(0, 0)], [(0, 407)], none⟩
theorem tyok408 : TyOK Tryz.prog 408 tyi408 := tyOf
def tyi409 : TyI := ⟨true, 0, 0, false, false, false, none, none, none, [], some [(0, 0)], [(0, 407)], none⟩
theorem tyok409 : TyOK Tryz.prog 409 tyi409 := tyOf
def tyi410 : TyI := ⟨false, 1, 1, false, false, false, some .u8, none, none, [.int .u8 0], none, [], none⟩
theorem tyok410 : TyOK Tryz.prog 410 tyi410 := tyOf
def tyi411 : TyI := ⟨false, 1, 1, false, false, false, some .u8, none, none, [.int .u8 0], none, [], none⟩
theorem tyok411 : TyOK Tryz.prog 411 tyi411 := tyOf
def tyi412 : TyI := ⟨false, 1, 8, false, false, true, none, none, none, [.nilfunc], none, [], none⟩
theorem tyok412 : TyOK Tryz.prog 412 tyi412 := tyOf
def tyi413 : TyI := ⟨false, 1, 8, false, false, false, none, none, none, [.nilptr], none, [], none⟩
theorem tyok413 : TyOK Tryz.prog 413 tyi413 := tyOf
def tyi414 : TyI := ⟨false, 1, 4, false, false, false, some .i32, none, none, [.int .i32 0], none, [], none⟩
theorem tyok414 : TyOK Tryz.prog 414 tyi414 := tyOf
def tyi415 : TyI := ⟨false, 1, 4, false, false, false, some .i32, none, none, [.int .i32 0], none, [], none⟩
theorem tyok415 : TyOK Tryz.prog 415 tyi415 := tyOf
def tyi416 : TyI := ⟨true, 11, 48, false, false, false, none, none, none, [.int .u64 0, .int .u64 0, .int .u32 0, .int .u8 0, .int .u8 0, .int .u8 0, .int .u8 0, .nilfunc, .nilptr, .int .i32 0, .int .i32 0], some [(0, 1), (1, 1), (2, 1), (3, 1), (4, 1), (5, 1), (6, 1), (7, 1), (8, 1), (9, 1), (10, 1)], [(0, 12), (1, 12), (2, 70), (3, 410), (4, 5), (5, 5), (6, 411), (7, 412), (8, 413), (9, 414), (10, 415)], none⟩
theorem tyok416 : TyOK Tryz.prog 416 tyi416 := tyOf
def tyi417 : TyI := ⟨true, 11, 48, false, false, false, none, none, none, [.int .u64 0, .int .u64 0, .int .u32 0, .int .u8 0, .int .u8 0, .int .u8 0, .int .u8 0, .nilfunc, .nilptr, .int .i32 0, .int .i32 0], some [(0, 1), (1, 1), (2, 1), (3, 1), (4, 1), (5, 1), (6, 1), (7, 1), (8, 1), (9, 1), (10, 1)], [(0, 12), (1, 12), (2, 70), (3, 410), (4, 5), (5, 5), (6, 411), (7, 412), (8, 413), (9, 414), (10, 415)], none⟩
theorem tyok417 : TyOK Tryz.prog 417 tyi417 := tyOf
def tyL : List (Option TyI) := [none, some tyi1, some tyi2, some tyi3, some tyi4, some tyi5, some tyi6, some tyi7, some tyi8, some tyi9, some tyi10, some tyi11, some tyi12, some tyi13, some tyi14, some tyi15, some tyi16, some tyi17, some tyi18, some tyi19, some tyi20, some tyi21, some tyi22, none, some tyi24, some tyi25, some tyi26, some tyi27, some tyi28, some tyi29, some tyi30, some tyi31, some tyi32, some tyi33, none, some tyi35, some tyi36, some tyi37, some tyi38, some tyi39, some tyi40, some tyi41, some tyi42, some tyi43, some tyi44, some tyi45, some tyi46, some tyi47, none, some tyi49, some tyi50, some tyi51, some tyi52, some tyi53, none, some tyi55, some tyi56, some tyi57, some tyi58, none, some tyi60, some tyi61, some tyi62, some tyi63, some tyi64, some tyi65, none, some tyi67, some tyi68, some tyi69, some tyi70, some tyi71, some tyi72, some tyi73, some tyi74, some tyi75, some tyi76, some tyi77, some tyi78, some tyi79, some tyi80, some tyi81, some tyi82, some tyi83, some tyi84, some tyi85, some tyi86, some tyi87, some tyi88, some tyi89, some tyi90, some tyi91, some tyi92, none, some tyi94, some tyi95, some tyi96, some tyi97, some tyi98, some tyi99, some tyi100, some tyi101, some tyi102, some tyi103, some tyi104, some tyi105, some tyi106, some tyi107, some tyi108, some tyi109, none, some tyi111, some tyi112, some tyi113, some tyi114, some tyi115, some tyi116, none, some tyi118, some tyi119, none, some tyi121, some tyi122, some tyi123, some tyi124, some tyi125, some tyi126, some tyi127, some tyi128, some tyi129, some tyi130, some tyi131, some tyi132, some tyi133, some tyi134, some tyi135, some tyi136, some tyi137, some tyi138, some tyi139, some tyi140, some tyi141, some tyi142, some tyi143, some tyi144, some tyi145, some tyi146, some tyi147, some tyi148, some tyi149, some tyi150, some tyi151, some tyi152, some tyi153, some tyi154, some tyi155, some tyi156, some tyi157, some tyi158, some tyi159, some tyi160, some tyi161, none, some tyi163, some tyi164, some tyi165, some tyi166, some tyi167, some tyi168, some tyi169, some tyi170, none, some tyi172, some tyi173, some tyi174, some tyi175, some tyi176, some tyi177, some tyi178, some tyi179, some tyi180, some tyi181, some tyi182, some tyi183, some tyi184, some tyi185, some tyi186, some tyi187, some tyi188, some tyi189, some tyi190, some tyi191, some tyi192, some tyi193, none, some tyi195, some tyi196, some tyi197, none, some tyi199, some tyi200, some tyi201, some tyi202, some tyi203, some tyi204, some tyi205, some tyi206, some tyi207, some tyi208, some tyi209, some tyi210, some tyi211, some tyi212, some tyi213, some tyi214, some tyi215, some tyi216, some tyi217, some tyi218, some tyi219, some tyi220, some tyi221, some tyi222, some tyi223, some tyi224, some tyi225, none, some tyi227, some tyi228, some tyi229, some tyi230, some tyi231, some tyi232, some tyi233, some tyi234, some tyi235, some tyi236, some tyi237, some tyi238, some tyi239, some tyi240, some tyi241, some tyi242, some tyi243, some tyi244, some tyi245, some tyi246, some tyi247, some tyi248, some tyi249, none, some tyi251, some tyi252, some tyi253, some tyi254, some tyi255, some tyi256, some tyi257, some tyi258, some tyi259, some tyi260, none, some tyi262, some tyi263, none, some tyi265, some tyi266, none, some tyi268, some tyi269, some tyi270, some tyi271, some tyi272, some tyi273, some tyi274, some tyi275, some tyi276, some tyi277, some tyi278, some tyi279, some tyi280, some tyi281, some tyi282, some tyi283, some tyi284, some tyi285, some tyi286, some tyi287, some tyi288, some tyi289, some tyi290, some tyi291, some tyi292, none, some tyi294, some tyi295, some tyi296, some tyi297, some tyi298, some tyi299, none, some tyi301, some tyi302, some tyi303, some tyi304, some tyi305, some tyi306, some tyi307, some tyi308, none, some tyi310, some tyi311, some tyi312, some tyi313, some tyi314, some tyi315, some tyi316, some tyi317, some tyi318, some tyi319, some tyi320, none, some tyi322, some tyi323, some tyi324, some tyi325, none, some tyi327, some tyi328, some tyi329, some tyi330, some tyi331, some tyi332, some tyi333, some tyi334, some tyi335, some tyi336, some tyi337, some tyi338, some tyi339, some tyi340, some tyi341, some tyi342, some tyi343, none, some tyi345, some tyi346, none, some tyi348, some tyi349, some tyi350, some tyi351, some tyi352, some tyi353, some tyi354, some tyi355, some tyi356, some tyi357, some tyi358, some tyi359, some tyi360, some tyi361, some tyi362, some tyi363, none, some tyi365, some tyi366, none, some tyi368, some tyi369, some tyi370, some tyi371, some tyi372, some tyi373, some tyi374, some tyi375, some tyi376, some tyi377, none, some tyi379, some tyi380, some tyi381, none, some tyi383, some tyi384, none, some tyi386, none, some tyi388, some tyi389, some tyi390, some tyi391, some tyi392, some tyi393, some tyi394, some tyi395, some tyi396, some tyi397, some tyi398, some tyi399, some tyi400, some tyi401, some tyi402, some tyi403, some tyi404, some tyi405, some tyi406, some tyi407, some tyi408, some tyi409, some tyi410, some tyi411, some tyi412, some tyi413, some tyi414, some tyi415, some tyi416, some tyi417, none]
theorem tyL_ok : TyOKs Tryz.prog 0 tyL := ⟨tyok1, ⟨tyok2, ⟨tyok3, ⟨tyok4, ⟨tyok5, ⟨tyok6, ⟨tyok7, ⟨tyok8, ⟨tyok9, ⟨tyok10, ⟨tyok11, ⟨tyok12, ⟨tyok13, ⟨tyok14, ⟨tyok15, ⟨tyok16, ⟨tyok17, ⟨tyok18, ⟨tyok19, ⟨tyok20, ⟨tyok21, ⟨tyok22, ⟨tyok24, ⟨tyok25, ⟨tyok26, ⟨tyok27, ⟨tyok28, ⟨tyok29, ⟨tyok30, ⟨tyok31, ⟨tyok32, ⟨tyok33, ⟨tyok35, ⟨tyok36, ⟨tyok37, ⟨tyok38, ⟨tyok39, ⟨tyok40, ⟨tyok41, ⟨tyok42, ⟨tyok43, ⟨tyok44, ⟨tyok45, ⟨tyok46, ⟨tyok47, ⟨tyok49, ⟨tyok50, ⟨tyok51, ⟨tyok52, ⟨tyok53, ⟨tyok55, ⟨tyok56, ⟨tyok57, ⟨tyok58, ⟨tyok60, ⟨tyok61, ⟨tyok62, ⟨tyok63, ⟨tyok64, ⟨tyok65, ⟨tyok67, ⟨tyok68, ⟨tyok69, ⟨tyok70, ⟨tyok71, ⟨tyok72, ⟨tyok73, ⟨tyok74, ⟨tyok75, ⟨tyok76, ⟨tyok77, ⟨tyok78, ⟨tyok79, ⟨tyok80, ⟨tyok81, ⟨tyok82, ⟨tyok83, ⟨tyok84, ⟨tyok85, ⟨tyok86, ⟨tyok87, ⟨tyok88, ⟨tyok89, ⟨tyok90, ⟨tyok91, ⟨tyok92, ⟨tyok94, ⟨tyok95, ⟨tyok96, ⟨tyok97, ⟨tyok98, ⟨tyok99, ⟨tyok100, ⟨tyok101, ⟨tyok102, ⟨tyok103, ⟨tyok104, ⟨tyok105, ⟨tyok106, ⟨tyok107, ⟨tyok108, ⟨tyok109, ⟨tyok111, ⟨tyok112, ⟨tyok113, ⟨tyok114, ⟨tyok115, ⟨tyok116, ⟨tyok118, ⟨tyok119, ⟨tyok121, ⟨tyok122, ⟨tyok123, ⟨tyok124, ⟨tyok125, ⟨tyok126, ⟨tyok127, ⟨tyok128, ⟨tyok129, ⟨tyok130, ⟨tyok131, ⟨tyok132, ⟨tyok133, ⟨tyok134, ⟨tyok135, ⟨tyok136, ⟨tyok137, ⟨tyok138, ⟨tyok139, ⟨tyok140, ⟨tyok141, ⟨tyok142, ⟨tyok143, ⟨tyok144, ⟨tyok145, ⟨tyok146, ⟨tyok147, ⟨tyok148, ⟨tyok149, ⟨tyok150, ⟨tyok151, ⟨tyok152, ⟨tyok153, ⟨tyok154, ⟨tyok155, ⟨tyok156, ⟨tyok157, ⟨tyok158, ⟨tyok159, ⟨tyok160, ⟨tyok161, ⟨tyok163, ⟨tyok164, ⟨tyok165, ⟨tyok166, ⟨tyok167, ⟨tyok168, ⟨tyok169, ⟨tyok170, ⟨tyok172, ⟨tyok173, ⟨tyok174, ⟨tyok175, ⟨tyok176, ⟨tyok177, ⟨tyok178, ⟨tyok179, ⟨tyok180, ⟨tyok181, ⟨tyok182, ⟨tyok183, ⟨tyok184, ⟨tyok185, ⟨tyok186, ⟨tyok187, ⟨tyok188, ⟨tyok189, ⟨tyok190, ⟨tyok191, ⟨tyok192, ⟨tyok193, ⟨tyok195, ⟨tyok196, ⟨tyok197, ⟨tyok199, ⟨tyok200, ⟨tyok201, ⟨tyok202, ⟨tyok203, ⟨tyok204, ⟨tyok205, ⟨tyok206, ⟨tyok207, ⟨tyok208, ⟨tyok209, ⟨tyok210, ⟨tyok211, ⟨tyok212, ⟨tyok213, ⟨tyok214, ⟨tyok215, ⟨tyok216, ⟨tyok217, ⟨tyok218, ⟨tyok219, ⟨tyok220, ⟨tyok221, ⟨tyok222, ⟨tyok223, ⟨tyok224, ⟨tyok225, ⟨tyok227, ⟨tyok228, ⟨tyok229, ⟨tyok230, ⟨tyok231, ⟨tyok232, ⟨tyok233, ⟨tyok234, ⟨tyok235, ⟨tyok236, ⟨tyok237, ⟨tyok238, ⟨tyok239, ⟨tyok240, ⟨tyok241, ⟨tyok242, ⟨tyok243, ⟨tyok244, ⟨tyok245, ⟨tyok246, ⟨tyok247, ⟨tyok248, ⟨tyok249, ⟨tyok251, ⟨tyok252, ⟨tyok253, ⟨tyok254, ⟨tyok255, ⟨tyok256, ⟨tyok257, ⟨tyok258, ⟨tyok259, ⟨tyok260, ⟨tyok262, ⟨tyok263, ⟨tyok265, ⟨tyok266, ⟨tyok268, ⟨tyok269, ⟨tyok270, ⟨tyok271, ⟨tyok272, ⟨tyok273, ⟨tyok274, ⟨tyok275, ⟨tyok276, ⟨tyok277, ⟨tyok278, ⟨tyok279, ⟨tyok280, ⟨tyok281, ⟨tyok282, ⟨tyok283, ⟨tyok284, ⟨tyok285, ⟨tyok286, ⟨tyok287, ⟨tyok288, ⟨tyok289, ⟨tyok290, ⟨tyok291, ⟨tyok292, ⟨tyok294, ⟨tyok295, ⟨tyok296, ⟨tyok297, ⟨tyok298, ⟨tyok299, ⟨tyok301, ⟨tyok302, ⟨tyok303, ⟨tyok304, ⟨tyok305, ⟨tyok306, ⟨tyok307, ⟨tyok308, ⟨tyok310, ⟨tyok311, ⟨tyok312, ⟨tyok313, ⟨tyok314, ⟨tyok315, ⟨tyok316, ⟨tyok317, ⟨tyok318, ⟨tyok319, ⟨tyok320, ⟨tyok322, ⟨tyok323, ⟨tyok324, ⟨tyok325, ⟨tyok327, ⟨tyok328, ⟨tyok329, ⟨tyok330, ⟨tyok331, ⟨tyok332, ⟨tyok333, ⟨tyok334, ⟨tyok335, ⟨tyok336, ⟨tyok337, ⟨tyok338, ⟨tyok339, ⟨tyok340, ⟨tyok341, ⟨tyok342, ⟨tyok343, ⟨tyok345, ⟨tyok346, ⟨tyok348, ⟨tyok349, ⟨tyok350, ⟨tyok351, ⟨tyok352, ⟨tyok353, ⟨tyok354, ⟨tyok355, ⟨tyok356, ⟨tyok357, ⟨tyok358, ⟨tyok359, ⟨tyok360, ⟨tyok361, ⟨tyok362, ⟨tyok363, ⟨tyok365, ⟨tyok366, ⟨tyok368, ⟨tyok369, ⟨tyok370, ⟨tyok371, ⟨tyok372, ⟨tyok373, ⟨tyok374, ⟨tyok375, ⟨tyok376, ⟨tyok377, ⟨tyok379, ⟨tyok380, ⟨tyok381, ⟨tyok383, ⟨tyok384, ⟨tyok386, ⟨tyok388, ⟨tyok389, ⟨tyok390, ⟨tyok391, ⟨tyok392, ⟨tyok393, ⟨tyok394, ⟨tyok395, ⟨tyok396, ⟨tyok397, ⟨tyok398, ⟨tyok399, ⟨tyok400, ⟨tyok401, ⟨tyok402, ⟨tyok403, ⟨tyok404, ⟨tyok405, ⟨tyok406, ⟨tyok407, ⟨tyok408, ⟨tyok409, ⟨tyok410, ⟨tyok411, ⟨tyok412, ⟨tyok413, ⟨tyok414, ⟨tyok415, ⟨tyok416, ⟨tyok417, trivial⟩⟩⟩⟩⟩⟩⟩⟩⟩⟩⟩⟩⟩⟩⟩⟩⟩⟩⟩⟩⟩⟩⟩⟩⟩⟩⟩⟩⟩⟩⟩⟩⟩⟩⟩⟩⟩⟩⟩⟩⟩⟩⟩⟩⟩⟩⟩⟩⟩⟩⟩⟩⟩⟩⟩⟩⟩⟩⟩⟩⟩⟩⟩⟩⟩⟩⟩⟩⟩⟩⟩⟩⟩⟩⟩⟩⟩⟩⟩⟩⟩⟩⟩⟩⟩⟩⟩⟩⟩⟩⟩⟩⟩⟩⟩⟩⟩⟩⟩⟩⟩⟩⟩⟩⟩⟩⟩⟩⟩⟩⟩⟩⟩⟩⟩⟩⟩⟩⟩⟩⟩⟩⟩⟩⟩⟩⟩⟩⟩⟩⟩⟩⟩⟩⟩⟩⟩⟩⟩⟩⟩⟩⟩⟩⟩⟩⟩⟩⟩⟩⟩⟩⟩⟩⟩⟩⟩⟩⟩⟩⟩⟩⟩⟩⟩⟩⟩⟩⟩⟩⟩⟩⟩⟩⟩⟩⟩⟩⟩⟩⟩⟩⟩⟩⟩⟩⟩⟩⟩⟩⟩⟩⟩⟩⟩⟩⟩⟩⟩⟩⟩⟩⟩⟩⟩⟩⟩⟩⟩⟩⟩⟩⟩⟩⟩⟩⟩⟩⟩⟩⟩⟩⟩⟩⟩⟩⟩⟩⟩⟩⟩⟩⟩⟩⟩⟩⟩⟩⟩⟩⟩⟩⟩⟩⟩⟩⟩⟩⟩⟩⟩⟩⟩⟩⟩⟩⟩⟩⟩⟩⟩⟩⟩⟩⟩⟩⟩⟩⟩⟩⟩⟩⟩⟩⟩⟩⟩⟩⟩⟩⟩⟩⟩⟩⟩⟩⟩⟩⟩⟩⟩⟩⟩⟩⟩⟩⟩⟩⟩⟩⟩⟩⟩⟩⟩⟩⟩⟩⟩⟩⟩⟩⟩⟩⟩⟩⟩⟩⟩⟩⟩⟩⟩⟩⟩⟩⟩⟩⟩⟩⟩⟩⟩⟩⟩⟩⟩⟩⟩⟩⟩⟩⟩⟩⟩⟩⟩⟩⟩⟩⟩⟩⟩⟩⟩⟩⟩⟩⟩⟩⟩⟩⟩⟩⟩⟩⟩⟩⟩⟩⟩⟩⟩⟩⟩⟩⟩⟩⟩⟩⟩⟩⟩⟩⟩
end Go.Proofs.YtepnbdacekkapaaGreatDoor.Ai
