/- What the abstract operations ask of each type of the seat. Own work, printed. -/
import Derived.Test.YtaajfbcopafkaaaGreatDoorAiSymG
import Derived.Test.YtaajfbcopafkaaaGreatDoorChecked
namespace Go.Proofs.YtaajfbcopafkaaaGreatDoor.Ai
open Go
set_option maxRecDepth 10000
set_option linter.unusedSimpArgs false
def tyi3 : TyI := ⟨false, 1, 8, false, false, false, some .i64, none, none, [.int .i64 0], none, [], none⟩
theorem tyok3 : TyOK Tryz.prog 3 tyi3 := tyOf
def tyi4 : TyI := ⟨false, 1, 1, false, true, false, none, none, none, [.bool false], none, [], none⟩
theorem tyok4 : TyOK Tryz.prog 4 tyi4 := tyOf
def tyi5 : TyI := ⟨false, 1, 1, false, false, false, some .u8, none, none, [.int .u8 0], none, [], none⟩
theorem tyok5 : TyOK Tryz.prog 5 tyi5 := tyOf
def tyi9 : TyI := ⟨false, 1, 16, true, false, false, none, none, none, [.str []], none, [], none⟩
theorem tyok9 : TyOK Tryz.prog 9 tyi9 := tyOf
def tyi12 : TyI := ⟨false, 1, 8, false, false, false, some .u64, none, none, [.int .u64 0], none, [], none⟩
theorem tyok12 : TyOK Tryz.prog 12 tyi12 := tyOf
def tyi21 : TyI := ⟨false, 1, 4, false, false, false, some .i32, none, none, [.int .i32 0], none, [], none⟩
theorem tyok21 : TyOK Tryz.prog 21 tyi21 := tyOf
def tyi28 : TyI := ⟨false, 1, 1, false, false, false, some .u8, none, none, [.int .u8 0], none, [], none⟩
theorem tyok28 : TyOK Tryz.prog 28 tyi28 := tyOf
def tyi29 : TyI := ⟨false, 1, 4, false, false, false, some .u32, none, none, [.int .u32 0], none, [], none⟩
theorem tyok29 : TyOK Tryz.prog 29 tyi29 := tyOf
def tyi31 : TyI := ⟨true, 3, 8, false, false, false, none, none, none, [.int .u8 0, .bool false, .int .u32 0], some [(0, 1), (1, 1), (2, 1)], [(0, 28), (1, 4), (2, 29)], some [.i, .b, .i]⟩
theorem lv31 : leavesT Tryz.prog 8 31 = some [.i, .b, .i] := by
 have h31 : Tryz.prog.stoodInHeld 31 = false := by kernel_rfl
 have s4 : szOf Tryz.prog 4 = 1 := by kernel_rfl
 have s28 : szOf Tryz.prog 28 = 1 := by kernel_rfl
 have s29 : szOf Tryz.prog 29 = 1 := by kernel_rfl
 have s31 : szOf Tryz.prog 31 = 3 := by kernel_rfl
 simp [leavesT, leavesT.go, Tryz.underlying4, s4, Tryz.underlying28, s28, Tryz.underlying29, s29, Tryz.underlying31, s31, h31]
theorem tyok31 : TyOK Tryz.prog 31 tyi31 := tyOf (hl := lv31)
def tyi32 : TyI := ⟨false, 1, 24, false, false, false, none, some 5, none, [.slc 0 [] (some 0)], none, [], none⟩
theorem tyok32 : TyOK Tryz.prog 32 tyi32 := tyOf
def tyi33 : TyI := ⟨false, 1, 24, false, false, false, none, some 35, none, [.slc 0 [] (some 0)], none, [], none⟩
theorem tyok33 : TyOK Tryz.prog 33 tyi33 := tyOf
def tyi35 : TyI := ⟨true, 5, 56, false, false, false, none, none, none, [.int .u8 0, .bool false, .int .u32 0, .slc 0 [] (some 0), .slc 0 [] (some 0)], some [(0, 3), (3, 1), (4, 1)], [(0, 31), (3, 32), (4, 33)], none⟩
theorem tyok35 : TyOK Tryz.prog 35 tyi35 := tyOf
def tyi36 : TyI := ⟨false, 1, 8, false, false, false, some .i64, none, none, [.int .i64 0], none, [], none⟩
theorem tyok36 : TyOK Tryz.prog 36 tyi36 := tyOf
def tyi45 : TyI := ⟨false, 1, 24, false, false, false, none, some 29, none, [.slc 0 [] (some 0)], none, [], none⟩
theorem tyok45 : TyOK Tryz.prog 45 tyi45 := tyOf
def tyi47 : TyI := ⟨true, 2, 32, false, false, false, none, none, none, [.int .u8 0, .slc 0 [] (some 0)], some [(0, 1), (1, 1)], [(0, 5), (1, 45)], none⟩
theorem tyok47 : TyOK Tryz.prog 47 tyi47 := tyOf
def tyi49 : TyI := ⟨true, 2, 24, false, false, false, none, none, none, [.int .u32 0, .str []], some [(0, 1), (1, 1)], [(0, 29), (1, 9)], some [.i, .s]⟩
theorem lv49 : leavesT Tryz.prog 8 49 = some [.i, .s] := by
 have h49 : Tryz.prog.stoodInHeld 49 = false := by kernel_rfl
 have s9 : szOf Tryz.prog 9 = 1 := by kernel_rfl
 have s29 : szOf Tryz.prog 29 = 1 := by kernel_rfl
 have s49 : szOf Tryz.prog 49 = 2 := by kernel_rfl
 simp [leavesT, leavesT.go, Tryz.underlying9, s9, Tryz.underlying29, s29, Tryz.underlying49, s49, h49]
theorem tyok49 : TyOK Tryz.prog 49 tyi49 := tyOf (hl := lv49)
def tyi61 : TyI := ⟨false, 1, 24, false, false, false, none, some 3, none, [.slc 0 [] (some 0)], none, [], none⟩
theorem tyok61 : TyOK Tryz.prog 61 tyi61 := tyOf
def tyi95 : TyI := ⟨false, 1, 8, false, false, true, none, none, none, [.nilfunc], none, [], none⟩
theorem tyok95 : TyOK Tryz.prog 95 tyi95 := tyOf
def tyi96 : TyI := ⟨false, 1, 8, false, false, true, none, none, none, [.nilfunc], none, [], none⟩
theorem tyok96 : TyOK Tryz.prog 96 tyi96 := tyOf
def tyi98 : TyI := ⟨true, 3, 24, false, false, false, none, none, none, [.int .u32 0, .nilfunc, .nilfunc], some [(0, 1), (1, 1), (2, 1)], [(0, 29), (1, 95), (2, 96)], none⟩
theorem tyok98 : TyOK Tryz.prog 98 tyi98 := tyOf
def tyi121 : TyI := ⟨false, 1, 8, false, false, false, some .u64, none, none, [.int .u64 0], none, [], none⟩
theorem tyok121 : TyOK Tryz.prog 121 tyi121 := tyOf
def tyi143 : TyI := ⟨false, 1, 24, false, false, false, none, some 98, none, [.slc 0 [] (some 0)], none, [], none⟩
theorem tyok143 : TyOK Tryz.prog 143 tyi143 := tyOf
def tyi146 : TyI := ⟨false, 1, 8, false, false, true, none, none, none, [.nilfunc], none, [], none⟩
theorem tyok146 : TyOK Tryz.prog 146 tyi146 := tyOf
def tyi147 : TyI := ⟨false, 1, 24, false, false, false, none, some 21, none, [.slc 0 [] (some 0)], none, [], none⟩
theorem tyok147 : TyOK Tryz.prog 147 tyi147 := tyOf
def tyi154 : TyI := ⟨false, 1, 8, false, false, true, none, none, none, [.nilfunc], none, [], none⟩
theorem tyok154 : TyOK Tryz.prog 154 tyi154 := tyOf
def tyi257 : TyI := ⟨true, 256, 256, false, false, false, none, none, some (256, 5), [.int .u8 0, .int .u8 0, .int .u8 0, .int .u8 0, .int .u8 0, .int .u8 0, .int .u8 0, .int .u8 0, .int .u8 0, .int .u8 0, .int .u8 0, .int .u8 0, .int .u8 0, .int .u8 0, .int .u8 0, .int .u8 0, .int .u8 0, .int .u8 0, .int .u8 0, .int .u8 0, .int .u8 0, .int .u8 0, .int .u8 0, .int .u8 0, .int .u8 0, .int .u8 0, .int .u8 0, .int .u8 0, .int .u8 0, .int .u8 0, .int .u8 0, .int .u8 0, .int .u8 0, .int .u8 0, .int .u8 0, .int .u8 0, .int .u8 0, .int .u8 0, .int .u8 0, .int .u8 0, .int .u8 0, .int .u8 0, .int .u8 0, .int .u8 0, .int .u8 0, .int .u8 0, .int .u8 0, .int .u8 0, .int .u8 0, .int .u8 0, .int .u8 0, .int .u8 0, .int .u8 0, .int .u8 0, .int .u8 0, .int .u8 0, .int .u8 0, .int .u8 0, .int .u8 0, .int .u8 0, .int .u8 0, .int .u8 0, .int .u8 0, .int .u8 0, .int .u8 0, .int .u8 0, .int .u8 0, .int .u8 0, .int .u8 0, .int .u8 0, .int .u8 0, .int .u8 0, .int .u8 0, .int .u8 0, .int .u8 0, .int .u8 0, .int .u8 0, .int .u8 0, .int .u8 0, .int .u8 0, .int .u8 0, .int .u8 0, .int .u8 0, .int .u8 0, .int .u8 0, .int .u8 0, .int .u8 0, .int .u8 0, .int .u8 0, .int .u8 0, .int .u8 0, .int .u8 0, .int .u8 0, .int .u8 0, .int .u8 0, .int .u8 0, .int .u8 0, .int .u8 0, .int .u8 0, .int .u8 0, .int .u8 0, .int .u8 0, .int .u8 0, .int .u8 0, .int .u8 0, .int .u8 0, .int .u8 0, .int .u8 0, .int .u8 0, .int .u8 0, .int .u8 0, .int .u8 0, .int .u8 0, .int .u8 0, .int .u8 0, .int .u8 0, .int .u8 0, .int .u8 0, .int .u8 0, .int .u8 0, .int .u8 0, .int .u8 0, .int .u8 0, .int .u8 0, .int .u8 0, .int .u8 0, .int .u8 0, .int .u8 0, .int .u8 0, .int .u8 0, .int .u8 0, .int .u8 0, .int .u8 0, .int .u8 0, .int .u8 0, .int .u8 0, .int .u8 0, .int .u8 0, .int .u8 0, .int .u8 0, .int .u8 0, .int .u8 0, .int .u8 0, .int .u8 0, .int .u8 0, .int .u8 0, .int .u8 0, .int .u8 0, .int .u8 0, .int .u8 0, .int .u8 0, .int .u8 0, .int .u8 0, .int .u8 0, .int .u8 0, .int .u8 0, .int .u8 0, .int .u8 0, .int .u8 0, .int .u8 0, .int .u8 0, .int .u8 0, .int .u8 0, .int .u8 0, .int .u8 0, .int .u8 0, .int .u8 0, .int .u8 0, .int .u8 0, .int .u8 0, .int .u8 0, .int .u8 0, .int .u8 0, .int .u8 0, .int .u8 0, .int .u8 0, .int .u8 0, .int .u8 0, .int .u8 0, .int .u8 0, .int .u8 0, .int .u8 0, .int .u8 0, .int .u8 0, .int .u8 0, .int .u8 0, .int .u8 0, .int .u8 0, .int .u8 0, .int .u8 0, .int .u8 0, .int .u8 0, .int .u8 0, .int .u8 0, .int .u8 0, .int .u8 0, .int .u8 0, .int .u8 0, .int .u8 0, .int .u8 0, .int .u8 0, .int .u8 0, .int .u8 0, .int .u8 0, .int .u8 0, .int .u8 0, .int .u8 0, .int .u8 0, .int .u8 0, .int .u8 0, .int .u8 0, .int .u8 0, .int .u8 0, .int .u8 0, .int .u8 0, .int .u8 0, .int .u8 0, .int .u8 0, .int .u8 0, .int .u8 0, .int .u8 0, .int .u8 0, .int .u8 0, .int .u8 0, .int .u8 0, .int .u8 0, .int .u8 0, .int .u8 0, .int .u8 0, .int .u8 0, .int .u8 0, .int .u8 0, .int .u8 0, .int .u8 0, .int .u8 0, .int .u8 0, .int .u8 0, .int .u8 0, .int .u8 0, .int .u8 0, .int .u8 0, .int .u8 0, .int .u8 0, .int .u8 0, .int .u8 0, .int .u8 0, .int .u8 0, .int .u8 0, .int .u8 0, .int .u8 0, .int .u8 0, .int .u8 0, .int .u8 0, .int .u8 0, .int .u8 0, .int .u8 0], none, [], some [.i, .i, .i, .i, .i, .i, .i, .i, .i, .i, .i, .i, .i, .i, .i, .i, .i, .i, .i, .i, .i, .i, .i, .i, .i, .i, .i, .i, .i, .i, .i, .i, .i, .i, .i, .i, .i, .i, .i, .i, .i, .i, .i, .i, .i, .i, .i, .i, .i, .i, .i, .i, .i, .i, .i, .i, .i, .i, .i, .i, .i, .i, .i, .i, .i, .i, .i, .i, .i, .i, .i, .i, .i, .i, .i, .i, .i, .i, .i, .i, .i, .i, .i, .i, .i, .i, .i, .i, .i, .i, .i, .i, .i, .i, .i, .i, .i, .i, .i, .i, .i, .i, .i, .i, .i, .i, .i, .i, .i, .i, .i, .i, .i, .i, .i, .i, .i, .i, .i, .i, .i, .i, .i, .i, .i, .i, .i, .i, .i, .i, .i, .i, .i, .i, .i, .i, .i, .i, .i, .i, .i, .i, .i, .i, .i, .i, .i, .i, .i, .i, .i, .i, .i, .i, .i, .i, .i, .i, .i, .i, .i, .i, .i, .i, .i, .i, .i, .i, .i, .i, .i, .i, .i, .i, .i, .i, .i, .i, .i, .i, .i, .i, .i, .i, .i, .i, .i, .i, .i, .i, .i, .i, .i, .i, .i, .i, .i, .i, .i, .i, .i, .i, .i, .i, .i, .i, .i, .i, .i, .i, .i, .i, .i, .i, .i, .i, .i, .i, .i, .i, .i, .i, .i, .i, .i, .i, .i, .i, .i, .i, .i, .i, .i, .i, .i, .i, .i, .i, .i, .i, .i, .i, .i, .i, .i, .i, .i, .i, .i, .i, .i, .i, .i, .i, .i, .i]⟩
theorem lv257 : leavesT Tryz.prog 8 257 = some [.i, .i, .i, .i, .i, .i, .i, .i, .i, .i, .i, .i, .i, .i, .i, .i, .i, .i, .i, .i, .i, .i, .i, .i, .i, .i, .i, .i, .i, .i, .i, .i, .i, .i, .i, .i, .i, .i, .i, .i, .i, .i, .i, .i, .i, .i, .i, .i, .i, .i, .i, .i, .i, .i, .i, .i, .i, .i, .i, .i, .i, .i, .i, .i, .i, .i, .i, .i, .i, .i, .i, .i, .i, .i, .i, .i, .i, .i, .i, .i, .i, .i, .i, .i, .i, .i, .i, .i, .i, .i, .i, .i, .i, .i, .i, .i, .i, .i, .i, .i, .i, .i, .i, .i, .i, .i, .i, .i, .i, .i, .i, .i, .i, .i, .i, .i, .i, .i, .i, .i, .i, .i, .i, .i, .i, .i, .i, .i, .i, .i, .i, .i, .i, .i, .i, .i, .i, .i, .i, .i, .i, .i, .i, .i, .i, .i, .i, .i, .i, .i, .i, .i, .i, .i, .i, .i, .i, .i, .i, .i, .i, .i, .i, .i, .i, .i, .i, .i, .i, .i, .i, .i, .i, .i, .i, .i, .i, .i, .i, .i, .i, .i, .i, .i, .i, .i, .i, .i, .i, .i, .i, .i, .i, .i, .i, .i, .i, .i, .i, .i, .i, .i, .i, .i, .i, .i, .i, .i, .i, .i, .i, .i, .i, .i, .i, .i, .i, .i, .i, .i, .i, .i, .i, .i, .i, .i, .i, .i, .i, .i, .i, .i, .i, .i, .i, .i, .i, .i, .i, .i, .i, .i, .i, .i, .i, .i, .i, .i, .i, .i, .i, .i, .i, .i, .i, .i] := by
 have s5 : szOf Tryz.prog 5 = 1 := by kernel_rfl
 have s257 : szOf Tryz.prog 257 = 256 := by kernel_rfl
 simp [leavesT, leavesT.go, Tryz.underlying5, s5, Tryz.underlying257, s257]
theorem tyok257 : TyOK Tryz.prog 257 tyi257 := tyOf (hl := lv257)
def tyi259 : TyI := ⟨true, 2, 2, false, false, false, none, none, none, [.int .u8 0, .int .u8 0], some [(0, 1), (1, 1)], [(0, 5), (1, 5)], some [.i, .i]⟩
theorem lv259 : leavesT Tryz.prog 8 259 = some [.i, .i] := by
 have h259 : Tryz.prog.stoodInHeld 259 = false := by kernel_rfl
 have s5 : szOf Tryz.prog 5 = 1 := by kernel_rfl
 have s259 : szOf Tryz.prog 259 = 2 := by kernel_rfl
 simp [leavesT, leavesT.go, Tryz.underlying5, s5, Tryz.underlying259, s259, h259]
theorem tyok259 : TyOK Tryz.prog 259 tyi259 := tyOf (hl := lv259)
def tyi260 : TyI := ⟨true, 32, 32, false, false, false, none, none, some (16, 259), [.int .u8 0, .int .u8 0, .int .u8 0, .int .u8 0, .int .u8 0, .int .u8 0, .int .u8 0, .int .u8 0, .int .u8 0, .int .u8 0, .int .u8 0, .int .u8 0, .int .u8 0, .int .u8 0, .int .u8 0, .int .u8 0, .int .u8 0, .int .u8 0, .int .u8 0, .int .u8 0, .int .u8 0, .int .u8 0, .int .u8 0, .int .u8 0, .int .u8 0, .int .u8 0, .int .u8 0, .int .u8 0, .int .u8 0, .int .u8 0, .int .u8 0, .int .u8 0], none, [], some [.i, .i, .i, .i, .i, .i, .i, .i, .i, .i, .i, .i, .i, .i, .i, .i, .i, .i, .i, .i, .i, .i, .i, .i, .i, .i, .i, .i, .i, .i, .i, .i]⟩
theorem lv260 : leavesT Tryz.prog 8 260 = some [.i, .i, .i, .i, .i, .i, .i, .i, .i, .i, .i, .i, .i, .i, .i, .i, .i, .i, .i, .i, .i, .i, .i, .i, .i, .i, .i, .i, .i, .i, .i, .i] := by
 have h259 : Tryz.prog.stoodInHeld 259 = false := by kernel_rfl
 have s5 : szOf Tryz.prog 5 = 1 := by kernel_rfl
 have s259 : szOf Tryz.prog 259 = 2 := by kernel_rfl
 have s260 : szOf Tryz.prog 260 = 32 := by kernel_rfl
 simp [leavesT, leavesT.go, Tryz.underlying5, s5, Tryz.underlying259, s259, Tryz.underlying260, s260, h259]
theorem tyok260 : TyOK Tryz.prog 260 tyi260 := tyOf (hl := lv260)
def tyL : List (Option TyI) := [none, none, none, some tyi3, some tyi4, some tyi5, none, none, none, some tyi9, none, none, some tyi12, none, none, none, none, none, none, none, none, some tyi21, none, none, none, none, none, none, some tyi28, some tyi29, none, some tyi31, some tyi32, some tyi33, none, some tyi35, some tyi36, none, none, none, none, none, none, none, none, some tyi45, none, some tyi47, none, some tyi49, none, none, none, none, none, none, none, none, none, none, none, some tyi61, none, none, none, none, none, none, none, none, none, none, none, none, none, none, none, none, none, none, none, none, none, none, none, none, none, none, none, none, none, none, none, none, none, some tyi95, some tyi96, none, some tyi98, none, none, none, none, none, none, none, none, none, none, none, none, none, none, none, none, none, none, none, none, none, none, some tyi121, none, none, none, none, none, none, none, none, none, none, none, none, none, none, none, none, none, none, none, none, none, some tyi143, none, none, some tyi146, some tyi147, none, none, none, none, none, none, some tyi154, none, none, none, none, none, none, none, none, none, none, none, none, none, none, none, none, none, none, none, none, none, none, none, none, none, none, none, none, none, none, none, none, none, none, none, none, none, none, none, none, none, none, none, none, none, none, none, none, none, none, none, none, none, none, none, none, none, none, none, none, none, none, none, none, none, none, none, none, none, none, none, none, none, none, none, none, none, none, none, none, none, none, none, none, none, none, none, none, none, none, none, none, none, none, none, none, none, none, none, none, none, none, some tyi257, none, some tyi259, some tyi260, none, none, none, none, none, none, none, none, none, none, none, none, none, none, none, none, none, none, none, none, none, none, none, none, none, none, none, none, none, none, none, none, none, none, none, none, none, none, none, none, none, none, none, none, none, none, none, none, none, none, none, none, none, none, none, none, none, none, none, none, none, none, none, none, none, none, none, none, none, none, none, none, none, none, none, none, none, none, none, none, none, none, none, none, none, none, none, none, none, none, none, none, none, none, none, none, none, none]
theorem tyL_ok : TyOKs Tryz.prog 0 tyL := ⟨tyok3, ⟨tyok4, ⟨tyok5, ⟨tyok9, ⟨tyok12, ⟨tyok21, ⟨tyok28, ⟨tyok29, ⟨tyok31, ⟨tyok32, ⟨tyok33, ⟨tyok35, ⟨tyok36, ⟨tyok45, ⟨tyok47, ⟨tyok49, ⟨tyok61, ⟨tyok95, ⟨tyok96, ⟨tyok98, ⟨tyok121, ⟨tyok143, ⟨tyok146, ⟨tyok147, ⟨tyok154, ⟨tyok257, ⟨tyok259, ⟨tyok260, trivial⟩⟩⟩⟩⟩⟩⟩⟩⟩⟩⟩⟩⟩⟩⟩⟩⟩⟩⟩⟩⟩⟩⟩⟩⟩⟩⟩⟩
end Go.Proofs.YtaajfbcopafkaaaGreatDoor.Ai
