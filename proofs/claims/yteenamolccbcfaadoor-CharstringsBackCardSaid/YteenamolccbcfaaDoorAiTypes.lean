/- What the abstract operations ask of each type of the seat. Own work, printed. -/
import Derived.Test.YteenamolccbcfaaDoorAiSymG
import Derived.Test.YteenamolccbcfaaDoorChecked
namespace Go.Proofs.YteenamolccbcfaaDoor.Ai
open Go
set_option maxRecDepth 10000
set_option linter.unusedSimpArgs false
def tyi1 : TyI := ⟨false, 1, 8, false, false, true, none, none, none, [.nilfunc], none, [], none⟩
theorem tyok1 : TyOK Tryd.prog 1 tyi1 := ⟨by kernel_rfl, by kernel_rfl, by kernel_rfl, by kernel_rfl, by kernel_rfl, by kernel_rfl, by kernel_rfl, by kernel_rfl, by kernel_rfl, by kernel_rfl, by kernel_rfl, by kernel_rfl, by kernel_rfl, (by
    intro n x h
    cases h), (by intro l h; cases h)⟩
def tyi2 : TyI := ⟨false, 1, 8, false, false, false, some .i64, none, none, [.int .i64 0], none, [], none⟩
theorem tyok2 : TyOK Tryd.prog 2 tyi2 := ⟨by kernel_rfl, by kernel_rfl, by kernel_rfl, by kernel_rfl, by kernel_rfl, by kernel_rfl, by kernel_rfl, by kernel_rfl, by kernel_rfl, by kernel_rfl, by kernel_rfl, by kernel_rfl, by kernel_rfl, (by
    intro n x h
    cases h), (by intro l h; cases h)⟩
def tyi3 : TyI := ⟨false, 1, 8, false, false, false, some .i64, none, none, [.int .i64 0], none, [], none⟩
theorem tyok3 : TyOK Tryd.prog 3 tyi3 := ⟨by kernel_rfl, by kernel_rfl, by kernel_rfl, by kernel_rfl, by kernel_rfl, by kernel_rfl, by kernel_rfl, by kernel_rfl, by kernel_rfl, by kernel_rfl, by kernel_rfl, by kernel_rfl, by kernel_rfl, (by
    intro n x h
    cases h), (by intro l h; cases h)⟩
def tyi4 : TyI := ⟨false, 1, 1, false, true, false, none, none, none, [.bool false], none, [], none⟩
theorem tyok4 : TyOK Tryd.prog 4 tyi4 := ⟨by kernel_rfl, by kernel_rfl, by kernel_rfl, by kernel_rfl, by kernel_rfl, by kernel_rfl, by kernel_rfl, by kernel_rfl, by kernel_rfl, by kernel_rfl, by kernel_rfl, by kernel_rfl, by kernel_rfl, (by
    intro n x h
    cases h), (by intro l h; cases h)⟩
def tyi5 : TyI := ⟨false, 1, 1, false, false, false, some .u8, none, none, [.int .u8 0], none, [], none⟩
theorem tyok5 : TyOK Tryd.prog 5 tyi5 := ⟨by kernel_rfl, by kernel_rfl, by kernel_rfl, by kernel_rfl, by kernel_rfl, by kernel_rfl, by kernel_rfl, by kernel_rfl, by kernel_rfl, by kernel_rfl, by kernel_rfl, by kernel_rfl, by kernel_rfl, (by
    intro n x h
    cases h), (by intro l h; cases h)⟩
def tyi6 : TyI := ⟨false, 1, 1, false, false, false, some .u8, none, none, [.int .u8 0], none, [], none⟩
theorem tyok6 : TyOK Tryd.prog 6 tyi6 := ⟨by kernel_rfl, by kernel_rfl, by kernel_rfl, by kernel_rfl, by kernel_rfl, by kernel_rfl, by kernel_rfl, by kernel_rfl, by kernel_rfl, by kernel_rfl, by kernel_rfl, by kernel_rfl, by kernel_rfl, (by
    intro n x h
    cases h), (by intro l h; cases h)⟩
def tyi7 : TyI := ⟨true, 4, 24, false, false, false, none, none, none, [.int .i64 0, .int .i64 0, .bool false, .int .u8 0], some [(0, 1), (1, 1), (2, 1), (3, 1)], [(0, 2), (1, 3), (2, 4), (3, 6)], some [.i, .i, .b, .i]⟩
theorem lv7 : leavesT Tryd.prog 8 7 = some [.i, .i, .b, .i] := by
  have h7 : Tryd.prog.stoodInHeld 7 = false := by kernel_rfl
  have s2 : szOf Tryd.prog 2 = 1 := by kernel_rfl
  have s3 : szOf Tryd.prog 3 = 1 := by kernel_rfl
  have s4 : szOf Tryd.prog 4 = 1 := by kernel_rfl
  have s6 : szOf Tryd.prog 6 = 1 := by kernel_rfl
  have s7 : szOf Tryd.prog 7 = 4 := by kernel_rfl
  simp [leavesT, leavesT.go, Tryd.underlying2, s2, Tryd.underlying3, s3, Tryd.underlying4, s4, Tryd.underlying6, s6, Tryd.underlying7, s7, h7]
theorem tyok7 : TyOK Tryd.prog 7 tyi7 := ⟨by kernel_rfl, by kernel_rfl, by kernel_rfl, by kernel_rfl, by kernel_rfl, by kernel_rfl, by kernel_rfl, by kernel_rfl, by kernel_rfl, by kernel_rfl, by kernel_rfl, by kernel_rfl, by kernel_rfl, (by
    intro n x h
    cases n with
    | zero => cases h; kernel_rfl
    | succ n =>
    cases n with
    | zero => cases h; kernel_rfl
    | succ n =>
    cases n with
    | zero => cases h; kernel_rfl
    | succ n =>
    cases n with
    | zero => cases h; kernel_rfl
    | succ n =>
    cases h), (by intro l h; cases h; exact lv7)⟩
def tyi8 : TyI := ⟨true, 4, 24, false, false, false, none, none, none, [.int .i64 0, .int .i64 0, .bool false, .int .u8 0], some [(0, 1), (1, 1), (2, 1), (3, 1)], [(0, 2), (1, 3), (2, 4), (3, 6)], some [.i, .i, .b, .i]⟩
theorem lv8 : leavesT Tryd.prog 8 8 = some [.i, .i, .b, .i] := by
  have h8 : Tryd.prog.stoodInHeld 8 = false := by kernel_rfl
  have s2 : szOf Tryd.prog 2 = 1 := by kernel_rfl
  have s3 : szOf Tryd.prog 3 = 1 := by kernel_rfl
  have s4 : szOf Tryd.prog 4 = 1 := by kernel_rfl
  have s6 : szOf Tryd.prog 6 = 1 := by kernel_rfl
  have s8 : szOf Tryd.prog 8 = 4 := by kernel_rfl
  simp [leavesT, leavesT.go, Tryd.underlying2, s2, Tryd.underlying3, s3, Tryd.underlying4, s4, Tryd.underlying6, s6, Tryd.underlying8, s8, h8]
theorem tyok8 : TyOK Tryd.prog 8 tyi8 := ⟨by kernel_rfl, by kernel_rfl, by kernel_rfl, by kernel_rfl, by kernel_rfl, by kernel_rfl, by kernel_rfl, by kernel_rfl, by kernel_rfl, by kernel_rfl, by kernel_rfl, by kernel_rfl, by kernel_rfl, (by
    intro n x h
    cases n with
    | zero => cases h; kernel_rfl
    | succ n =>
    cases n with
    | zero => cases h; kernel_rfl
    | succ n =>
    cases n with
    | zero => cases h; kernel_rfl
    | succ n =>
    cases n with
    | zero => cases h; kernel_rfl
    | succ n =>
    cases h), (by intro l h; cases h; exact lv8)⟩
def tyi9 : TyI := ⟨false, 1, 16, true, false, false, none, none, none, [.str []], none, [], none⟩
theorem tyok9 : TyOK Tryd.prog 9 tyi9 := ⟨by kernel_rfl, by kernel_rfl, by kernel_rfl, by kernel_rfl, by kernel_rfl, by kernel_rfl, by kernel_rfl, by kernel_rfl, by kernel_rfl, by kernel_rfl, by kernel_rfl, by kernel_rfl, by kernel_rfl, (by
    intro n x h
    cases h), (by intro l h; cases h)⟩
def tyi10 : TyI := ⟨false, 1, 16, true, false, false, none, none, none, [.str []], none, [], none⟩
theorem tyok10 : TyOK Tryd.prog 10 tyi10 := ⟨by kernel_rfl, by kernel_rfl, by kernel_rfl, by kernel_rfl, by kernel_rfl, by kernel_rfl, by kernel_rfl, by kernel_rfl, by kernel_rfl, by kernel_rfl, by kernel_rfl, by kernel_rfl, by kernel_rfl, (by
    intro n x h
    cases h), (by intro l h; cases h)⟩
def tyi11 : TyI := ⟨false, 1, 16, true, false, false, none, none, none, [.str []], none, [], none⟩
theorem tyok11 : TyOK Tryd.prog 11 tyi11 := ⟨by kernel_rfl, by kernel_rfl, by kernel_rfl, by kernel_rfl, by kernel_rfl, by kernel_rfl, by kernel_rfl, by kernel_rfl, by kernel_rfl, by kernel_rfl, by kernel_rfl, by kernel_rfl, by kernel_rfl, (by
    intro n x h
    cases h), (by intro l h; cases h)⟩
def tyi12 : TyI := ⟨false, 1, 8, false, false, false, some .u64, none, none, [.int .u64 0], none, [], none⟩
theorem tyok12 : TyOK Tryd.prog 12 tyi12 := ⟨by kernel_rfl, by kernel_rfl, by kernel_rfl, by kernel_rfl, by kernel_rfl, by kernel_rfl, by kernel_rfl, by kernel_rfl, by kernel_rfl, by kernel_rfl, by kernel_rfl, by kernel_rfl, by kernel_rfl, (by
    intro n x h
    cases h), (by intro l h; cases h)⟩
def tyi13 : TyI := ⟨true, 2, 24, false, false, false, none, none, none, [.str [], .int .u64 0], some [(0, 1), (1, 1)], [(0, 9), (1, 12)], none⟩
theorem tyok13 : TyOK Tryd.prog 13 tyi13 := ⟨by kernel_rfl, by kernel_rfl, by kernel_rfl, by kernel_rfl, by kernel_rfl, by kernel_rfl, by kernel_rfl, by kernel_rfl, by kernel_rfl, by kernel_rfl, by kernel_rfl, by kernel_rfl, by kernel_rfl, (by
    intro n x h
    cases n with
    | zero => cases h; kernel_rfl
    | succ n =>
    cases n with
    | zero => cases h; kernel_rfl
    | succ n =>
    cases h), (by intro l h; cases h)⟩
def tyi14 : TyI := ⟨true, 2, 24, false, false, false, none, none, none, [.str [], .int .u64 0], some [(0, 1), (1, 1)], [(0, 9), (1, 12)], none⟩
theorem tyok14 : TyOK Tryd.prog 14 tyi14 := ⟨by kernel_rfl, by kernel_rfl, by kernel_rfl, by kernel_rfl, by kernel_rfl, by kernel_rfl, by kernel_rfl, by kernel_rfl, by kernel_rfl, by kernel_rfl, by kernel_rfl, by kernel_rfl, by kernel_rfl, (by
    intro n x h
    cases n with
    | zero => cases h; kernel_rfl
    | succ n =>
    cases n with
    | zero => cases h; kernel_rfl
    | succ n =>
    cases h), (by intro l h; cases h)⟩
def tyi15 : TyI := ⟨false, 1, 8, false, false, false, none, none, none, [.nilptr], none, [], none⟩
theorem tyok15 : TyOK Tryd.prog 15 tyi15 := ⟨by kernel_rfl, by kernel_rfl, by kernel_rfl, by kernel_rfl, by kernel_rfl, by kernel_rfl, by kernel_rfl, by kernel_rfl, by kernel_rfl, by kernel_rfl, by kernel_rfl, by kernel_rfl, by kernel_rfl, (by
    intro n x h
    cases h), (by intro l h; cases h)⟩
def tyi16 : TyI := ⟨false, 1, 8, false, false, false, none, none, none, [.nilptr], none, [], none⟩
theorem tyok16 : TyOK Tryd.prog 16 tyi16 := ⟨by kernel_rfl, by kernel_rfl, by kernel_rfl, by kernel_rfl, by kernel_rfl, by kernel_rfl, by kernel_rfl, by kernel_rfl, by kernel_rfl, by kernel_rfl, by kernel_rfl, by kernel_rfl, by kernel_rfl, (by
    intro n x h
    cases h), (by intro l h; cases h)⟩
def tyi17 : TyI := ⟨false, 1, 8, false, false, false, none, none, none, [.nilptr], none, [], none⟩
theorem tyok17 : TyOK Tryd.prog 17 tyi17 := ⟨by kernel_rfl, by kernel_rfl, by kernel_rfl, by kernel_rfl, by kernel_rfl, by kernel_rfl, by kernel_rfl, by kernel_rfl, by kernel_rfl, by kernel_rfl, by kernel_rfl, by kernel_rfl, by kernel_rfl, (by
    intro n x h
    cases h), (by intro l h; cases h)⟩
def tyi18 : TyI := ⟨true, 1, 8, false, false, false, none, none, none, [.nilptr], some [(0, 1)], [(0, 17)], none⟩
theorem tyok18 : TyOK Tryd.prog 18 tyi18 := ⟨by kernel_rfl, by kernel_rfl, by kernel_rfl, by kernel_rfl, by kernel_rfl, by kernel_rfl, by kernel_rfl, by kernel_rfl, by kernel_rfl, by kernel_rfl, by kernel_rfl, by kernel_rfl, by kernel_rfl, (by
    intro n x h
    cases n with
    | zero => cases h; kernel_rfl
    | succ n =>
    cases h), (by intro l h; cases h)⟩
def tyi19 : TyI := ⟨true, 1, 8, false, false, false, none, none, none, [.nilptr], some [(0, 1)], [(0, 17)], none⟩
theorem tyok19 : TyOK Tryd.prog 19 tyi19 := ⟨by kernel_rfl, by kernel_rfl, by kernel_rfl, by kernel_rfl, by kernel_rfl, by kernel_rfl, by kernel_rfl, by kernel_rfl, by kernel_rfl, by kernel_rfl, by kernel_rfl, by kernel_rfl, by kernel_rfl, (by
    intro n x h
    cases n with
    | zero => cases h; kernel_rfl
    | succ n =>
    cases h), (by intro l h; cases h)⟩
def tyi20 : TyI := ⟨false, 1, 16, false, false, false, none, none, none, [.nilif], none, [], none⟩
theorem tyok20 : TyOK Tryd.prog 20 tyi20 := ⟨by kernel_rfl, by kernel_rfl, by kernel_rfl, by kernel_rfl, by kernel_rfl, by kernel_rfl, by kernel_rfl, by kernel_rfl, by kernel_rfl, by kernel_rfl, by kernel_rfl, by kernel_rfl, by kernel_rfl, (by
    intro n x h
    cases h), (by intro l h; cases h)⟩
def tyi21 : TyI := ⟨false, 1, 4, false, false, false, some .i32, none, none, [.int .i32 0], none, [], none⟩
theorem tyok21 : TyOK Tryd.prog 21 tyi21 := ⟨by kernel_rfl, by kernel_rfl, by kernel_rfl, by kernel_rfl, by kernel_rfl, by kernel_rfl, by kernel_rfl, by kernel_rfl, by kernel_rfl, by kernel_rfl, by kernel_rfl, by kernel_rfl, by kernel_rfl, (by
    intro n x h
    cases h), (by intro l h; cases h)⟩
def tyi22 : TyI := ⟨false, 1, 4, false, false, false, some .u32, none, none, [.int .u32 0], none, [], none⟩
theorem tyok22 : TyOK Tryd.prog 22 tyi22 := ⟨by kernel_rfl, by kernel_rfl, by kernel_rfl, by kernel_rfl, by kernel_rfl, by kernel_rfl, by kernel_rfl, by kernel_rfl, by kernel_rfl, by kernel_rfl, by kernel_rfl, by kernel_rfl, by kernel_rfl, (by
    intro n x h
    cases h), (by intro l h; cases h)⟩
def tyi23 : TyI := ⟨false, 1, 24, false, false, false, none, some 5, none, [.slc 0 [] (some 0)], none, [], none⟩
theorem tyok23 : TyOK Tryd.prog 23 tyi23 := ⟨by kernel_rfl, by kernel_rfl, by kernel_rfl, by kernel_rfl, by kernel_rfl, by kernel_rfl, by kernel_rfl, by kernel_rfl, by kernel_rfl, by kernel_rfl, by kernel_rfl, by kernel_rfl, by kernel_rfl, (by
    intro n x h
    cases h), (by intro l h; cases h)⟩
def tyi24 : TyI := ⟨false, 1, 8, false, false, true, none, none, none, [.nilfunc], none, [], none⟩
theorem tyok24 : TyOK Tryd.prog 24 tyi24 := ⟨by kernel_rfl, by kernel_rfl, by kernel_rfl, by kernel_rfl, by kernel_rfl, by kernel_rfl, by kernel_rfl, by kernel_rfl, by kernel_rfl, by kernel_rfl, by kernel_rfl, by kernel_rfl, by kernel_rfl, (by
    intro n x h
    cases h), (by intro l h; cases h)⟩
def tyi25 : TyI := ⟨true, 2, 24, false, false, false, none, none, none, [.int .u32 0, .str []], some [(0, 1), (1, 1)], [(0, 22), (1, 9)], some [.i, .s]⟩
theorem lv25 : leavesT Tryd.prog 8 25 = some [.i, .s] := by
  have h25 : Tryd.prog.stoodInHeld 25 = false := by kernel_rfl
  have s9 : szOf Tryd.prog 9 = 1 := by kernel_rfl
  have s22 : szOf Tryd.prog 22 = 1 := by kernel_rfl
  have s25 : szOf Tryd.prog 25 = 2 := by kernel_rfl
  simp [leavesT, leavesT.go, Tryd.underlying9, s9, Tryd.underlying22, s22, Tryd.underlying25, s25, h25]
theorem tyok25 : TyOK Tryd.prog 25 tyi25 := ⟨by kernel_rfl, by kernel_rfl, by kernel_rfl, by kernel_rfl, by kernel_rfl, by kernel_rfl, by kernel_rfl, by kernel_rfl, by kernel_rfl, by kernel_rfl, by kernel_rfl, by kernel_rfl, by kernel_rfl, (by
    intro n x h
    cases n with
    | zero => cases h; kernel_rfl
    | succ n =>
    cases n with
    | zero => cases h; kernel_rfl
    | succ n =>
    cases h), (by intro l h; cases h; exact lv25)⟩
def tyi26 : TyI := ⟨true, 2, 24, false, false, false, none, none, none, [.int .u32 0, .str []], some [(0, 1), (1, 1)], [(0, 22), (1, 9)], some [.i, .s]⟩
theorem lv26 : leavesT Tryd.prog 8 26 = some [.i, .s] := by
  have h26 : Tryd.prog.stoodInHeld 26 = false := by kernel_rfl
  have s9 : szOf Tryd.prog 9 = 1 := by kernel_rfl
  have s22 : szOf Tryd.prog 22 = 1 := by kernel_rfl
  have s26 : szOf Tryd.prog 26 = 2 := by kernel_rfl
  simp [leavesT, leavesT.go, Tryd.underlying9, s9, Tryd.underlying22, s22, Tryd.underlying26, s26, h26]
theorem tyok26 : TyOK Tryd.prog 26 tyi26 := ⟨by kernel_rfl, by kernel_rfl, by kernel_rfl, by kernel_rfl, by kernel_rfl, by kernel_rfl, by kernel_rfl, by kernel_rfl, by kernel_rfl, by kernel_rfl, by kernel_rfl, by kernel_rfl, by kernel_rfl, (by
    intro n x h
    cases n with
    | zero => cases h; kernel_rfl
    | succ n =>
    cases n with
    | zero => cases h; kernel_rfl
    | succ n =>
    cases h), (by intro l h; cases h; exact lv26)⟩
def tyi28 : TyI := ⟨false, 1, 8, false, false, true, none, none, none, [.nilfunc], none, [], none⟩
theorem tyok28 : TyOK Tryd.prog 28 tyi28 := ⟨by kernel_rfl, by kernel_rfl, by kernel_rfl, by kernel_rfl, by kernel_rfl, by kernel_rfl, by kernel_rfl, by kernel_rfl, by kernel_rfl, by kernel_rfl, by kernel_rfl, by kernel_rfl, by kernel_rfl, (by
    intro n x h
    cases h), (by intro l h; cases h)⟩
def tyi29 : TyI := ⟨false, 1, 8, false, false, true, none, none, none, [.nilfunc], none, [], none⟩
theorem tyok29 : TyOK Tryd.prog 29 tyi29 := ⟨by kernel_rfl, by kernel_rfl, by kernel_rfl, by kernel_rfl, by kernel_rfl, by kernel_rfl, by kernel_rfl, by kernel_rfl, by kernel_rfl, by kernel_rfl, by kernel_rfl, by kernel_rfl, by kernel_rfl, (by
    intro n x h
    cases h), (by intro l h; cases h)⟩
def tyi30 : TyI := ⟨false, 1, 8, false, false, false, some .i64, none, none, [.int .i64 0], none, [], none⟩
theorem tyok30 : TyOK Tryd.prog 30 tyi30 := ⟨by kernel_rfl, by kernel_rfl, by kernel_rfl, by kernel_rfl, by kernel_rfl, by kernel_rfl, by kernel_rfl, by kernel_rfl, by kernel_rfl, by kernel_rfl, by kernel_rfl, by kernel_rfl, by kernel_rfl, (by
    intro n x h
    cases h), (by intro l h; cases h)⟩
def tyi32 : TyI := ⟨false, 1, 8, false, false, true, none, none, none, [.nilfunc], none, [], none⟩
theorem tyok32 : TyOK Tryd.prog 32 tyi32 := ⟨by kernel_rfl, by kernel_rfl, by kernel_rfl, by kernel_rfl, by kernel_rfl, by kernel_rfl, by kernel_rfl, by kernel_rfl, by kernel_rfl, by kernel_rfl, by kernel_rfl, by kernel_rfl, by kernel_rfl, (by
    intro n x h
    cases h), (by intro l h; cases h)⟩
def tyi33 : TyI := ⟨false, 1, 8, false, false, true, none, none, none, [.nilfunc], none, [], none⟩
theorem tyok33 : TyOK Tryd.prog 33 tyi33 := ⟨by kernel_rfl, by kernel_rfl, by kernel_rfl, by kernel_rfl, by kernel_rfl, by kernel_rfl, by kernel_rfl, by kernel_rfl, by kernel_rfl, by kernel_rfl, by kernel_rfl, by kernel_rfl, by kernel_rfl, (by
    intro n x h
    cases h), (by intro l h; cases h)⟩
def tyi34 : TyI := ⟨false, 1, 8, false, false, true, none, none, none, [.nilfunc], none, [], none⟩
theorem tyok34 : TyOK Tryd.prog 34 tyi34 := ⟨by kernel_rfl, by kernel_rfl, by kernel_rfl, by kernel_rfl, by kernel_rfl, by kernel_rfl, by kernel_rfl, by kernel_rfl, by kernel_rfl, by kernel_rfl, by kernel_rfl, by kernel_rfl, by kernel_rfl, (by
    intro n x h
    cases h), (by intro l h; cases h)⟩
def tyi35 : TyI := ⟨false, 1, 24, false, false, false, none, some 22, none, [.slc 0 [] (some 0)], none, [], none⟩
theorem tyok35 : TyOK Tryd.prog 35 tyi35 := ⟨by kernel_rfl, by kernel_rfl, by kernel_rfl, by kernel_rfl, by kernel_rfl, by kernel_rfl, by kernel_rfl, by kernel_rfl, by kernel_rfl, by kernel_rfl, by kernel_rfl, by kernel_rfl, by kernel_rfl, (by
    intro n x h
    cases h), (by intro l h; cases h)⟩
def tyi36 : TyI := ⟨true, 2, 32, false, false, false, none, none, none, [.int .u8 0, .slc 0 [] (some 0)], some [(0, 1), (1, 1)], [(0, 5), (1, 35)], none⟩
theorem tyok36 : TyOK Tryd.prog 36 tyi36 := ⟨by kernel_rfl, by kernel_rfl, by kernel_rfl, by kernel_rfl, by kernel_rfl, by kernel_rfl, by kernel_rfl, by kernel_rfl, by kernel_rfl, by kernel_rfl, by kernel_rfl, by kernel_rfl, by kernel_rfl, (by
    intro n x h
    cases n with
    | zero => cases h; kernel_rfl
    | succ n =>
    cases n with
    | zero => cases h; kernel_rfl
    | succ n =>
    cases h), (by intro l h; cases h)⟩
def tyi37 : TyI := ⟨true, 2, 32, false, false, false, none, none, none, [.int .u8 0, .slc 0 [] (some 0)], some [(0, 1), (1, 1)], [(0, 5), (1, 35)], none⟩
theorem tyok37 : TyOK Tryd.prog 37 tyi37 := ⟨by kernel_rfl, by kernel_rfl, by kernel_rfl, by kernel_rfl, by kernel_rfl, by kernel_rfl, by kernel_rfl, by kernel_rfl, by kernel_rfl, by kernel_rfl, by kernel_rfl, by kernel_rfl, by kernel_rfl, (by
    intro n x h
    cases n with
    | zero => cases h; kernel_rfl
    | succ n =>
    cases n with
    | zero => cases h; kernel_rfl
    | succ n =>
    cases h), (by intro l h; cases h)⟩
def tyi38 : TyI := ⟨false, 1, 8, false, false, true, none, none, none, [.nilfunc], none, [], none⟩
theorem tyok38 : TyOK Tryd.prog 38 tyi38 := ⟨by kernel_rfl, by kernel_rfl, by kernel_rfl, by kernel_rfl, by kernel_rfl, by kernel_rfl, by kernel_rfl, by kernel_rfl, by kernel_rfl, by kernel_rfl, by kernel_rfl, by kernel_rfl, by kernel_rfl, (by
    intro n x h
    cases h), (by intro l h; cases h)⟩
def tyi39 : TyI := ⟨false, 1, 8, false, false, true, none, none, none, [.nilfunc], none, [], none⟩
theorem tyok39 : TyOK Tryd.prog 39 tyi39 := ⟨by kernel_rfl, by kernel_rfl, by kernel_rfl, by kernel_rfl, by kernel_rfl, by kernel_rfl, by kernel_rfl, by kernel_rfl, by kernel_rfl, by kernel_rfl, by kernel_rfl, by kernel_rfl, by kernel_rfl, (by
    intro n x h
    cases h), (by intro l h; cases h)⟩
def tyi40 : TyI := ⟨false, 1, 8, false, false, true, none, none, none, [.nilfunc], none, [], none⟩
theorem tyok40 : TyOK Tryd.prog 40 tyi40 := ⟨by kernel_rfl, by kernel_rfl, by kernel_rfl, by kernel_rfl, by kernel_rfl, by kernel_rfl, by kernel_rfl, by kernel_rfl, by kernel_rfl, by kernel_rfl, by kernel_rfl, by kernel_rfl, by kernel_rfl, (by
    intro n x h
    cases h), (by intro l h; cases h)⟩
def tyi41 : TyI := ⟨false, 1, 8, false, false, true, none, none, none, [.nilfunc], none, [], none⟩
theorem tyok41 : TyOK Tryd.prog 41 tyi41 := ⟨by kernel_rfl, by kernel_rfl, by kernel_rfl, by kernel_rfl, by kernel_rfl, by kernel_rfl, by kernel_rfl, by kernel_rfl, by kernel_rfl, by kernel_rfl, by kernel_rfl, by kernel_rfl, by kernel_rfl, (by
    intro n x h
    cases h), (by intro l h; cases h)⟩
def tyi42 : TyI := ⟨false, 1, 8, false, false, true, none, none, none, [.nilfunc], none, [], none⟩
theorem tyok42 : TyOK Tryd.prog 42 tyi42 := ⟨by kernel_rfl, by kernel_rfl, by kernel_rfl, by kernel_rfl, by kernel_rfl, by kernel_rfl, by kernel_rfl, by kernel_rfl, by kernel_rfl, by kernel_rfl, by kernel_rfl, by kernel_rfl, by kernel_rfl, (by
    intro n x h
    cases h), (by intro l h; cases h)⟩
def tyi43 : TyI := ⟨false, 1, 8, false, false, true, none, none, none, [.nilfunc], none, [], none⟩
theorem tyok43 : TyOK Tryd.prog 43 tyi43 := ⟨by kernel_rfl, by kernel_rfl, by kernel_rfl, by kernel_rfl, by kernel_rfl, by kernel_rfl, by kernel_rfl, by kernel_rfl, by kernel_rfl, by kernel_rfl, by kernel_rfl, by kernel_rfl, by kernel_rfl, (by
    intro n x h
    cases h), (by intro l h; cases h)⟩
def tyi45 : TyI := ⟨false, 1, 8, false, false, true, none, none, none, [.nilfunc], none, [], none⟩
theorem tyok45 : TyOK Tryd.prog 45 tyi45 := ⟨by kernel_rfl, by kernel_rfl, by kernel_rfl, by kernel_rfl, by kernel_rfl, by kernel_rfl, by kernel_rfl, by kernel_rfl, by kernel_rfl, by kernel_rfl, by kernel_rfl, by kernel_rfl, by kernel_rfl, (by
    intro n x h
    cases h), (by intro l h; cases h)⟩
def tyi46 : TyI := ⟨false, 1, 8, false, false, true, none, none, none, [.nilfunc], none, [], none⟩
theorem tyok46 : TyOK Tryd.prog 46 tyi46 := ⟨by kernel_rfl, by kernel_rfl, by kernel_rfl, by kernel_rfl, by kernel_rfl, by kernel_rfl, by kernel_rfl, by kernel_rfl, by kernel_rfl, by kernel_rfl, by kernel_rfl, by kernel_rfl, by kernel_rfl, (by
    intro n x h
    cases h), (by intro l h; cases h)⟩
def tyi47 : TyI := ⟨true, 4, 64, false, false, false, none, none, some (2, 37), [.int .u8 0, .slc 0 [] (some 0), .int .u8 0, .slc 0 [] (some 0)], none, [], none⟩
theorem tyok47 : TyOK Tryd.prog 47 tyi47 := ⟨by kernel_rfl, by kernel_rfl, by kernel_rfl, by kernel_rfl, by kernel_rfl, by kernel_rfl, by kernel_rfl, by kernel_rfl, by kernel_rfl, by kernel_rfl, by kernel_rfl, by kernel_rfl, by kernel_rfl, (by
    intro n x h
    cases h), (by intro l h; cases h)⟩
def tyi48 : TyI := ⟨false, 1, 8, false, false, true, none, none, none, [.nilfunc], none, [], none⟩
theorem tyok48 : TyOK Tryd.prog 48 tyi48 := ⟨by kernel_rfl, by kernel_rfl, by kernel_rfl, by kernel_rfl, by kernel_rfl, by kernel_rfl, by kernel_rfl, by kernel_rfl, by kernel_rfl, by kernel_rfl, by kernel_rfl, by kernel_rfl, by kernel_rfl, (by
    intro n x h
    cases h), (by intro l h; cases h)⟩
def tyi49 : TyI := ⟨false, 1, 24, false, false, false, none, some 3, none, [.slc 0 [] (some 0)], none, [], none⟩
theorem tyok49 : TyOK Tryd.prog 49 tyi49 := ⟨by kernel_rfl, by kernel_rfl, by kernel_rfl, by kernel_rfl, by kernel_rfl, by kernel_rfl, by kernel_rfl, by kernel_rfl, by kernel_rfl, by kernel_rfl, by kernel_rfl, by kernel_rfl, by kernel_rfl, (by
    intro n x h
    cases h), (by intro l h; cases h)⟩
def tyi51 : TyI := ⟨false, 1, 8, false, false, true, none, none, none, [.nilfunc], none, [], none⟩
theorem tyok51 : TyOK Tryd.prog 51 tyi51 := ⟨by kernel_rfl, by kernel_rfl, by kernel_rfl, by kernel_rfl, by kernel_rfl, by kernel_rfl, by kernel_rfl, by kernel_rfl, by kernel_rfl, by kernel_rfl, by kernel_rfl, by kernel_rfl, by kernel_rfl, (by
    intro n x h
    cases h), (by intro l h; cases h)⟩
def tyi52 : TyI := ⟨false, 1, 8, false, false, true, none, none, none, [.nilfunc], none, [], none⟩
theorem tyok52 : TyOK Tryd.prog 52 tyi52 := ⟨by kernel_rfl, by kernel_rfl, by kernel_rfl, by kernel_rfl, by kernel_rfl, by kernel_rfl, by kernel_rfl, by kernel_rfl, by kernel_rfl, by kernel_rfl, by kernel_rfl, by kernel_rfl, by kernel_rfl, (by
    intro n x h
    cases h), (by intro l h; cases h)⟩
def tyi53 : TyI := ⟨false, 1, 8, false, false, true, none, none, none, [.nilfunc], none, [], none⟩
theorem tyok53 : TyOK Tryd.prog 53 tyi53 := ⟨by kernel_rfl, by kernel_rfl, by kernel_rfl, by kernel_rfl, by kernel_rfl, by kernel_rfl, by kernel_rfl, by kernel_rfl, by kernel_rfl, by kernel_rfl, by kernel_rfl, by kernel_rfl, by kernel_rfl, (by
    intro n x h
    cases h), (by intro l h; cases h)⟩
def tyi54 : TyI := ⟨false, 1, 1, false, false, false, some .u8, none, none, [.int .u8 0], none, [], none⟩
theorem tyok54 : TyOK Tryd.prog 54 tyi54 := ⟨by kernel_rfl, by kernel_rfl, by kernel_rfl, by kernel_rfl, by kernel_rfl, by kernel_rfl, by kernel_rfl, by kernel_rfl, by kernel_rfl, by kernel_rfl, by kernel_rfl, by kernel_rfl, by kernel_rfl, (by
    intro n x h
    cases h), (by intro l h; cases h)⟩
def tyi55 : TyI := ⟨true, 3, 8, false, false, false, none, none, none, [.int .u8 0, .bool false, .int .u32 0], some [(0, 1), (1, 1), (2, 1)], [(0, 54), (1, 4), (2, 22)], some [.i, .b, .i]⟩
theorem lv55 : leavesT Tryd.prog 8 55 = some [.i, .b, .i] := by
  have h55 : Tryd.prog.stoodInHeld 55 = false := by kernel_rfl
  have s4 : szOf Tryd.prog 4 = 1 := by kernel_rfl
  have s22 : szOf Tryd.prog 22 = 1 := by kernel_rfl
  have s54 : szOf Tryd.prog 54 = 1 := by kernel_rfl
  have s55 : szOf Tryd.prog 55 = 3 := by kernel_rfl
  simp [leavesT, leavesT.go, Tryd.underlying4, s4, Tryd.underlying22, s22, Tryd.underlying54, s54, Tryd.underlying55, s55, h55]
theorem tyok55 : TyOK Tryd.prog 55 tyi55 := ⟨by kernel_rfl, by kernel_rfl, by kernel_rfl, by kernel_rfl, by kernel_rfl, by kernel_rfl, by kernel_rfl, by kernel_rfl, by kernel_rfl, by kernel_rfl, by kernel_rfl, by kernel_rfl, by kernel_rfl, (by
    intro n x h
    cases n with
    | zero => cases h; kernel_rfl
    | succ n =>
    cases n with
    | zero => cases h; kernel_rfl
    | succ n =>
    cases n with
    | zero => cases h; kernel_rfl
    | succ n =>
    cases h), (by intro l h; cases h; exact lv55)⟩
def tyi56 : TyI := ⟨true, 3, 8, false, false, false, none, none, none, [.int .u8 0, .bool false, .int .u32 0], some [(0, 1), (1, 1), (2, 1)], [(0, 54), (1, 4), (2, 22)], some [.i, .b, .i]⟩
theorem lv56 : leavesT Tryd.prog 8 56 = some [.i, .b, .i] := by
  have h56 : Tryd.prog.stoodInHeld 56 = false := by kernel_rfl
  have s4 : szOf Tryd.prog 4 = 1 := by kernel_rfl
  have s22 : szOf Tryd.prog 22 = 1 := by kernel_rfl
  have s54 : szOf Tryd.prog 54 = 1 := by kernel_rfl
  have s56 : szOf Tryd.prog 56 = 3 := by kernel_rfl
  simp [leavesT, leavesT.go, Tryd.underlying4, s4, Tryd.underlying22, s22, Tryd.underlying54, s54, Tryd.underlying56, s56, h56]
theorem tyok56 : TyOK Tryd.prog 56 tyi56 := ⟨by kernel_rfl, by kernel_rfl, by kernel_rfl, by kernel_rfl, by kernel_rfl, by kernel_rfl, by kernel_rfl, by kernel_rfl, by kernel_rfl, by kernel_rfl, by kernel_rfl, by kernel_rfl, by kernel_rfl, (by
    intro n x h
    cases n with
    | zero => cases h; kernel_rfl
    | succ n =>
    cases n with
    | zero => cases h; kernel_rfl
    | succ n =>
    cases n with
    | zero => cases h; kernel_rfl
    | succ n =>
    cases h), (by intro l h; cases h; exact lv56)⟩
def tyi57 : TyI := ⟨false, 1, 24, false, false, false, none, some 59, none, [.slc 0 [] (some 0)], none, [], none⟩
theorem tyok57 : TyOK Tryd.prog 57 tyi57 := ⟨by kernel_rfl, by kernel_rfl, by kernel_rfl, by kernel_rfl, by kernel_rfl, by kernel_rfl, by kernel_rfl, by kernel_rfl, by kernel_rfl, by kernel_rfl, by kernel_rfl, by kernel_rfl, by kernel_rfl, (by
    intro n x h
    cases h), (by intro l h; cases h)⟩
def tyi58 : TyI := ⟨true, 5, 56, false, false, false, none, none, none, [.int .u8 0, .bool false, .int .u32 0, .slc 0 [] (some 0), .slc 0 [] (some 0)], some [(0, 3), (3, 1), (4, 1)], [(0, 56), (3, 23), (4, 57)], none⟩
theorem tyok58 : TyOK Tryd.prog 58 tyi58 := ⟨by kernel_rfl, by kernel_rfl, by kernel_rfl, by kernel_rfl, by kernel_rfl, by kernel_rfl, by kernel_rfl, by kernel_rfl, by kernel_rfl, by kernel_rfl, by kernel_rfl, by kernel_rfl, by kernel_rfl, (by
    intro n x h
    cases n with
    | zero => cases h; kernel_rfl
    | succ n =>
    cases n with
    | zero => cases h; kernel_rfl
    | succ n =>
    cases n with
    | zero => cases h; kernel_rfl
    | succ n =>
    cases h), (by intro l h; cases h)⟩
def tyi59 : TyI := ⟨true, 5, 56, false, false, false, none, none, none, [.int .u8 0, .bool false, .int .u32 0, .slc 0 [] (some 0), .slc 0 [] (some 0)], some [(0, 3), (3, 1), (4, 1)], [(0, 56), (3, 23), (4, 57)], none⟩
theorem tyok59 : TyOK Tryd.prog 59 tyi59 := ⟨by kernel_rfl, by kernel_rfl, by kernel_rfl, by kernel_rfl, by kernel_rfl, by kernel_rfl, by kernel_rfl, by kernel_rfl, by kernel_rfl, by kernel_rfl, by kernel_rfl, by kernel_rfl, by kernel_rfl, (by
    intro n x h
    cases n with
    | zero => cases h; kernel_rfl
    | succ n =>
    cases n with
    | zero => cases h; kernel_rfl
    | succ n =>
    cases n with
    | zero => cases h; kernel_rfl
    | succ n =>
    cases h), (by intro l h; cases h)⟩
def tyi61 : TyI := ⟨false, 1, 8, false, false, true, none, none, none, [.nilfunc], none, [], none⟩
theorem tyok61 : TyOK Tryd.prog 61 tyi61 := ⟨by kernel_rfl, by kernel_rfl, by kernel_rfl, by kernel_rfl, by kernel_rfl, by kernel_rfl, by kernel_rfl, by kernel_rfl, by kernel_rfl, by kernel_rfl, by kernel_rfl, by kernel_rfl, by kernel_rfl, (by
    intro n x h
    cases h), (by intro l h; cases h)⟩
def tyi62 : TyI := ⟨false, 1, 8, false, false, true, none, none, none, [.nilfunc], none, [], none⟩
theorem tyok62 : TyOK Tryd.prog 62 tyi62 := ⟨by kernel_rfl, by kernel_rfl, by kernel_rfl, by kernel_rfl, by kernel_rfl, by kernel_rfl, by kernel_rfl, by kernel_rfl, by kernel_rfl, by kernel_rfl, by kernel_rfl, by kernel_rfl, by kernel_rfl, (by
    intro n x h
    cases h), (by intro l h; cases h)⟩
def tyi63 : TyI := ⟨false, 1, 8, false, false, true, none, none, none, [.nilfunc], none, [], none⟩
theorem tyok63 : TyOK Tryd.prog 63 tyi63 := ⟨by kernel_rfl, by kernel_rfl, by kernel_rfl, by kernel_rfl, by kernel_rfl, by kernel_rfl, by kernel_rfl, by kernel_rfl, by kernel_rfl, by kernel_rfl, by kernel_rfl, by kernel_rfl, by kernel_rfl, (by
    intro n x h
    cases h), (by intro l h; cases h)⟩
def tyi64 : TyI := ⟨false, 1, 8, false, false, true, none, none, none, [.nilfunc], none, [], none⟩
theorem tyok64 : TyOK Tryd.prog 64 tyi64 := ⟨by kernel_rfl, by kernel_rfl, by kernel_rfl, by kernel_rfl, by kernel_rfl, by kernel_rfl, by kernel_rfl, by kernel_rfl, by kernel_rfl, by kernel_rfl, by kernel_rfl, by kernel_rfl, by kernel_rfl, (by
    intro n x h
    cases h), (by intro l h; cases h)⟩
def tyi65 : TyI := ⟨false, 1, 8, false, false, true, none, none, none, [.nilfunc], none, [], none⟩
theorem tyok65 : TyOK Tryd.prog 65 tyi65 := ⟨by kernel_rfl, by kernel_rfl, by kernel_rfl, by kernel_rfl, by kernel_rfl, by kernel_rfl, by kernel_rfl, by kernel_rfl, by kernel_rfl, by kernel_rfl, by kernel_rfl, by kernel_rfl, by kernel_rfl, (by
    intro n x h
    cases h), (by intro l h; cases h)⟩
def tyi66 : TyI := ⟨false, 1, 8, false, false, true, none, none, none, [.nilfunc], none, [], none⟩
theorem tyok66 : TyOK Tryd.prog 66 tyi66 := ⟨by kernel_rfl, by kernel_rfl, by kernel_rfl, by kernel_rfl, by kernel_rfl, by kernel_rfl, by kernel_rfl, by kernel_rfl, by kernel_rfl, by kernel_rfl, by kernel_rfl, by kernel_rfl, by kernel_rfl, (by
    intro n x h
    cases h), (by intro l h; cases h)⟩
def tyi67 : TyI := ⟨false, 1, 8, false, false, true, none, none, none, [.nilfunc], none, [], none⟩
theorem tyok67 : TyOK Tryd.prog 67 tyi67 := ⟨by kernel_rfl, by kernel_rfl, by kernel_rfl, by kernel_rfl, by kernel_rfl, by kernel_rfl, by kernel_rfl, by kernel_rfl, by kernel_rfl, by kernel_rfl, by kernel_rfl, by kernel_rfl, by kernel_rfl, (by
    intro n x h
    cases h), (by intro l h; cases h)⟩
def tyi68 : TyI := ⟨false, 1, 8, false, false, true, none, none, none, [.nilfunc], none, [], none⟩
theorem tyok68 : TyOK Tryd.prog 68 tyi68 := ⟨by kernel_rfl, by kernel_rfl, by kernel_rfl, by kernel_rfl, by kernel_rfl, by kernel_rfl, by kernel_rfl, by kernel_rfl, by kernel_rfl, by kernel_rfl, by kernel_rfl, by kernel_rfl, by kernel_rfl, (by
    intro n x h
    cases h), (by intro l h; cases h)⟩
def tyi69 : TyI := ⟨false, 1, 8, false, false, true, none, none, none, [.nilfunc], none, [], none⟩
theorem tyok69 : TyOK Tryd.prog 69 tyi69 := ⟨by kernel_rfl, by kernel_rfl, by kernel_rfl, by kernel_rfl, by kernel_rfl, by kernel_rfl, by kernel_rfl, by kernel_rfl, by kernel_rfl, by kernel_rfl, by kernel_rfl, by kernel_rfl, by kernel_rfl, (by
    intro n x h
    cases h), (by intro l h; cases h)⟩
def tyi70 : TyI := ⟨false, 1, 8, false, false, true, none, none, none, [.nilfunc], none, [], none⟩
theorem tyok70 : TyOK Tryd.prog 70 tyi70 := ⟨by kernel_rfl, by kernel_rfl, by kernel_rfl, by kernel_rfl, by kernel_rfl, by kernel_rfl, by kernel_rfl, by kernel_rfl, by kernel_rfl, by kernel_rfl, by kernel_rfl, by kernel_rfl, by kernel_rfl, (by
    intro n x h
    cases h), (by intro l h; cases h)⟩
def tyi71 : TyI := ⟨false, 1, 8, false, false, true, none, none, none, [.nilfunc], none, [], none⟩
theorem tyok71 : TyOK Tryd.prog 71 tyi71 := ⟨by kernel_rfl, by kernel_rfl, by kernel_rfl, by kernel_rfl, by kernel_rfl, by kernel_rfl, by kernel_rfl, by kernel_rfl, by kernel_rfl, by kernel_rfl, by kernel_rfl, by kernel_rfl, by kernel_rfl, (by
    intro n x h
    cases h), (by intro l h; cases h)⟩
def tyi72 : TyI := ⟨false, 1, 8, false, false, true, none, none, none, [.nilfunc], none, [], none⟩
theorem tyok72 : TyOK Tryd.prog 72 tyi72 := ⟨by kernel_rfl, by kernel_rfl, by kernel_rfl, by kernel_rfl, by kernel_rfl, by kernel_rfl, by kernel_rfl, by kernel_rfl, by kernel_rfl, by kernel_rfl, by kernel_rfl, by kernel_rfl, by kernel_rfl, (by
    intro n x h
    cases h), (by intro l h; cases h)⟩
def tyi73 : TyI := ⟨true, 3, 24, false, false, false, none, none, none, [.int .u32 0, .nilfunc, .nilfunc], some [(0, 1), (1, 1), (2, 1)], [(0, 22), (1, 71), (2, 72)], none⟩
theorem tyok73 : TyOK Tryd.prog 73 tyi73 := ⟨by kernel_rfl, by kernel_rfl, by kernel_rfl, by kernel_rfl, by kernel_rfl, by kernel_rfl, by kernel_rfl, by kernel_rfl, by kernel_rfl, by kernel_rfl, by kernel_rfl, by kernel_rfl, by kernel_rfl, (by
    intro n x h
    cases n with
    | zero => cases h; kernel_rfl
    | succ n =>
    cases n with
    | zero => cases h; kernel_rfl
    | succ n =>
    cases n with
    | zero => cases h; kernel_rfl
    | succ n =>
    cases h), (by intro l h; cases h)⟩
def tyi74 : TyI := ⟨true, 3, 24, false, false, false, none, none, none, [.int .u32 0, .nilfunc, .nilfunc], some [(0, 1), (1, 1), (2, 1)], [(0, 22), (1, 71), (2, 72)], none⟩
theorem tyok74 : TyOK Tryd.prog 74 tyi74 := ⟨by kernel_rfl, by kernel_rfl, by kernel_rfl, by kernel_rfl, by kernel_rfl, by kernel_rfl, by kernel_rfl, by kernel_rfl, by kernel_rfl, by kernel_rfl, by kernel_rfl, by kernel_rfl, by kernel_rfl, (by
    intro n x h
    cases n with
    | zero => cases h; kernel_rfl
    | succ n =>
    cases n with
    | zero => cases h; kernel_rfl
    | succ n =>
    cases n with
    | zero => cases h; kernel_rfl
    | succ n =>
    cases h), (by intro l h; cases h)⟩
def tyi76 : TyI := ⟨false, 1, 8, false, false, true, none, none, none, [.nilfunc], none, [], none⟩
theorem tyok76 : TyOK Tryd.prog 76 tyi76 := ⟨by kernel_rfl, by kernel_rfl, by kernel_rfl, by kernel_rfl, by kernel_rfl, by kernel_rfl, by kernel_rfl, by kernel_rfl, by kernel_rfl, by kernel_rfl, by kernel_rfl, by kernel_rfl, by kernel_rfl, (by
    intro n x h
    cases h), (by intro l h; cases h)⟩
def tyi77 : TyI := ⟨false, 1, 8, false, false, true, none, none, none, [.nilfunc], none, [], none⟩
theorem tyok77 : TyOK Tryd.prog 77 tyi77 := ⟨by kernel_rfl, by kernel_rfl, by kernel_rfl, by kernel_rfl, by kernel_rfl, by kernel_rfl, by kernel_rfl, by kernel_rfl, by kernel_rfl, by kernel_rfl, by kernel_rfl, by kernel_rfl, by kernel_rfl, (by
    intro n x h
    cases h), (by intro l h; cases h)⟩
def tyi78 : TyI := ⟨false, 1, 24, false, false, false, none, some 74, none, [.slc 0 [] (some 0)], none, [], none⟩
theorem tyok78 : TyOK Tryd.prog 78 tyi78 := ⟨by kernel_rfl, by kernel_rfl, by kernel_rfl, by kernel_rfl, by kernel_rfl, by kernel_rfl, by kernel_rfl, by kernel_rfl, by kernel_rfl, by kernel_rfl, by kernel_rfl, by kernel_rfl, by kernel_rfl, (by
    intro n x h
    cases h), (by intro l h; cases h)⟩
def tyi79 : TyI := ⟨false, 1, 8, false, false, true, none, none, none, [.nilfunc], none, [], none⟩
theorem tyok79 : TyOK Tryd.prog 79 tyi79 := ⟨by kernel_rfl, by kernel_rfl, by kernel_rfl, by kernel_rfl, by kernel_rfl, by kernel_rfl, by kernel_rfl, by kernel_rfl, by kernel_rfl, by kernel_rfl, by kernel_rfl, by kernel_rfl, by kernel_rfl, (by
    intro n x h
    cases h), (by intro l h; cases h)⟩
def tyi80 : TyI := ⟨false, 1, 8, false, false, true, none, none, none, [.nilfunc], none, [], none⟩
theorem tyok80 : TyOK Tryd.prog 80 tyi80 := ⟨by kernel_rfl, by kernel_rfl, by kernel_rfl, by kernel_rfl, by kernel_rfl, by kernel_rfl, by kernel_rfl, by kernel_rfl, by kernel_rfl, by kernel_rfl, by kernel_rfl, by kernel_rfl, by kernel_rfl, (by
    intro n x h
    cases h), (by intro l h; cases h)⟩
def tyi81 : TyI := ⟨false, 1, 8, false, false, true, none, none, none, [.nilfunc], none, [], none⟩
theorem tyok81 : TyOK Tryd.prog 81 tyi81 := ⟨by kernel_rfl, by kernel_rfl, by kernel_rfl, by kernel_rfl, by kernel_rfl, by kernel_rfl, by kernel_rfl, by kernel_rfl, by kernel_rfl, by kernel_rfl, by kernel_rfl, by kernel_rfl, by kernel_rfl, (by
    intro n x h
    cases h), (by intro l h; cases h)⟩
def tyi82 : TyI := ⟨false, 1, 8, false, false, true, none, none, none, [.nilfunc], none, [], none⟩
theorem tyok82 : TyOK Tryd.prog 82 tyi82 := ⟨by kernel_rfl, by kernel_rfl, by kernel_rfl, by kernel_rfl, by kernel_rfl, by kernel_rfl, by kernel_rfl, by kernel_rfl, by kernel_rfl, by kernel_rfl, by kernel_rfl, by kernel_rfl, by kernel_rfl, (by
    intro n x h
    cases h), (by intro l h; cases h)⟩
def tyi83 : TyI := ⟨false, 1, 8, false, false, true, none, none, none, [.nilfunc], none, [], none⟩
theorem tyok83 : TyOK Tryd.prog 83 tyi83 := ⟨by kernel_rfl, by kernel_rfl, by kernel_rfl, by kernel_rfl, by kernel_rfl, by kernel_rfl, by kernel_rfl, by kernel_rfl, by kernel_rfl, by kernel_rfl, by kernel_rfl, by kernel_rfl, by kernel_rfl, (by
    intro n x h
    cases h), (by intro l h; cases h)⟩
def tyi85 : TyI := ⟨false, 1, 8, false, false, true, none, none, none, [.nilfunc], none, [], none⟩
theorem tyok85 : TyOK Tryd.prog 85 tyi85 := ⟨by kernel_rfl, by kernel_rfl, by kernel_rfl, by kernel_rfl, by kernel_rfl, by kernel_rfl, by kernel_rfl, by kernel_rfl, by kernel_rfl, by kernel_rfl, by kernel_rfl, by kernel_rfl, by kernel_rfl, (by
    intro n x h
    cases h), (by intro l h; cases h)⟩
def tyi86 : TyI := ⟨false, 1, 24, false, false, false, none, some 21, none, [.slc 0 [] (some 0)], none, [], none⟩
theorem tyok86 : TyOK Tryd.prog 86 tyi86 := ⟨by kernel_rfl, by kernel_rfl, by kernel_rfl, by kernel_rfl, by kernel_rfl, by kernel_rfl, by kernel_rfl, by kernel_rfl, by kernel_rfl, by kernel_rfl, by kernel_rfl, by kernel_rfl, by kernel_rfl, (by
    intro n x h
    cases h), (by intro l h; cases h)⟩
def tyi88 : TyI := ⟨false, 1, 8, false, false, true, none, none, none, [.nilfunc], none, [], none⟩
theorem tyok88 : TyOK Tryd.prog 88 tyi88 := ⟨by kernel_rfl, by kernel_rfl, by kernel_rfl, by kernel_rfl, by kernel_rfl, by kernel_rfl, by kernel_rfl, by kernel_rfl, by kernel_rfl, by kernel_rfl, by kernel_rfl, by kernel_rfl, by kernel_rfl, (by
    intro n x h
    cases h), (by intro l h; cases h)⟩
def tyi89 : TyI := ⟨false, 1, 8, false, false, true, none, none, none, [.nilfunc], none, [], none⟩
theorem tyok89 : TyOK Tryd.prog 89 tyi89 := ⟨by kernel_rfl, by kernel_rfl, by kernel_rfl, by kernel_rfl, by kernel_rfl, by kernel_rfl, by kernel_rfl, by kernel_rfl, by kernel_rfl, by kernel_rfl, by kernel_rfl, by kernel_rfl, by kernel_rfl, (by
    intro n x h
    cases h), (by intro l h; cases h)⟩
def tyi90 : TyI := ⟨false, 1, 8, false, false, true, none, none, none, [.nilfunc], none, [], none⟩
theorem tyok90 : TyOK Tryd.prog 90 tyi90 := ⟨by kernel_rfl, by kernel_rfl, by kernel_rfl, by kernel_rfl, by kernel_rfl, by kernel_rfl, by kernel_rfl, by kernel_rfl, by kernel_rfl, by kernel_rfl, by kernel_rfl, by kernel_rfl, by kernel_rfl, (by
    intro n x h
    cases h), (by intro l h; cases h)⟩
def tyi91 : TyI := ⟨false, 1, 8, false, false, true, none, none, none, [.nilfunc], none, [], none⟩
theorem tyok91 : TyOK Tryd.prog 91 tyi91 := ⟨by kernel_rfl, by kernel_rfl, by kernel_rfl, by kernel_rfl, by kernel_rfl, by kernel_rfl, by kernel_rfl, by kernel_rfl, by kernel_rfl, by kernel_rfl, by kernel_rfl, by kernel_rfl, by kernel_rfl, (by
    intro n x h
    cases h), (by intro l h; cases h)⟩
def tyi92 : TyI := ⟨false, 1, 8, false, false, true, none, none, none, [.nilfunc], none, [], none⟩
theorem tyok92 : TyOK Tryd.prog 92 tyi92 := ⟨by kernel_rfl, by kernel_rfl, by kernel_rfl, by kernel_rfl, by kernel_rfl, by kernel_rfl, by kernel_rfl, by kernel_rfl, by kernel_rfl, by kernel_rfl, by kernel_rfl, by kernel_rfl, by kernel_rfl, (by
    intro n x h
    cases h), (by intro l h; cases h)⟩
def tyi93 : TyI := ⟨false, 1, 8, false, false, true, none, none, none, [.nilfunc], none, [], none⟩
theorem tyok93 : TyOK Tryd.prog 93 tyi93 := ⟨by kernel_rfl, by kernel_rfl, by kernel_rfl, by kernel_rfl, by kernel_rfl, by kernel_rfl, by kernel_rfl, by kernel_rfl, by kernel_rfl, by kernel_rfl, by kernel_rfl, by kernel_rfl, by kernel_rfl, (by
    intro n x h
    cases h), (by intro l h; cases h)⟩
def tyi94 : TyI := ⟨false, 1, 8, false, false, true, none, none, none, [.nilfunc], none, [], none⟩
theorem tyok94 : TyOK Tryd.prog 94 tyi94 := ⟨by kernel_rfl, by kernel_rfl, by kernel_rfl, by kernel_rfl, by kernel_rfl, by kernel_rfl, by kernel_rfl, by kernel_rfl, by kernel_rfl, by kernel_rfl, by kernel_rfl, by kernel_rfl, by kernel_rfl, (by
    intro n x h
    cases h), (by intro l h; cases h)⟩
def tyi95 : TyI := ⟨false, 1, 8, false, false, true, none, none, none, [.nilfunc], none, [], none⟩
theorem tyok95 : TyOK Tryd.prog 95 tyi95 := ⟨by kernel_rfl, by kernel_rfl, by kernel_rfl, by kernel_rfl, by kernel_rfl, by kernel_rfl, by kernel_rfl, by kernel_rfl, by kernel_rfl, by kernel_rfl, by kernel_rfl, by kernel_rfl, by kernel_rfl, (by
    intro n x h
    cases h), (by intro l h; cases h)⟩
def tyi96 : TyI := ⟨false, 1, 8, false, false, true, none, none, none, [.nilfunc], none, [], none⟩
theorem tyok96 : TyOK Tryd.prog 96 tyi96 := ⟨by kernel_rfl, by kernel_rfl, by kernel_rfl, by kernel_rfl, by kernel_rfl, by kernel_rfl, by kernel_rfl, by kernel_rfl, by kernel_rfl, by kernel_rfl, by kernel_rfl, by kernel_rfl, by kernel_rfl, (by
    intro n x h
    cases h), (by intro l h; cases h)⟩
def tyi97 : TyI := ⟨false, 1, 8, false, false, false, some .u64, none, none, [.int .u64 0], none, [], none⟩
theorem tyok97 : TyOK Tryd.prog 97 tyi97 := ⟨by kernel_rfl, by kernel_rfl, by kernel_rfl, by kernel_rfl, by kernel_rfl, by kernel_rfl, by kernel_rfl, by kernel_rfl, by kernel_rfl, by kernel_rfl, by kernel_rfl, by kernel_rfl, by kernel_rfl, (by
    intro n x h
    cases h), (by intro l h; cases h)⟩
def tyi98 : TyI := ⟨false, 1, 8, false, false, true, none, none, none, [.nilfunc], none, [], none⟩
theorem tyok98 : TyOK Tryd.prog 98 tyi98 := ⟨by kernel_rfl, by kernel_rfl, by kernel_rfl, by kernel_rfl, by kernel_rfl, by kernel_rfl, by kernel_rfl, by kernel_rfl, by kernel_rfl, by kernel_rfl, by kernel_rfl, by kernel_rfl, by kernel_rfl, (by
    intro n x h
    cases h), (by intro l h; cases h)⟩
def tyi99 : TyI := ⟨false, 1, 8, false, false, true, none, none, none, [.nilfunc], none, [], none⟩
theorem tyok99 : TyOK Tryd.prog 99 tyi99 := ⟨by kernel_rfl, by kernel_rfl, by kernel_rfl, by kernel_rfl, by kernel_rfl, by kernel_rfl, by kernel_rfl, by kernel_rfl, by kernel_rfl, by kernel_rfl, by kernel_rfl, by kernel_rfl, by kernel_rfl, (by
    intro n x h
    cases h), (by intro l h; cases h)⟩
def tyi100 : TyI := ⟨false, 1, 8, false, false, true, none, none, none, [.nilfunc], none, [], none⟩
theorem tyok100 : TyOK Tryd.prog 100 tyi100 := ⟨by kernel_rfl, by kernel_rfl, by kernel_rfl, by kernel_rfl, by kernel_rfl, by kernel_rfl, by kernel_rfl, by kernel_rfl, by kernel_rfl, by kernel_rfl, by kernel_rfl, by kernel_rfl, by kernel_rfl, (by
    intro n x h
    cases h), (by intro l h; cases h)⟩
def tyi101 : TyI := ⟨true, 256, 256, false, false, false, none, none, some (256, 5), [.int .u8 0, .int .u8 0, .int .u8 0, .int .u8 0, .int .u8 0, .int .u8 0, .int .u8 0, .int .u8 0, .int .u8 0, .int .u8 0, .int .u8 0, .int .u8 0, .int .u8 0, .int .u8 0, .int .u8 0, .int .u8 0, .int .u8 0, .int .u8 0, .int .u8 0, .int .u8 0, .int .u8 0, .int .u8 0, .int .u8 0, .int .u8 0, .int .u8 0, .int .u8 0, .int .u8 0, .int .u8 0, .int .u8 0, .int .u8 0, .int .u8 0, .int .u8 0, .int .u8 0, .int .u8 0, .int .u8 0, .int .u8 0, .int .u8 0, .int .u8 0, .int .u8 0, .int .u8 0, .int .u8 0, .int .u8 0, .int .u8 0, .int .u8 0, .int .u8 0, .int .u8 0, .int .u8 0, .int .u8 0, .int .u8 0, .int .u8 0, .int .u8 0, .int .u8 0, .int .u8 0, .int .u8 0, .int .u8 0, .int .u8 0, .int .u8 0, .int .u8 0, .int .u8 0, .int .u8 0, .int .u8 0, .int .u8 0, .int .u8 0, .int .u8 0, .int .u8 0, .int .u8 0, .int .u8 0, .int .u8 0, .int .u8 0, .int .u8 0, .int .u8 0, .int .u8 0, .int .u8 0, .int .u8 0, .int .u8 0, .int .u8 0, .int .u8 0, .int .u8 0, .int .u8 0, .int .u8 0, .int .u8 0, .int .u8 0, .int .u8 0, .int .u8 0, .int .u8 0, .int .u8 0, .int .u8 0, .int .u8 0, .int .u8 0, .int .u8 0, .int .u8 0, .int .u8 0, .int .u8 0, .int .u8 0, .int .u8 0, .int .u8 0, .int .u8 0, .int .u8 0, .int .u8 0, .int .u8 0, .int .u8 0, .int .u8 0, .int .u8 0, .int .u8 0, .int .u8 0, .int .u8 0, .int .u8 0, .int .u8 0, .int .u8 0, .int .u8 0, .int .u8 0, .int .u8 0, .int .u8 0, .int .u8 0, .int .u8 0, .int .u8 0, .int .u8 0, .int .u8 0, .int .u8 0, .int .u8 0, .int .u8 0, .int .u8 0, .int .u8 0, .int .u8 0, .int .u8 0, .int .u8 0, .int .u8 0, .int .u8 0, .int .u8 0, .int .u8 0, .int .u8 0, .int .u8 0, .int .u8 0, .int .u8 0, .int .u8 0, .int .u8 0, .int .u8 0, .int .u8 0, .int .u8 0, .int .u8 0, .int .u8 0, .int .u8 0, .int .u8 0, .int .u8 0, .int .u8 0, .int .u8 0, .int .u8 0, .int .u8 0, .int .u8 0, .int .u8 0, .int .u8 0, .int .u8 0, .int .u8 0, .int .u8 0, .int .u8 0, .int .u8 0, .int .u8 0, .int .u8 0, .int .u8 0, .int .u8 0, .int .u8 0, .int .u8 0, .int .u8 0, .int .u8 0, .int .u8 0, .int .u8 0, .int .u8 0, .int .u8 0, .int .u8 0, .int .u8 0, .int .u8 0, .int .u8 0, .int .u8 0, .int .u8 0, .int .u8 0, .int .u8 0, .int .u8 0, .int .u8 0, .int .u8 0, .int .u8 0, .int .u8 0, .int .u8 0, .int .u8 0, .int .u8 0, .int .u8 0, .int .u8 0, .int .u8 0, .int .u8 0, .int .u8 0, .int .u8 0, .int .u8 0, .int .u8 0, .int .u8 0, .int .u8 0, .int .u8 0, .int .u8 0, .int .u8 0, .int .u8 0, .int .u8 0, .int .u8 0, .int .u8 0, .int .u8 0, .int .u8 0, .int .u8 0, .int .u8 0, .int .u8 0, .int .u8 0, .int .u8 0, .int .u8 0, .int .u8 0, .int .u8 0, .int .u8 0, .int .u8 0, .int .u8 0, .int .u8 0, .int .u8 0, .int .u8 0, .int .u8 0, .int .u8 0, .int .u8 0, .int .u8 0, .int .u8 0, .int .u8 0, .int .u8 0, .int .u8 0, .int .u8 0, .int .u8 0, .int .u8 0, .int .u8 0, .int .u8 0, .int .u8 0, .int .u8 0, .int .u8 0, .int .u8 0, .int .u8 0, .int .u8 0, .int .u8 0, .int .u8 0, .int .u8 0, .int .u8 0, .int .u8 0, .int .u8 0, .int .u8 0, .int .u8 0, .int .u8 0, .int .u8 0, .int .u8 0, .int .u8 0, .int .u8 0, .int .u8 0, .int .u8 0, .int .u8 0, .int .u8 0, .int .u8 0, .int .u8 0, .int .u8 0], none, [], some [.i, .i, .i, .i, .i, .i, .i, .i, .i, .i, .i, .i, .i, .i, .i, .i, .i, .i, .i, .i, .i, .i, .i, .i, .i, .i, .i, .i, .i, .i, .i, .i, .i, .i, .i, .i, .i, .i, .i, .i, .i, .i, .i, .i, .i, .i, .i, .i, .i, .i, .i, .i, .i, .i, .i, .i, .i, .i, .i, .i, .i, .i, .i, .i, .i, .i, .i, .i, .i, .i, .i, .i, .i, .i, .i, .i, .i, .i, .i, .i, .i, .i, .i, .i, .i, .i, .i, .i, .i, .i, .i, .i, .i, .i, .i, .i, .i, .i, .i, .i, .i, .i, .i, .i, .i, .i, .i, .i, .i, .i, .i, .i, .i, .i, .i, .i, .i, .i, .i, .i, .i, .i, .i, .i, .i, .i, .i, .i, .i, .i, .i, .i, .i, .i, .i, .i, .i, .i, .i, .i, .i, .i, .i, .i, .i, .i, .i, .i, .i, .i, .i, .i, .i, .i, .i, .i, .i, .i, .i, .i, .i, .i, .i, .i, .i, .i, .i, .i, .i, .i, .i, .i, .i, .i, .i, .i, .i, .i, .i, .i, .i, .i, .i, .i, .i, .i, .i, .i, .i, .i, .i, .i, .i, .i, .i, .i, .i, .i, .i, .i, .i, .i, .i, .i, .i, .i, .i, .i, .i, .i, .i, .i, .i, .i, .i, .i, .i, .i, .i, .i, .i, .i, .i, .i, .i, .i, .i, .i, .i, .i, .i, .i, .i, .i, .i, .i, .i, .i, .i, .i, .i, .i, .i, .i, .i, .i, .i, .i, .i, .i, .i, .i, .i, .i, .i, .i]⟩
theorem lv101 : leavesT Tryd.prog 8 101 = some [.i, .i, .i, .i, .i, .i, .i, .i, .i, .i, .i, .i, .i, .i, .i, .i, .i, .i, .i, .i, .i, .i, .i, .i, .i, .i, .i, .i, .i, .i, .i, .i, .i, .i, .i, .i, .i, .i, .i, .i, .i, .i, .i, .i, .i, .i, .i, .i, .i, .i, .i, .i, .i, .i, .i, .i, .i, .i, .i, .i, .i, .i, .i, .i, .i, .i, .i, .i, .i, .i, .i, .i, .i, .i, .i, .i, .i, .i, .i, .i, .i, .i, .i, .i, .i, .i, .i, .i, .i, .i, .i, .i, .i, .i, .i, .i, .i, .i, .i, .i, .i, .i, .i, .i, .i, .i, .i, .i, .i, .i, .i, .i, .i, .i, .i, .i, .i, .i, .i, .i, .i, .i, .i, .i, .i, .i, .i, .i, .i, .i, .i, .i, .i, .i, .i, .i, .i, .i, .i, .i, .i, .i, .i, .i, .i, .i, .i, .i, .i, .i, .i, .i, .i, .i, .i, .i, .i, .i, .i, .i, .i, .i, .i, .i, .i, .i, .i, .i, .i, .i, .i, .i, .i, .i, .i, .i, .i, .i, .i, .i, .i, .i, .i, .i, .i, .i, .i, .i, .i, .i, .i, .i, .i, .i, .i, .i, .i, .i, .i, .i, .i, .i, .i, .i, .i, .i, .i, .i, .i, .i, .i, .i, .i, .i, .i, .i, .i, .i, .i, .i, .i, .i, .i, .i, .i, .i, .i, .i, .i, .i, .i, .i, .i, .i, .i, .i, .i, .i, .i, .i, .i, .i, .i, .i, .i, .i, .i, .i, .i, .i, .i, .i, .i, .i, .i, .i] := by
  have s5 : szOf Tryd.prog 5 = 1 := by kernel_rfl
  have s101 : szOf Tryd.prog 101 = 256 := by kernel_rfl
  simp [leavesT, leavesT.go, Tryd.underlying5, s5, Tryd.underlying101, s101]
theorem tyok101 : TyOK Tryd.prog 101 tyi101 := ⟨by kernel_rfl, by kernel_rfl, by kernel_rfl, by kernel_rfl, by kernel_rfl, by kernel_rfl, by kernel_rfl, by kernel_rfl, by kernel_rfl, by kernel_rfl, by kernel_rfl, by kernel_rfl, by kernel_rfl, (by
    intro n x h
    cases h), (by intro l h; cases h; exact lv101)⟩
def tyi102 : TyI := ⟨true, 2, 2, false, false, false, none, none, none, [.int .u8 0, .int .u8 0], some [(0, 1), (1, 1)], [(0, 5), (1, 5)], some [.i, .i]⟩
theorem lv102 : leavesT Tryd.prog 8 102 = some [.i, .i] := by
  have h102 : Tryd.prog.stoodInHeld 102 = false := by kernel_rfl
  have s5 : szOf Tryd.prog 5 = 1 := by kernel_rfl
  have s102 : szOf Tryd.prog 102 = 2 := by kernel_rfl
  simp [leavesT, leavesT.go, Tryd.underlying5, s5, Tryd.underlying102, s102, h102]
theorem tyok102 : TyOK Tryd.prog 102 tyi102 := ⟨by kernel_rfl, by kernel_rfl, by kernel_rfl, by kernel_rfl, by kernel_rfl, by kernel_rfl, by kernel_rfl, by kernel_rfl, by kernel_rfl, by kernel_rfl, by kernel_rfl, by kernel_rfl, by kernel_rfl, (by
    intro n x h
    cases n with
    | zero => cases h; kernel_rfl
    | succ n =>
    cases n with
    | zero => cases h; kernel_rfl
    | succ n =>
    cases h), (by intro l h; cases h; exact lv102)⟩
def tyi103 : TyI := ⟨true, 2, 2, false, false, false, none, none, none, [.int .u8 0, .int .u8 0], some [(0, 1), (1, 1)], [(0, 5), (1, 5)], some [.i, .i]⟩
theorem lv103 : leavesT Tryd.prog 8 103 = some [.i, .i] := by
  have h103 : Tryd.prog.stoodInHeld 103 = false := by kernel_rfl
  have s5 : szOf Tryd.prog 5 = 1 := by kernel_rfl
  have s103 : szOf Tryd.prog 103 = 2 := by kernel_rfl
  simp [leavesT, leavesT.go, Tryd.underlying5, s5, Tryd.underlying103, s103, h103]
theorem tyok103 : TyOK Tryd.prog 103 tyi103 := ⟨by kernel_rfl, by kernel_rfl, by kernel_rfl, by kernel_rfl, by kernel_rfl, by kernel_rfl, by kernel_rfl, by kernel_rfl, by kernel_rfl, by kernel_rfl, by kernel_rfl, by kernel_rfl, by kernel_rfl, (by
    intro n x h
    cases n with
    | zero => cases h; kernel_rfl
    | succ n =>
    cases n with
    | zero => cases h; kernel_rfl
    | succ n =>
    cases h), (by intro l h; cases h; exact lv103)⟩
def tyi104 : TyI := ⟨true, 32, 32, false, false, false, none, none, some (16, 103), [.int .u8 0, .int .u8 0, .int .u8 0, .int .u8 0, .int .u8 0, .int .u8 0, .int .u8 0, .int .u8 0, .int .u8 0, .int .u8 0, .int .u8 0, .int .u8 0, .int .u8 0, .int .u8 0, .int .u8 0, .int .u8 0, .int .u8 0, .int .u8 0, .int .u8 0, .int .u8 0, .int .u8 0, .int .u8 0, .int .u8 0, .int .u8 0, .int .u8 0, .int .u8 0, .int .u8 0, .int .u8 0, .int .u8 0, .int .u8 0, .int .u8 0, .int .u8 0], none, [], some [.i, .i, .i, .i, .i, .i, .i, .i, .i, .i, .i, .i, .i, .i, .i, .i, .i, .i, .i, .i, .i, .i, .i, .i, .i, .i, .i, .i, .i, .i, .i, .i]⟩
theorem lv104 : leavesT Tryd.prog 8 104 = some [.i, .i, .i, .i, .i, .i, .i, .i, .i, .i, .i, .i, .i, .i, .i, .i, .i, .i, .i, .i, .i, .i, .i, .i, .i, .i, .i, .i, .i, .i, .i, .i] := by
  have h103 : Tryd.prog.stoodInHeld 103 = false := by kernel_rfl
  have s5 : szOf Tryd.prog 5 = 1 := by kernel_rfl
  have s103 : szOf Tryd.prog 103 = 2 := by kernel_rfl
  have s104 : szOf Tryd.prog 104 = 32 := by kernel_rfl
  simp [leavesT, leavesT.go, Tryd.underlying5, s5, Tryd.underlying103, s103, Tryd.underlying104, s104, h103]
theorem tyok104 : TyOK Tryd.prog 104 tyi104 := ⟨by kernel_rfl, by kernel_rfl, by kernel_rfl, by kernel_rfl, by kernel_rfl, by kernel_rfl, by kernel_rfl, by kernel_rfl, by kernel_rfl, by kernel_rfl, by kernel_rfl, by kernel_rfl, by kernel_rfl, (by
    intro n x h
    cases h), (by intro l h; cases h; exact lv104)⟩
def tyi105 : TyI := ⟨false, 1, 8, false, false, true, none, none, none, [.nilfunc], none, [], none⟩
theorem tyok105 : TyOK Tryd.prog 105 tyi105 := ⟨by kernel_rfl, by kernel_rfl, by kernel_rfl, by kernel_rfl, by kernel_rfl, by kernel_rfl, by kernel_rfl, by kernel_rfl, by kernel_rfl, by kernel_rfl, by kernel_rfl, by kernel_rfl, by kernel_rfl, (by
    intro n x h
    cases h), (by intro l h; cases h)⟩
def tyi106 : TyI := ⟨false, 1, 8, false, false, true, none, none, none, [.nilfunc], none, [], none⟩
theorem tyok106 : TyOK Tryd.prog 106 tyi106 := ⟨by kernel_rfl, by kernel_rfl, by kernel_rfl, by kernel_rfl, by kernel_rfl, by kernel_rfl, by kernel_rfl, by kernel_rfl, by kernel_rfl, by kernel_rfl, by kernel_rfl, by kernel_rfl, by kernel_rfl, (by
    intro n x h
    cases h), (by intro l h; cases h)⟩
def tyi107 : TyI := ⟨false, 1, 8, false, false, false, some .u64, none, none, [.int .u64 0], none, [], none⟩
theorem tyok107 : TyOK Tryd.prog 107 tyi107 := ⟨by kernel_rfl, by kernel_rfl, by kernel_rfl, by kernel_rfl, by kernel_rfl, by kernel_rfl, by kernel_rfl, by kernel_rfl, by kernel_rfl, by kernel_rfl, by kernel_rfl, by kernel_rfl, by kernel_rfl, (by
    intro n x h
    cases h), (by intro l h; cases h)⟩
def tyi108 : TyI := ⟨false, 1, 8, false, false, true, none, none, none, [.nilfunc], none, [], none⟩
theorem tyok108 : TyOK Tryd.prog 108 tyi108 := ⟨by kernel_rfl, by kernel_rfl, by kernel_rfl, by kernel_rfl, by kernel_rfl, by kernel_rfl, by kernel_rfl, by kernel_rfl, by kernel_rfl, by kernel_rfl, by kernel_rfl, by kernel_rfl, by kernel_rfl, (by
    intro n x h
    cases h), (by intro l h; cases h)⟩
def tyi109 : TyI := ⟨false, 1, 8, false, false, true, none, none, none, [.nilfunc], none, [], none⟩
theorem tyok109 : TyOK Tryd.prog 109 tyi109 := ⟨by kernel_rfl, by kernel_rfl, by kernel_rfl, by kernel_rfl, by kernel_rfl, by kernel_rfl, by kernel_rfl, by kernel_rfl, by kernel_rfl, by kernel_rfl, by kernel_rfl, by kernel_rfl, by kernel_rfl, (by
    intro n x h
    cases h), (by intro l h; cases h)⟩
def tyi110 : TyI := ⟨false, 1, 8, false, false, true, none, none, none, [.nilfunc], none, [], none⟩
theorem tyok110 : TyOK Tryd.prog 110 tyi110 := ⟨by kernel_rfl, by kernel_rfl, by kernel_rfl, by kernel_rfl, by kernel_rfl, by kernel_rfl, by kernel_rfl, by kernel_rfl, by kernel_rfl, by kernel_rfl, by kernel_rfl, by kernel_rfl, by kernel_rfl, (by
    intro n x h
    cases h), (by intro l h; cases h)⟩
def tyi111 : TyI := ⟨true, 4, 40, false, false, false, none, none, none, [.nilptr, .nilptr, .nilptr, .str []], some [(0, 1), (1, 1), (2, 1), (3, 1)], [(0, 17), (1, 17), (2, 17), (3, 9)], none⟩
theorem tyok111 : TyOK Tryd.prog 111 tyi111 := ⟨by kernel_rfl, by kernel_rfl, by kernel_rfl, by kernel_rfl, by kernel_rfl, by kernel_rfl, by kernel_rfl, by kernel_rfl, by kernel_rfl, by kernel_rfl, by kernel_rfl, by kernel_rfl, by kernel_rfl, (by
    intro n x h
    cases n with
    | zero => cases h; kernel_rfl
    | succ n =>
    cases n with
    | zero => cases h; kernel_rfl
    | succ n =>
    cases n with
    | zero => cases h; kernel_rfl
    | succ n =>
    cases n with
    | zero => cases h; kernel_rfl
    | succ n =>
    cases h), (by intro l h; cases h)⟩
def tyi112 : TyI := ⟨true, 4, 40, false, false, false, none, none, none, [.nilptr, .nilptr, .nilptr, .str []], some [(0, 1), (1, 1), (2, 1), (3, 1)], [(0, 17), (1, 17), (2, 17), (3, 9)], none⟩
theorem tyok112 : TyOK Tryd.prog 112 tyi112 := ⟨by kernel_rfl, by kernel_rfl, by kernel_rfl, by kernel_rfl, by kernel_rfl, by kernel_rfl, by kernel_rfl, by kernel_rfl, by kernel_rfl, by kernel_rfl, by kernel_rfl, by kernel_rfl, by kernel_rfl, (by
    intro n x h
    cases n with
    | zero => cases h; kernel_rfl
    | succ n =>
    cases n with
    | zero => cases h; kernel_rfl
    | succ n =>
    cases n with
    | zero => cases h; kernel_rfl
    | succ n =>
    cases n with
    | zero => cases h; kernel_rfl
    | succ n =>
    cases h), (by intro l h; cases h)⟩
def tyi113 : TyI := ⟨true, 0, 0, false, false, false, none, none, some (0, 16), [], none, [], none⟩
theorem tyok113 : TyOK Tryd.prog 113 tyi113 := ⟨by kernel_rfl, by kernel_rfl, by kernel_rfl, by kernel_rfl, by kernel_rfl, by kernel_rfl, by kernel_rfl, by kernel_rfl, by kernel_rfl, by kernel_rfl, by kernel_rfl, by kernel_rfl, by kernel_rfl, (by
    intro n x h
    cases h), (by intro l h; cases h)⟩
def tyi114 : TyI := ⟨true, 0, 0, false, false, false, none, none, none, [], some [(0, 0)], [(0, 113)], none⟩
theorem tyok114 : TyOK Tryd.prog 114 tyi114 := ⟨by kernel_rfl, by kernel_rfl, by kernel_rfl, by kernel_rfl, by kernel_rfl, by kernel_rfl, by kernel_rfl, by kernel_rfl, by kernel_rfl, by kernel_rfl, by kernel_rfl, by kernel_rfl, by kernel_rfl, (by
    intro n x h
    cases n with
    | zero => cases h; kernel_rfl
    | succ n =>
    cases h), (by intro l h; cases h)⟩
def tyi115 : TyI := ⟨true, 0, 0, false, false, false, none, none, none, [], some [(0, 0)], [(0, 113)], none⟩
theorem tyok115 : TyOK Tryd.prog 115 tyi115 := ⟨by kernel_rfl, by kernel_rfl, by kernel_rfl, by kernel_rfl, by kernel_rfl, by kernel_rfl, by kernel_rfl, by kernel_rfl, by kernel_rfl, by kernel_rfl, by kernel_rfl, by kernel_rfl, by kernel_rfl, (by
    intro n x h
    cases n with
    | zero => cases h; kernel_rfl
    | succ n =>
    cases h), (by intro l h; cases h)⟩
def tyi116 : TyI := ⟨false, 1, 8, false, false, true, none, none, none, [.nilfunc], none, [], none⟩
theorem tyok116 : TyOK Tryd.prog 116 tyi116 := ⟨by kernel_rfl, by kernel_rfl, by kernel_rfl, by kernel_rfl, by kernel_rfl, by kernel_rfl, by kernel_rfl, by kernel_rfl, by kernel_rfl, by kernel_rfl, by kernel_rfl, by kernel_rfl, by kernel_rfl, (by
    intro n x h
    cases h), (by intro l h; cases h)⟩
def tyi117 : TyI := ⟨false, 1, 1, false, false, false, some .u8, none, none, [.int .u8 0], none, [], none⟩
theorem tyok117 : TyOK Tryd.prog 117 tyi117 := ⟨by kernel_rfl, by kernel_rfl, by kernel_rfl, by kernel_rfl, by kernel_rfl, by kernel_rfl, by kernel_rfl, by kernel_rfl, by kernel_rfl, by kernel_rfl, by kernel_rfl, by kernel_rfl, by kernel_rfl, (by
    intro n x h
    cases h), (by intro l h; cases h)⟩
def tyi118 : TyI := ⟨false, 1, 1, false, false, false, some .u8, none, none, [.int .u8 0], none, [], none⟩
theorem tyok118 : TyOK Tryd.prog 118 tyi118 := ⟨by kernel_rfl, by kernel_rfl, by kernel_rfl, by kernel_rfl, by kernel_rfl, by kernel_rfl, by kernel_rfl, by kernel_rfl, by kernel_rfl, by kernel_rfl, by kernel_rfl, by kernel_rfl, by kernel_rfl, (by
    intro n x h
    cases h), (by intro l h; cases h)⟩
def tyi119 : TyI := ⟨false, 1, 8, false, false, true, none, none, none, [.nilfunc], none, [], none⟩
theorem tyok119 : TyOK Tryd.prog 119 tyi119 := ⟨by kernel_rfl, by kernel_rfl, by kernel_rfl, by kernel_rfl, by kernel_rfl, by kernel_rfl, by kernel_rfl, by kernel_rfl, by kernel_rfl, by kernel_rfl, by kernel_rfl, by kernel_rfl, by kernel_rfl, (by
    intro n x h
    cases h), (by intro l h; cases h)⟩
def tyi120 : TyI := ⟨false, 1, 8, false, false, false, none, none, none, [.nilptr], none, [], none⟩
theorem tyok120 : TyOK Tryd.prog 120 tyi120 := ⟨by kernel_rfl, by kernel_rfl, by kernel_rfl, by kernel_rfl, by kernel_rfl, by kernel_rfl, by kernel_rfl, by kernel_rfl, by kernel_rfl, by kernel_rfl, by kernel_rfl, by kernel_rfl, by kernel_rfl, (by
    intro n x h
    cases h), (by intro l h; cases h)⟩
def tyi121 : TyI := ⟨false, 1, 4, false, false, false, some .i32, none, none, [.int .i32 0], none, [], none⟩
theorem tyok121 : TyOK Tryd.prog 121 tyi121 := ⟨by kernel_rfl, by kernel_rfl, by kernel_rfl, by kernel_rfl, by kernel_rfl, by kernel_rfl, by kernel_rfl, by kernel_rfl, by kernel_rfl, by kernel_rfl, by kernel_rfl, by kernel_rfl, by kernel_rfl, (by
    intro n x h
    cases h), (by intro l h; cases h)⟩
def tyi122 : TyI := ⟨false, 1, 4, false, false, false, some .i32, none, none, [.int .i32 0], none, [], none⟩
theorem tyok122 : TyOK Tryd.prog 122 tyi122 := ⟨by kernel_rfl, by kernel_rfl, by kernel_rfl, by kernel_rfl, by kernel_rfl, by kernel_rfl, by kernel_rfl, by kernel_rfl, by kernel_rfl, by kernel_rfl, by kernel_rfl, by kernel_rfl, by kernel_rfl, (by
    intro n x h
    cases h), (by intro l h; cases h)⟩
def tyi123 : TyI := ⟨true, 11, 48, false, false, false, none, none, none, [.int .u64 0, .int .u64 0, .int .u32 0, .int .u8 0, .int .u8 0, .int .u8 0, .int .u8 0, .nilfunc, .nilptr, .int .i32 0, .int .i32 0], some [(0, 1), (1, 1), (2, 1), (3, 1), (4, 1), (5, 1), (6, 1), (7, 1), (8, 1), (9, 1), (10, 1)], [(0, 12), (1, 12), (2, 22), (3, 117), (4, 5), (5, 5), (6, 118), (7, 119), (8, 120), (9, 121), (10, 122)], none⟩
theorem tyok123 : TyOK Tryd.prog 123 tyi123 := ⟨by kernel_rfl, by kernel_rfl, by kernel_rfl, by kernel_rfl, by kernel_rfl, by kernel_rfl, by kernel_rfl, by kernel_rfl, by kernel_rfl, by kernel_rfl, by kernel_rfl, by kernel_rfl, by kernel_rfl, (by
    intro n x h
    cases n with
    | zero => cases h; kernel_rfl
    | succ n =>
    cases n with
    | zero => cases h; kernel_rfl
    | succ n =>
    cases n with
    | zero => cases h; kernel_rfl
    | succ n =>
    cases n with
    | zero => cases h; kernel_rfl
    | succ n =>
    cases n with
    | zero => cases h; kernel_rfl
    | succ n =>
    cases n with
    | zero => cases h; kernel_rfl
    | succ n =>
    cases n with
    | zero => cases h; kernel_rfl
    | succ n =>
    cases n with
    | zero => cases h; kernel_rfl
    | succ n =>
    cases n with
    | zero => cases h; kernel_rfl
    | succ n =>
    cases n with
    | zero => cases h; kernel_rfl
    | succ n =>
    cases n with
    | zero => cases h; kernel_rfl
    | succ n =>
    cases h), (by intro l h; cases h)⟩
def tyi124 : TyI := ⟨true, 11, 48, false, false, false, none, none, none, [.int .u64 0, .int .u64 0, .int .u32 0, .int .u8 0, .int .u8 0, .int .u8 0, .int .u8 0, .nilfunc, .nilptr, .int .i32 0, .int .i32 0], some [(0, 1), (1, 1), (2, 1), (3, 1), (4, 1), (5, 1), (6, 1), (7, 1), (8, 1), (9, 1), (10, 1)], [(0, 12), (1, 12), (2, 22), (3, 117), (4, 5), (5, 5), (6, 118), (7, 119), (8, 120), (9, 121), (10, 122)], none⟩
theorem tyok124 : TyOK Tryd.prog 124 tyi124 := ⟨by kernel_rfl, by kernel_rfl, by kernel_rfl, by kernel_rfl, by kernel_rfl, by kernel_rfl, by kernel_rfl, by kernel_rfl, by kernel_rfl, by kernel_rfl, by kernel_rfl, by kernel_rfl, by kernel_rfl, (by
    intro n x h
    cases n with
    | zero => cases h; kernel_rfl
    | succ n =>
    cases n with
    | zero => cases h; kernel_rfl
    | succ n =>
    cases n with
    | zero => cases h; kernel_rfl
    | succ n =>
    cases n with
    | zero => cases h; kernel_rfl
    | succ n =>
    cases n with
    | zero => cases h; kernel_rfl
    | succ n =>
    cases n with
    | zero => cases h; kernel_rfl
    | succ n =>
    cases n with
    | zero => cases h; kernel_rfl
    | succ n =>
    cases n with
    | zero => cases h; kernel_rfl
    | succ n =>
    cases n with
    | zero => cases h; kernel_rfl
    | succ n =>
    cases n with
    | zero => cases h; kernel_rfl
    | succ n =>
    cases n with
    | zero => cases h; kernel_rfl
    | succ n =>
    cases h), (by intro l h; cases h)⟩
def tyL : List (Option TyI) := [none, some tyi1, some tyi2, some tyi3, some tyi4, some tyi5, some tyi6, some tyi7, some tyi8, some tyi9, some tyi10, some tyi11, some tyi12, some tyi13, some tyi14, some tyi15, some tyi16, some tyi17, some tyi18, some tyi19, some tyi20, some tyi21, some tyi22, some tyi23, some tyi24, some tyi25, some tyi26, none, some tyi28, some tyi29, some tyi30, none, some tyi32, some tyi33, some tyi34, some tyi35, some tyi36, some tyi37, some tyi38, some tyi39, some tyi40, some tyi41, some tyi42, some tyi43, none, some tyi45, some tyi46, some tyi47, some tyi48, some tyi49, none, some tyi51, some tyi52, some tyi53, some tyi54, some tyi55, some tyi56, some tyi57, some tyi58, some tyi59, none, some tyi61, some tyi62, some tyi63, some tyi64, some tyi65, some tyi66, some tyi67, some tyi68, some tyi69, some tyi70, some tyi71, some tyi72, some tyi73, some tyi74, none, some tyi76, some tyi77, some tyi78, some tyi79, some tyi80, some tyi81, some tyi82, some tyi83, none, some tyi85, some tyi86, none, some tyi88, some tyi89, some tyi90, some tyi91, some tyi92, some tyi93, some tyi94, some tyi95, some tyi96, some tyi97, some tyi98, some tyi99, some tyi100, some tyi101, some tyi102, some tyi103, some tyi104, some tyi105, some tyi106, some tyi107, some tyi108, some tyi109, some tyi110, some tyi111, some tyi112, some tyi113, some tyi114, some tyi115, some tyi116, some tyi117, some tyi118, some tyi119, some tyi120, some tyi121, some tyi122, some tyi123, some tyi124, none]
theorem tyL_ok : TyOKs Tryd.prog 0 tyL := ⟨tyok1, ⟨tyok2, ⟨tyok3, ⟨tyok4, ⟨tyok5, ⟨tyok6, ⟨tyok7, ⟨tyok8, ⟨tyok9, ⟨tyok10, ⟨tyok11, ⟨tyok12, ⟨tyok13, ⟨tyok14, ⟨tyok15, ⟨tyok16, ⟨tyok17, ⟨tyok18, ⟨tyok19, ⟨tyok20, ⟨tyok21, ⟨tyok22, ⟨tyok23, ⟨tyok24, ⟨tyok25, ⟨tyok26, ⟨tyok28, ⟨tyok29, ⟨tyok30, ⟨tyok32, ⟨tyok33, ⟨tyok34, ⟨tyok35, ⟨tyok36, ⟨tyok37, ⟨tyok38, ⟨tyok39, ⟨tyok40, ⟨tyok41, ⟨tyok42, ⟨tyok43, ⟨tyok45, ⟨tyok46, ⟨tyok47, ⟨tyok48, ⟨tyok49, ⟨tyok51, ⟨tyok52, ⟨tyok53, ⟨tyok54, ⟨tyok55, ⟨tyok56, ⟨tyok57, ⟨tyok58, ⟨tyok59, ⟨tyok61, ⟨tyok62, ⟨tyok63, ⟨tyok64, ⟨tyok65, ⟨tyok66, ⟨tyok67, ⟨tyok68, ⟨tyok69, ⟨tyok70, ⟨tyok71, ⟨tyok72, ⟨tyok73, ⟨tyok74, ⟨tyok76, ⟨tyok77, ⟨tyok78, ⟨tyok79, ⟨tyok80, ⟨tyok81, ⟨tyok82, ⟨tyok83, ⟨tyok85, ⟨tyok86, ⟨tyok88, ⟨tyok89, ⟨tyok90, ⟨tyok91, ⟨tyok92, ⟨tyok93, ⟨tyok94, ⟨tyok95, ⟨tyok96, ⟨tyok97, ⟨tyok98, ⟨tyok99, ⟨tyok100, ⟨tyok101, ⟨tyok102, ⟨tyok103, ⟨tyok104, ⟨tyok105, ⟨tyok106, ⟨tyok107, ⟨tyok108, ⟨tyok109, ⟨tyok110, ⟨tyok111, ⟨tyok112, ⟨tyok113, ⟨tyok114, ⟨tyok115, ⟨tyok116, ⟨tyok117, ⟨tyok118, ⟨tyok119, ⟨tyok120, ⟨tyok121, ⟨tyok122, ⟨tyok123, ⟨tyok124, trivial⟩⟩⟩⟩⟩⟩⟩⟩⟩⟩⟩⟩⟩⟩⟩⟩⟩⟩⟩⟩⟩⟩⟩⟩⟩⟩⟩⟩⟩⟩⟩⟩⟩⟩⟩⟩⟩⟩⟩⟩⟩⟩⟩⟩⟩⟩⟩⟩⟩⟩⟩⟩⟩⟩⟩⟩⟩⟩⟩⟩⟩⟩⟩⟩⟩⟩⟩⟩⟩⟩⟩⟩⟩⟩⟩⟩⟩⟩⟩⟩⟩⟩⟩⟩⟩⟩⟩⟩⟩⟩⟩⟩⟩⟩⟩⟩⟩⟩⟩⟩⟩⟩⟩⟩⟩⟩⟩⟩⟩⟩⟩⟩⟩⟩⟩⟩
end Go.Proofs.YteenamolccbcfaaDoor.Ai
