/-
  NARROWER THAN 'FOR EVERY INPUT', by the rows' own cells (each row's printed sentence says how): CharstringsGet: laid · CharstringsKinds: laid · CharstringsOrder: laid · CharstringsKnown: laid · CharstringsCheck: laid · CharstringsOf: loops, laid · CharstringsBack: laid.
  DERIVED. THE GIVEN ROWS OF THIS SEAT. 7 by the template 'for every input the law returns true; each argument reads behind the call as it read before'; 0 by the template 'total and deterministic' (their statements: YteenamolccbcfaaDoorTotals.lean).
  GIVEN WITH THE SEED: the statements are not yours to turn. If you find one false, say at which input.
  Laid BY PROGRAM, IN A SANDBOX (cutbox-rows.mjs): the forced cells as the released guide's own fill.sh prints them over the translation 53c8d4aae88aabf8… (all of the seat's roots in one cut). By AI agents, Wed Nov 11 2026. No macro, syntax, notation, axiom, sorry.
-/
import Derived.Test.YteenamolccbcfaaDoorChecked
import GoSem.PinnedTables
import GoSem.Claim
import GoSem.ClaimJoined
import GoSem.ClaimMapViews
import Derived.JoinedTies
import Derived.KernelRfl
namespace Go.Proofs.YteenamolccbcfaaDoor
/- THE CELL 'sum', in the pinned program and in every row, IS THE sha256 OF THE DUMP (.gsa) THAT YteenamolccbcfaaDoorProg.lean LOADS. Nothing in Lean hashes anything: it is a label: what it is worth is what the hold of that sum in a sandbox is worth. -/
noncomputable def Tryd.pinned : Pinned := { name := "yteenamolccbcfaadoor", sum := "53c8d4aae88aabf8b92552b424e24d23af2ec2c04044becb51726ae40f139269", checked := Tryd.checked }
namespace Rows
def none {H : Type} : Left H := { results := [], args := [] }

/- WHAT THE LISTED PACKAGE-LEVEL VARIABLES READ AS WHEN THE CALL BEGINS. Each datum BY PROGRAM (the guide's laid-datum.mjs) off the statement by which the dump's own 'gosem.cut.vars' lays the variable. In a bare row this is a premise. The card (YteenamolccbcfaaDoorCards.lean) ties it to the program's text. -/
def laid_unicode_utf8_acceptRanges {H : Type} : DataW H := .agg [.agg [.lit (.int .u8 128), .lit (.int .u8 191)], .agg [.lit (.int .u8 160), .lit (.int .u8 191)], .agg [.lit (.int .u8 128), .lit (.int .u8 159)], .agg [.lit (.int .u8 144), .lit (.int .u8 191)], .agg [.lit (.int .u8 128), .lit (.int .u8 143)], .agg [.lit (.int .u8 0), .lit (.int .u8 0)], .agg [.lit (.int .u8 0), .lit (.int .u8 0)], .agg [.lit (.int .u8 0), .lit (.int .u8 0)], .agg [.lit (.int .u8 0), .lit (.int .u8 0)], .agg [.lit (.int .u8 0), .lit (.int .u8 0)], .agg [.lit (.int .u8 0), .lit (.int .u8 0)], .agg [.lit (.int .u8 0), .lit (.int .u8 0)], .agg [.lit (.int .u8 0), .lit (.int .u8 0)], .agg [.lit (.int .u8 0), .lit (.int .u8 0)], .agg [.lit (.int .u8 0), .lit (.int .u8 0)], .agg [.lit (.int .u8 0), .lit (.int .u8 0)]]
/-- One of Go's own tables, pinned by name: the form's constant. -/
def laid_unicode_utf8_first : DataW Unit := Go.Pinned.utf8First

/-- 'vidimuslaw09.CharstringsGet': WHATEVER THE INPUT: true; the input reads as it did. -/
def charstringsGetSpec : ChangeSpec := { name := "charstringsGet", fn := fun _ => fun
  | [d1, d2] => { results := [.lit (.bool true)], args := [d1, d2] }
  | _ => none }
def charstringsGetRow : OpenClaim := { program := "yteenamolccbcfaadoor", sum := "53c8d4aae88aabf8b92552b424e24d23af2ec2c04044becb51726ae40f139269", func := "vidimus/vidimuslaw09.CharstringsGet", spec := "charstringsGet", inPlace := ["internal/bytealg.IndexByteString", "internal/bytealg.IndexString", "internal/bytealg.abigen_runtime_cmpstring"], unfollowed := true, recurses := true, named := ["unicode/utf8.first", "unicode/utf8.acceptRanges", "internal/bytealg.MaxLen"], apart := false, laid := [("unicode/utf8.acceptRanges", laid_unicode_utf8_acceptRanges), ("unicode/utf8.first", laid_unicode_utf8_first)] }
def CharstringsGetSaid : Prop := charstringsGetRow.holds Tryd.pinned (OpenSpec.ofChange charstringsGetSpec)

/-- ITS FALSE NEIGHBOUR: 'it returns false'. Refute it at one input. -/
def charstringsGetWrong : ChangeSpec := { name := "charstringsGet", fn := fun _ => fun
  | [d1, d2] => { results := [.lit (.bool false)], args := [d1, d2] }
  | _ => none }
def CharstringsGetWrongFalsely : Prop := charstringsGetRow.holds Tryd.pinned (OpenSpec.ofChange charstringsGetWrong)

/-- 'vidimuslaw09.CharstringsKinds': WHATEVER THE INPUT: true; the input reads as it did. -/
def charstringsKindsSpec : ChangeSpec := { name := "charstringsKinds", fn := fun _ => fun
  | [d1, d2, d3] => { results := [.lit (.bool true)], args := [d1, d2, d3] }
  | _ => none }
def charstringsKindsRow : OpenClaim := { program := "yteenamolccbcfaadoor", sum := "53c8d4aae88aabf8b92552b424e24d23af2ec2c04044becb51726ae40f139269", func := "vidimus/vidimuslaw09.CharstringsKinds", spec := "charstringsKinds", inPlace := ["internal/bytealg.IndexByteString", "internal/bytealg.IndexString", "internal/bytealg.abigen_runtime_cmpstring"], unfollowed := true, recurses := true, named := ["unicode/utf8.first", "unicode/utf8.acceptRanges", "internal/bytealg.MaxLen"], apart := false, laid := [("unicode/utf8.acceptRanges", laid_unicode_utf8_acceptRanges), ("unicode/utf8.first", laid_unicode_utf8_first)] }
def CharstringsKindsSaid : Prop := charstringsKindsRow.holds Tryd.pinned (OpenSpec.ofChange charstringsKindsSpec)

/-- ITS FALSE NEIGHBOUR: 'it returns false'. Refute it at one input. -/
def charstringsKindsWrong : ChangeSpec := { name := "charstringsKinds", fn := fun _ => fun
  | [d1, d2, d3] => { results := [.lit (.bool false)], args := [d1, d2, d3] }
  | _ => none }
def CharstringsKindsWrongFalsely : Prop := charstringsKindsRow.holds Tryd.pinned (OpenSpec.ofChange charstringsKindsWrong)

/-- 'vidimuslaw09.CharstringsOrder': WHATEVER THE INPUT: true; the input reads as it did. -/
def charstringsOrderSpec : ChangeSpec := { name := "charstringsOrder", fn := fun _ => fun
  | [d1, d2, d3] => { results := [.lit (.bool true)], args := [d1, d2, d3] }
  | _ => none }
def charstringsOrderRow : OpenClaim := { program := "yteenamolccbcfaadoor", sum := "53c8d4aae88aabf8b92552b424e24d23af2ec2c04044becb51726ae40f139269", func := "vidimus/vidimuslaw09.CharstringsOrder", spec := "charstringsOrder", inPlace := ["internal/bytealg.IndexByteString", "internal/bytealg.IndexString", "internal/bytealg.abigen_runtime_cmpstring"], unfollowed := true, recurses := true, named := ["unicode/utf8.first", "unicode/utf8.acceptRanges", "internal/bytealg.MaxLen"], apart := false, laid := [("unicode/utf8.acceptRanges", laid_unicode_utf8_acceptRanges), ("unicode/utf8.first", laid_unicode_utf8_first)] }
def CharstringsOrderSaid : Prop := charstringsOrderRow.holds Tryd.pinned (OpenSpec.ofChange charstringsOrderSpec)

/-- ITS FALSE NEIGHBOUR: 'it returns false'. Refute it at one input. -/
def charstringsOrderWrong : ChangeSpec := { name := "charstringsOrder", fn := fun _ => fun
  | [d1, d2, d3] => { results := [.lit (.bool false)], args := [d1, d2, d3] }
  | _ => none }
def CharstringsOrderWrongFalsely : Prop := charstringsOrderRow.holds Tryd.pinned (OpenSpec.ofChange charstringsOrderWrong)

/-- 'vidimuslaw09.CharstringsKnown': WHATEVER THE INPUT: true; the input reads as it did. -/
def charstringsKnownSpec : ChangeSpec := { name := "charstringsKnown", fn := fun _ => fun
  | [] => { results := [.lit (.bool true)], args := [] }
  | _ => none }
def charstringsKnownRow : OpenClaim := { program := "yteenamolccbcfaadoor", sum := "53c8d4aae88aabf8b92552b424e24d23af2ec2c04044becb51726ae40f139269", func := "vidimus/vidimuslaw09.CharstringsKnown", spec := "charstringsKnown", inPlace := ["internal/bytealg.IndexByteString", "internal/bytealg.IndexString", "internal/bytealg.abigen_runtime_cmpstring"], unfollowed := true, recurses := true, named := ["unicode/utf8.first", "unicode/utf8.acceptRanges", "internal/bytealg.MaxLen"], apart := false, laid := [("unicode/utf8.acceptRanges", laid_unicode_utf8_acceptRanges), ("unicode/utf8.first", laid_unicode_utf8_first)] }
def CharstringsKnownSaid : Prop := charstringsKnownRow.holds Tryd.pinned (OpenSpec.ofChange charstringsKnownSpec)

/-- ITS FALSE NEIGHBOUR: 'it returns false'. Refute it at one input. -/
def charstringsKnownWrong : ChangeSpec := { name := "charstringsKnown", fn := fun _ => fun
  | [] => { results := [.lit (.bool false)], args := [] }
  | _ => none }
def CharstringsKnownWrongFalsely : Prop := charstringsKnownRow.holds Tryd.pinned (OpenSpec.ofChange charstringsKnownWrong)

/-- 'vidimuslaw09.CharstringsCheck': WHATEVER THE INPUT: true; the input reads as it did. -/
def charstringsCheckSpec : ChangeSpec := { name := "charstringsCheck", fn := fun _ => fun
  | [d1, d2] => { results := [.lit (.bool true)], args := [d1, d2] }
  | _ => none }
def charstringsCheckRow : OpenClaim := { program := "yteenamolccbcfaadoor", sum := "53c8d4aae88aabf8b92552b424e24d23af2ec2c04044becb51726ae40f139269", func := "vidimus/vidimuslaw09.CharstringsCheck", spec := "charstringsCheck", inPlace := ["internal/bytealg.IndexByteString", "internal/bytealg.IndexString", "internal/bytealg.abigen_runtime_cmpstring"], unfollowed := true, recurses := true, named := ["unicode/utf8.first", "unicode/utf8.acceptRanges", "internal/bytealg.MaxLen"], apart := false, laid := [("unicode/utf8.acceptRanges", laid_unicode_utf8_acceptRanges), ("unicode/utf8.first", laid_unicode_utf8_first)] }
def CharstringsCheckSaid : Prop := charstringsCheckRow.holds Tryd.pinned (OpenSpec.ofChange charstringsCheckSpec)

/-- ITS FALSE NEIGHBOUR: 'it returns false'. Refute it at one input. -/
def charstringsCheckWrong : ChangeSpec := { name := "charstringsCheck", fn := fun _ => fun
  | [d1, d2] => { results := [.lit (.bool false)], args := [d1, d2] }
  | _ => none }
def CharstringsCheckWrongFalsely : Prop := charstringsCheckRow.holds Tryd.pinned (OpenSpec.ofChange charstringsCheckWrong)

/-- 'vidimuslaw09.CharstringsOf': WHATEVER THE INPUT: true; the input reads as it did. -/
def charstringsOfSpec : ChangeSpec := { name := "charstringsOf", fn := fun _ => fun
  | [d] => { results := [.lit (.bool true)], args := [d] }
  | _ => none }
def charstringsOfRow : OpenClaim := { program := "yteenamolccbcfaadoor", sum := "53c8d4aae88aabf8b92552b424e24d23af2ec2c04044becb51726ae40f139269", func := "vidimus/vidimuslaw09.CharstringsOf", spec := "charstringsOf", inPlace := ["internal/bytealg.IndexByteString", "internal/bytealg.IndexString", "internal/bytealg.abigen_runtime_cmpstring"], unfollowed := true, recurses := true, named := ["unicode/utf8.first", "unicode/utf8.acceptRanges", "internal/bytealg.MaxLen"], loops := true, apart := false, laid := [("unicode/utf8.acceptRanges", laid_unicode_utf8_acceptRanges), ("unicode/utf8.first", laid_unicode_utf8_first)] }
def CharstringsOfSaid : Prop := charstringsOfRow.holds Tryd.pinned (OpenSpec.ofChange charstringsOfSpec)

/-- ITS FALSE NEIGHBOUR: 'it returns false'. Refute it at one input. -/
def charstringsOfWrong : ChangeSpec := { name := "charstringsOf", fn := fun _ => fun
  | [d] => { results := [.lit (.bool false)], args := [d] }
  | _ => none }
def CharstringsOfWrongFalsely : Prop := charstringsOfRow.holds Tryd.pinned (OpenSpec.ofChange charstringsOfWrong)

/-- 'vidimuslaw09.CharstringsBack': WHATEVER THE INPUT: true; the input reads as it did. -/
def charstringsBackSpec : ChangeSpec := { name := "charstringsBack", fn := fun _ => fun
  | [d] => { results := [.lit (.bool true)], args := [d] }
  | _ => none }
def charstringsBackRow : OpenClaim := { program := "yteenamolccbcfaadoor", sum := "53c8d4aae88aabf8b92552b424e24d23af2ec2c04044becb51726ae40f139269", func := "vidimus/vidimuslaw09.CharstringsBack", spec := "charstringsBack", inPlace := ["internal/bytealg.IndexByteString", "internal/bytealg.IndexString", "internal/bytealg.abigen_runtime_cmpstring"], unfollowed := true, recurses := true, named := ["unicode/utf8.first", "unicode/utf8.acceptRanges", "internal/bytealg.MaxLen"], apart := false, laid := [("unicode/utf8.acceptRanges", laid_unicode_utf8_acceptRanges), ("unicode/utf8.first", laid_unicode_utf8_first)] }
def CharstringsBackSaid : Prop := charstringsBackRow.holds Tryd.pinned (OpenSpec.ofChange charstringsBackSpec)

/-- ITS FALSE NEIGHBOUR: 'it returns false'. Refute it at one input. -/
def charstringsBackWrong : ChangeSpec := { name := "charstringsBack", fn := fun _ => fun
  | [d] => { results := [.lit (.bool false)], args := [d] }
  | _ => none }
def CharstringsBackWrongFalsely : Prop := charstringsBackRow.holds Tryd.pinned (OpenSpec.ofChange charstringsBackWrong)

/- THE SECOND FORM. 'bulk': how many values and letters a reading holds, each counted each time it is reached (what is shared counts as often as it is met; a slice's spare places count too). A statement '..UptoSaid' is the law's where the arguments, and the package variables that the reading takes, are together of bulk at most 1048576: NARROWER than '..Said'. Prove '..Said' where nothing that the law and all that it calls make is longer than what came in: it says more and counts as full. Else prove '..UptoSaid'. A law counts once. -/
mutual
def uptoBulk {H : Type} : DataW H → Nat
  | .lit (.string bytes) => bytes.length + 1
  | .lit _ => 1
  | .nil => 1
  | .ptr d => uptoBulk d + 1
  | .slice elems spare => uptoBulkAll elems + uptoBulkAll spare + 1
  | .agg parts => uptoBulkAll parts + 1
  | .iface _ d => uptoBulk d + 1
  | .map entries => uptoBulkEntries entries + 1
  | .held _ => 1
def uptoBulkAll {H : Type} : List (DataW H) → Nat
  | [] => 0
  | d :: r => uptoBulk d + uptoBulkAll r
def uptoBulkEntries {H : Type} : List (Lit × DataW H) → Nat
  | [] => 0
  | x :: r => uptoBulkEntry x + uptoBulkEntries r
def uptoBulkEntry {H : Type} : Lit × DataW H → Nat
  | (.string bytes, d) => bytes.length + uptoBulk d + 1
  | (_, d) => uptoBulk d + 1
 end
def uptoSmall : (H : Type) → List (DataW H) → Bool := fun _ ds => decide (uptoBulkAll ds ≤ 1048576)
def OpenSpec.upto (s : _root_.Go.ChangeSpec) : _root_.Go.OpenSpec := { _root_.Go.OpenSpec.ofChange s with cond := some uptoSmall }

/-- 'vidimuslaw09.CharstringsGet', WHERE WHAT IT READS IS OF BULK AT MOST 1048576: true; the input reads as it did. -/
def charstringsGetUptoRow : OpenClaim := { program := "yteenamolccbcfaadoor", sum := "53c8d4aae88aabf8b92552b424e24d23af2ec2c04044becb51726ae40f139269", func := "vidimus/vidimuslaw09.CharstringsGet", spec := "charstringsGet", inPlace := ["internal/bytealg.IndexByteString", "internal/bytealg.IndexString", "internal/bytealg.abigen_runtime_cmpstring"], unfollowed := true, recurses := true, named := ["unicode/utf8.first", "unicode/utf8.acceptRanges", "internal/bytealg.MaxLen"], apart := false, laid := [("unicode/utf8.acceptRanges", laid_unicode_utf8_acceptRanges), ("unicode/utf8.first", laid_unicode_utf8_first)], narrowed := true }
def CharstringsGetUptoSaid : Prop := charstringsGetUptoRow.holds Tryd.pinned (OpenSpec.upto charstringsGetSpec)

/-- 'vidimuslaw09.CharstringsKinds', WHERE WHAT IT READS IS OF BULK AT MOST 1048576: true; the input reads as it did. -/
def charstringsKindsUptoRow : OpenClaim := { program := "yteenamolccbcfaadoor", sum := "53c8d4aae88aabf8b92552b424e24d23af2ec2c04044becb51726ae40f139269", func := "vidimus/vidimuslaw09.CharstringsKinds", spec := "charstringsKinds", inPlace := ["internal/bytealg.IndexByteString", "internal/bytealg.IndexString", "internal/bytealg.abigen_runtime_cmpstring"], unfollowed := true, recurses := true, named := ["unicode/utf8.first", "unicode/utf8.acceptRanges", "internal/bytealg.MaxLen"], apart := false, laid := [("unicode/utf8.acceptRanges", laid_unicode_utf8_acceptRanges), ("unicode/utf8.first", laid_unicode_utf8_first)], narrowed := true }
def CharstringsKindsUptoSaid : Prop := charstringsKindsUptoRow.holds Tryd.pinned (OpenSpec.upto charstringsKindsSpec)

/-- 'vidimuslaw09.CharstringsOrder', WHERE WHAT IT READS IS OF BULK AT MOST 1048576: true; the input reads as it did. -/
def charstringsOrderUptoRow : OpenClaim := { program := "yteenamolccbcfaadoor", sum := "53c8d4aae88aabf8b92552b424e24d23af2ec2c04044becb51726ae40f139269", func := "vidimus/vidimuslaw09.CharstringsOrder", spec := "charstringsOrder", inPlace := ["internal/bytealg.IndexByteString", "internal/bytealg.IndexString", "internal/bytealg.abigen_runtime_cmpstring"], unfollowed := true, recurses := true, named := ["unicode/utf8.first", "unicode/utf8.acceptRanges", "internal/bytealg.MaxLen"], apart := false, laid := [("unicode/utf8.acceptRanges", laid_unicode_utf8_acceptRanges), ("unicode/utf8.first", laid_unicode_utf8_first)], narrowed := true }
def CharstringsOrderUptoSaid : Prop := charstringsOrderUptoRow.holds Tryd.pinned (OpenSpec.upto charstringsOrderSpec)

/-- 'vidimuslaw09.CharstringsKnown', WHERE WHAT IT READS IS OF BULK AT MOST 1048576: true; the input reads as it did. -/
def charstringsKnownUptoRow : OpenClaim := { program := "yteenamolccbcfaadoor", sum := "53c8d4aae88aabf8b92552b424e24d23af2ec2c04044becb51726ae40f139269", func := "vidimus/vidimuslaw09.CharstringsKnown", spec := "charstringsKnown", inPlace := ["internal/bytealg.IndexByteString", "internal/bytealg.IndexString", "internal/bytealg.abigen_runtime_cmpstring"], unfollowed := true, recurses := true, named := ["unicode/utf8.first", "unicode/utf8.acceptRanges", "internal/bytealg.MaxLen"], apart := false, laid := [("unicode/utf8.acceptRanges", laid_unicode_utf8_acceptRanges), ("unicode/utf8.first", laid_unicode_utf8_first)], narrowed := true }
def CharstringsKnownUptoSaid : Prop := charstringsKnownUptoRow.holds Tryd.pinned (OpenSpec.upto charstringsKnownSpec)

/-- 'vidimuslaw09.CharstringsCheck', WHERE WHAT IT READS IS OF BULK AT MOST 1048576: true; the input reads as it did. -/
def charstringsCheckUptoRow : OpenClaim := { program := "yteenamolccbcfaadoor", sum := "53c8d4aae88aabf8b92552b424e24d23af2ec2c04044becb51726ae40f139269", func := "vidimus/vidimuslaw09.CharstringsCheck", spec := "charstringsCheck", inPlace := ["internal/bytealg.IndexByteString", "internal/bytealg.IndexString", "internal/bytealg.abigen_runtime_cmpstring"], unfollowed := true, recurses := true, named := ["unicode/utf8.first", "unicode/utf8.acceptRanges", "internal/bytealg.MaxLen"], apart := false, laid := [("unicode/utf8.acceptRanges", laid_unicode_utf8_acceptRanges), ("unicode/utf8.first", laid_unicode_utf8_first)], narrowed := true }
def CharstringsCheckUptoSaid : Prop := charstringsCheckUptoRow.holds Tryd.pinned (OpenSpec.upto charstringsCheckSpec)

/-- 'vidimuslaw09.CharstringsOf', WHERE WHAT IT READS IS OF BULK AT MOST 1048576: true; the input reads as it did. -/
def charstringsOfUptoRow : OpenClaim := { program := "yteenamolccbcfaadoor", sum := "53c8d4aae88aabf8b92552b424e24d23af2ec2c04044becb51726ae40f139269", func := "vidimus/vidimuslaw09.CharstringsOf", spec := "charstringsOf", inPlace := ["internal/bytealg.IndexByteString", "internal/bytealg.IndexString", "internal/bytealg.abigen_runtime_cmpstring"], unfollowed := true, recurses := true, named := ["unicode/utf8.first", "unicode/utf8.acceptRanges", "internal/bytealg.MaxLen"], loops := true, apart := false, laid := [("unicode/utf8.acceptRanges", laid_unicode_utf8_acceptRanges), ("unicode/utf8.first", laid_unicode_utf8_first)], narrowed := true }
def CharstringsOfUptoSaid : Prop := charstringsOfUptoRow.holds Tryd.pinned (OpenSpec.upto charstringsOfSpec)

/-- 'vidimuslaw09.CharstringsBack', WHERE WHAT IT READS IS OF BULK AT MOST 1048576: true; the input reads as it did. -/
def charstringsBackUptoRow : OpenClaim := { program := "yteenamolccbcfaadoor", sum := "53c8d4aae88aabf8b92552b424e24d23af2ec2c04044becb51726ae40f139269", func := "vidimus/vidimuslaw09.CharstringsBack", spec := "charstringsBack", inPlace := ["internal/bytealg.IndexByteString", "internal/bytealg.IndexString", "internal/bytealg.abigen_runtime_cmpstring"], unfollowed := true, recurses := true, named := ["unicode/utf8.first", "unicode/utf8.acceptRanges", "internal/bytealg.MaxLen"], apart := false, laid := [("unicode/utf8.acceptRanges", laid_unicode_utf8_acceptRanges), ("unicode/utf8.first", laid_unicode_utf8_first)], narrowed := true }
def CharstringsBackUptoSaid : Prop := charstringsBackUptoRow.holds Tryd.pinned (OpenSpec.upto charstringsBackSpec)

end Rows
end Go.Proofs.YteenamolccbcfaaDoor
