/-
  NARROWER THAN 'FOR EVERY INPUT', by the rows' own cells (each row's printed sentence says how): BoundsFormulas: laid · BoundsOver: laid · BoundsKnown: laid · SummariesCounts: laid · OrdersCovers: laid · OrdersMeets: laid.
  DERIVED. THE GIVEN ROWS OF THIS SEAT. 6 by the template 'for every input the law returns true; each argument reads behind the call as it read before'; 0 by the template 'total and deterministic' (their statements: YtepnbdacekkapaaGreatDoorTotals.lean).
  GIVEN WITH THE SEED: the statements are not yours to turn. If you find one false, say at which input.
  Laid BY PROGRAM, IN A SANDBOX (cutbox-rows.mjs): the forced cells as the released guide's own fill.sh prints them over the translation 428c39b338f3af1f… (all of the seat's roots in one cut). By AI agents, Wed Nov 11 2026. No macro, syntax, notation, axiom, sorry.
-/
import Derived.Test.YtepnbdacekkapaaGreatDoorChecked
import GoSem.PinnedTables
import GoSem.Claim
import GoSem.ClaimJoined
import GoSem.ClaimMapViews
import Derived.JoinedTies
import Derived.KernelRfl
namespace Go.Proofs.YtepnbdacekkapaaGreatDoor
/- THE CELL 'sum', in the pinned program and in every row, IS THE sha256 OF THE DUMP (.gsa) THAT YtepnbdacekkapaaGreatDoorProg.lean LOADS. Nothing in Lean hashes anything: it is a label: what it is worth is what the hold of that sum in a sandbox is worth. -/
noncomputable def Tryz.pinned : Pinned := { name := "ytepnbdacekkapaagreatdoor", sum := "428c39b338f3af1f1029435bde4ab335c468b6bc761f28def42aff27a9845db5", checked := Tryz.checked }
namespace Rows
def none {H : Type} : Left H := { results := [], args := [] }

/- WHAT THE LISTED PACKAGE-LEVEL VARIABLES READ AS WHEN THE CALL BEGINS. Each datum BY PROGRAM (the guide's laid-datum.mjs) off the statement by which the dump's own 'gosem.cut.vars' lays the variable. In a bare row this is a premise. The card (YtepnbdacekkapaaGreatDoorCards.lean) ties it to the program's text. -/
def laid_unicode_utf8_acceptRanges {H : Type} : DataW H := .agg [.agg [.lit (.int .u8 128), .lit (.int .u8 191)], .agg [.lit (.int .u8 160), .lit (.int .u8 191)], .agg [.lit (.int .u8 128), .lit (.int .u8 159)], .agg [.lit (.int .u8 144), .lit (.int .u8 191)], .agg [.lit (.int .u8 128), .lit (.int .u8 143)], .agg [.lit (.int .u8 0), .lit (.int .u8 0)], .agg [.lit (.int .u8 0), .lit (.int .u8 0)], .agg [.lit (.int .u8 0), .lit (.int .u8 0)], .agg [.lit (.int .u8 0), .lit (.int .u8 0)], .agg [.lit (.int .u8 0), .lit (.int .u8 0)], .agg [.lit (.int .u8 0), .lit (.int .u8 0)], .agg [.lit (.int .u8 0), .lit (.int .u8 0)], .agg [.lit (.int .u8 0), .lit (.int .u8 0)], .agg [.lit (.int .u8 0), .lit (.int .u8 0)], .agg [.lit (.int .u8 0), .lit (.int .u8 0)], .agg [.lit (.int .u8 0), .lit (.int .u8 0)]]
def laid_vidimus_qualifiers_sequence {H : Type} : DataW H := .agg [.lit (.int .u8 0), .lit (.bool true), .lit (.int .u32 16)]
def laid_vidimus_qualifiers_oid {H : Type} : DataW H := .agg [.lit (.int .u8 0), .lit (.bool false), .lit (.int .u32 6)]
def laid_vidimus_qualifiers_ia5 {H : Type} : DataW H := .agg [.lit (.int .u8 0), .lit (.bool false), .lit (.int .u32 22)]
def laid_vidimus_qualifiers_integer {H : Type} : DataW H := .agg [.lit (.int .u8 0), .lit (.bool false), .lit (.int .u32 2)]
def laid_vidimus_qualifiers_shown {H : Type} : DataW H := .agg [.lit (.int .u32 12), .lit (.int .u32 22), .lit (.int .u32 26), .lit (.int .u32 30)]
/-- One of Go's own tables, pinned by name: the form's constant. -/
def laid_unicode_utf8_first : DataW Unit := Go.Pinned.utf8First

/-- 'vidimuslaw36.BoundsFormulas': WHATEVER THE INPUT: true; the input reads as it did. -/
def boundsFormulasSpec : ChangeSpec := { name := "boundsFormulas", fn := fun _ => fun
  | [d1, d2, d3] => { results := [.lit (.bool true)], args := [d1, d2, d3] }
  | _ => none }
def boundsFormulasRow : OpenClaim := { program := "ytepnbdacekkapaagreatdoor", sum := "428c39b338f3af1f1029435bde4ab335c468b6bc761f28def42aff27a9845db5", func := "vidimus/vidimuslaw36.BoundsFormulas", spec := "boundsFormulas", inPlace := ["internal/bytealg.IndexByteString", "internal/bytealg.IndexString"], unfollowed := true, recurses := true, named := ["vidimus/qualifiers.sequence", "vidimus/qualifiers.oid", "vidimus/qualifiers.ia5", "vidimus/qualifiers.shown", "unicode/utf8.first", "unicode/utf8.acceptRanges", "vidimus/qualifiers.integer", "internal/bytealg.MaxLen"], plainKeys := false, apart := false, laid := [("unicode/utf8.acceptRanges", laid_unicode_utf8_acceptRanges), ("vidimus/qualifiers.sequence", laid_vidimus_qualifiers_sequence), ("vidimus/qualifiers.oid", laid_vidimus_qualifiers_oid), ("vidimus/qualifiers.ia5", laid_vidimus_qualifiers_ia5), ("vidimus/qualifiers.integer", laid_vidimus_qualifiers_integer), ("vidimus/qualifiers.shown", laid_vidimus_qualifiers_shown), ("unicode/utf8.first", laid_unicode_utf8_first)] }
def BoundsFormulasSaid : Prop := boundsFormulasRow.holds Tryz.pinned (OpenSpec.ofChange boundsFormulasSpec)

/-- ITS FALSE NEIGHBOUR: 'it returns false'. Refute it at one input. -/
def boundsFormulasWrong : ChangeSpec := { name := "boundsFormulas", fn := fun _ => fun
  | [d1, d2, d3] => { results := [.lit (.bool false)], args := [d1, d2, d3] }
  | _ => none }
def BoundsFormulasWrongFalsely : Prop := boundsFormulasRow.holds Tryz.pinned (OpenSpec.ofChange boundsFormulasWrong)

/-- 'vidimuslaw36.BoundsOver': WHATEVER THE INPUT: true; the input reads as it did. -/
def boundsOverSpec : ChangeSpec := { name := "boundsOver", fn := fun _ => fun
  | [d] => { results := [.lit (.bool true)], args := [d] }
  | _ => none }
def boundsOverRow : OpenClaim := { program := "ytepnbdacekkapaagreatdoor", sum := "428c39b338f3af1f1029435bde4ab335c468b6bc761f28def42aff27a9845db5", func := "vidimus/vidimuslaw36.BoundsOver", spec := "boundsOver", inPlace := ["internal/bytealg.IndexByteString", "internal/bytealg.IndexString"], unfollowed := true, recurses := true, named := ["vidimus/qualifiers.sequence", "vidimus/qualifiers.oid", "vidimus/qualifiers.ia5", "vidimus/qualifiers.shown", "unicode/utf8.first", "unicode/utf8.acceptRanges", "vidimus/qualifiers.integer", "internal/bytealg.MaxLen"], plainKeys := false, apart := false, laid := [("unicode/utf8.acceptRanges", laid_unicode_utf8_acceptRanges), ("vidimus/qualifiers.sequence", laid_vidimus_qualifiers_sequence), ("vidimus/qualifiers.oid", laid_vidimus_qualifiers_oid), ("vidimus/qualifiers.ia5", laid_vidimus_qualifiers_ia5), ("vidimus/qualifiers.integer", laid_vidimus_qualifiers_integer), ("vidimus/qualifiers.shown", laid_vidimus_qualifiers_shown), ("unicode/utf8.first", laid_unicode_utf8_first)] }
def BoundsOverSaid : Prop := boundsOverRow.holds Tryz.pinned (OpenSpec.ofChange boundsOverSpec)

/-- ITS FALSE NEIGHBOUR: 'it returns false'. Refute it at one input. -/
def boundsOverWrong : ChangeSpec := { name := "boundsOver", fn := fun _ => fun
  | [d] => { results := [.lit (.bool false)], args := [d] }
  | _ => none }
def BoundsOverWrongFalsely : Prop := boundsOverRow.holds Tryz.pinned (OpenSpec.ofChange boundsOverWrong)

/-- 'vidimuslaw36.BoundsKnown': WHATEVER THE INPUT: true; the input reads as it did. -/
def boundsKnownSpec : ChangeSpec := { name := "boundsKnown", fn := fun _ => fun
  | [] => { results := [.lit (.bool true)], args := [] }
  | _ => none }
def boundsKnownRow : OpenClaim := { program := "ytepnbdacekkapaagreatdoor", sum := "428c39b338f3af1f1029435bde4ab335c468b6bc761f28def42aff27a9845db5", func := "vidimus/vidimuslaw36.BoundsKnown", spec := "boundsKnown", inPlace := ["internal/bytealg.IndexByteString", "internal/bytealg.IndexString"], unfollowed := true, recurses := true, named := ["vidimus/qualifiers.sequence", "vidimus/qualifiers.oid", "vidimus/qualifiers.ia5", "vidimus/qualifiers.shown", "unicode/utf8.first", "unicode/utf8.acceptRanges", "vidimus/qualifiers.integer", "internal/bytealg.MaxLen"], plainKeys := false, apart := false, laid := [("unicode/utf8.acceptRanges", laid_unicode_utf8_acceptRanges), ("vidimus/qualifiers.sequence", laid_vidimus_qualifiers_sequence), ("vidimus/qualifiers.oid", laid_vidimus_qualifiers_oid), ("vidimus/qualifiers.ia5", laid_vidimus_qualifiers_ia5), ("vidimus/qualifiers.integer", laid_vidimus_qualifiers_integer), ("vidimus/qualifiers.shown", laid_vidimus_qualifiers_shown), ("unicode/utf8.first", laid_unicode_utf8_first)] }
def BoundsKnownSaid : Prop := boundsKnownRow.holds Tryz.pinned (OpenSpec.ofChange boundsKnownSpec)

/-- ITS FALSE NEIGHBOUR: 'it returns false'. Refute it at one input. -/
def boundsKnownWrong : ChangeSpec := { name := "boundsKnown", fn := fun _ => fun
  | [] => { results := [.lit (.bool false)], args := [] }
  | _ => none }
def BoundsKnownWrongFalsely : Prop := boundsKnownRow.holds Tryz.pinned (OpenSpec.ofChange boundsKnownWrong)

/-- 'vidimuslaw38.SummariesCounts': WHATEVER THE INPUT: true; the input reads as it did. -/
def summariesCountsSpec : ChangeSpec := { name := "summariesCounts", fn := fun _ => fun
  | [d1, d2, d3] => { results := [.lit (.bool true)], args := [d1, d2, d3] }
  | _ => none }
def summariesCountsRow : OpenClaim := { program := "ytepnbdacekkapaagreatdoor", sum := "428c39b338f3af1f1029435bde4ab335c468b6bc761f28def42aff27a9845db5", func := "vidimus/vidimuslaw38.SummariesCounts", spec := "summariesCounts", inPlace := ["internal/bytealg.IndexByteString", "internal/bytealg.IndexString"], unfollowed := true, recurses := true, named := ["vidimus/qualifiers.sequence", "vidimus/qualifiers.oid", "vidimus/qualifiers.ia5", "vidimus/qualifiers.shown", "unicode/utf8.first", "unicode/utf8.acceptRanges", "vidimus/qualifiers.integer", "internal/bytealg.MaxLen"], plainKeys := false, apart := false, laid := [("unicode/utf8.acceptRanges", laid_unicode_utf8_acceptRanges), ("vidimus/qualifiers.sequence", laid_vidimus_qualifiers_sequence), ("vidimus/qualifiers.oid", laid_vidimus_qualifiers_oid), ("vidimus/qualifiers.ia5", laid_vidimus_qualifiers_ia5), ("vidimus/qualifiers.integer", laid_vidimus_qualifiers_integer), ("vidimus/qualifiers.shown", laid_vidimus_qualifiers_shown), ("unicode/utf8.first", laid_unicode_utf8_first)] }
def SummariesCountsSaid : Prop := summariesCountsRow.holds Tryz.pinned (OpenSpec.ofChange summariesCountsSpec)

/-- ITS FALSE NEIGHBOUR: 'it returns false'. Refute it at one input. -/
def summariesCountsWrong : ChangeSpec := { name := "summariesCounts", fn := fun _ => fun
  | [d1, d2, d3] => { results := [.lit (.bool false)], args := [d1, d2, d3] }
  | _ => none }
def SummariesCountsWrongFalsely : Prop := summariesCountsRow.holds Tryz.pinned (OpenSpec.ofChange summariesCountsWrong)

/-- 'vidimuslaw37.OrdersCovers': WHATEVER THE INPUT: true; the input reads as it did. -/
def ordersCoversSpec : ChangeSpec := { name := "ordersCovers", fn := fun _ => fun
  | [d1, d2] => { results := [.lit (.bool true)], args := [d1, d2] }
  | _ => none }
def ordersCoversRow : OpenClaim := { program := "ytepnbdacekkapaagreatdoor", sum := "428c39b338f3af1f1029435bde4ab335c468b6bc761f28def42aff27a9845db5", func := "vidimus/vidimuslaw37.OrdersCovers", spec := "ordersCovers", inPlace := ["internal/bytealg.IndexByteString", "internal/bytealg.IndexString"], unfollowed := true, recurses := true, named := ["vidimus/qualifiers.sequence", "vidimus/qualifiers.oid", "vidimus/qualifiers.ia5", "vidimus/qualifiers.shown", "unicode/utf8.first", "unicode/utf8.acceptRanges", "vidimus/qualifiers.integer", "internal/bytealg.MaxLen"], plainKeys := false, apart := false, laid := [("unicode/utf8.acceptRanges", laid_unicode_utf8_acceptRanges), ("vidimus/qualifiers.sequence", laid_vidimus_qualifiers_sequence), ("vidimus/qualifiers.oid", laid_vidimus_qualifiers_oid), ("vidimus/qualifiers.ia5", laid_vidimus_qualifiers_ia5), ("vidimus/qualifiers.integer", laid_vidimus_qualifiers_integer), ("vidimus/qualifiers.shown", laid_vidimus_qualifiers_shown), ("unicode/utf8.first", laid_unicode_utf8_first)] }
def OrdersCoversSaid : Prop := ordersCoversRow.holds Tryz.pinned (OpenSpec.ofChange ordersCoversSpec)

/-- ITS FALSE NEIGHBOUR: 'it returns false'. Refute it at one input. -/
def ordersCoversWrong : ChangeSpec := { name := "ordersCovers", fn := fun _ => fun
  | [d1, d2] => { results := [.lit (.bool false)], args := [d1, d2] }
  | _ => none }
def OrdersCoversWrongFalsely : Prop := ordersCoversRow.holds Tryz.pinned (OpenSpec.ofChange ordersCoversWrong)

/-- 'vidimuslaw37.OrdersMeets': WHATEVER THE INPUT: true; the input reads as it did. -/
def ordersMeetsSpec : ChangeSpec := { name := "ordersMeets", fn := fun _ => fun
  | [d1, d2] => { results := [.lit (.bool true)], args := [d1, d2] }
  | _ => none }
def ordersMeetsRow : OpenClaim := { program := "ytepnbdacekkapaagreatdoor", sum := "428c39b338f3af1f1029435bde4ab335c468b6bc761f28def42aff27a9845db5", func := "vidimus/vidimuslaw37.OrdersMeets", spec := "ordersMeets", inPlace := ["internal/bytealg.IndexByteString", "internal/bytealg.IndexString"], unfollowed := true, recurses := true, named := ["vidimus/qualifiers.sequence", "vidimus/qualifiers.oid", "vidimus/qualifiers.ia5", "vidimus/qualifiers.shown", "unicode/utf8.first", "unicode/utf8.acceptRanges", "vidimus/qualifiers.integer", "internal/bytealg.MaxLen"], plainKeys := false, apart := false, laid := [("unicode/utf8.acceptRanges", laid_unicode_utf8_acceptRanges), ("vidimus/qualifiers.sequence", laid_vidimus_qualifiers_sequence), ("vidimus/qualifiers.oid", laid_vidimus_qualifiers_oid), ("vidimus/qualifiers.ia5", laid_vidimus_qualifiers_ia5), ("vidimus/qualifiers.integer", laid_vidimus_qualifiers_integer), ("vidimus/qualifiers.shown", laid_vidimus_qualifiers_shown), ("unicode/utf8.first", laid_unicode_utf8_first)] }
def OrdersMeetsSaid : Prop := ordersMeetsRow.holds Tryz.pinned (OpenSpec.ofChange ordersMeetsSpec)

/-- ITS FALSE NEIGHBOUR: 'it returns false'. Refute it at one input. -/
def ordersMeetsWrong : ChangeSpec := { name := "ordersMeets", fn := fun _ => fun
  | [d1, d2] => { results := [.lit (.bool false)], args := [d1, d2] }
  | _ => none }
def OrdersMeetsWrongFalsely : Prop := ordersMeetsRow.holds Tryz.pinned (OpenSpec.ofChange ordersMeetsWrong)

/- THE SECOND FORM. 'bulk': how many values and letters a reading holds, each counted each time it is reached (what is shared counts as often as it is met; a slice's spare places count too). A statement '..UptoSaid' is the law's where the arguments, and the package variables that the reading takes, are together of bulk at most 1048576: NARROWER than '..Said'. Prove '..Said' where nothing that the law and all that it calls make is longer than what came in: it says more and counts as full. Else prove '..UptoSaid'. A law counts once. -/
mutual
def uptoBulk {H : Type} : DataW H → Nat
  | .lit (.string bytes) => bytes.length + 1
  | .lit _ => 1
  | .nil => 1
  | .ptr d => uptoBulk d + 1
  | .slice elems spare => uptoBulkAll elems + uptoBulkAll spare + 1
  | .agg parts => uptoBulkAll parts + 1
  | .iface _ d => uptoBulk d + 1
  | .map entries => uptoBulkEntries entries + 1
  | .held _ => 1
def uptoBulkAll {H : Type} : List (DataW H) → Nat
  | [] => 0
  | d :: r => uptoBulk d + uptoBulkAll r
def uptoBulkEntries {H : Type} : List (Lit × DataW H) → Nat
  | [] => 0
  | x :: r => uptoBulkEntry x + uptoBulkEntries r
def uptoBulkEntry {H : Type} : Lit × DataW H → Nat
  | (.string bytes, d) => bytes.length + uptoBulk d + 1
  | (_, d) => uptoBulk d + 1
 end
def uptoSmall : (H : Type) → List (DataW H) → Bool := fun _ ds => decide (uptoBulkAll ds ≤ 1048576)
def OpenSpec.upto (s : _root_.Go.ChangeSpec) : _root_.Go.OpenSpec := { _root_.Go.OpenSpec.ofChange s with cond := some uptoSmall }

/-- 'vidimuslaw36.BoundsFormulas', WHERE WHAT IT READS IS OF BULK AT MOST 1048576: true; the input reads as it did. -/
def boundsFormulasUptoRow : OpenClaim := { program := "ytepnbdacekkapaagreatdoor", sum := "428c39b338f3af1f1029435bde4ab335c468b6bc761f28def42aff27a9845db5", func := "vidimus/vidimuslaw36.BoundsFormulas", spec := "boundsFormulas", inPlace := ["internal/bytealg.IndexByteString", "internal/bytealg.IndexString"], unfollowed := true, recurses := true, named := ["vidimus/qualifiers.sequence", "vidimus/qualifiers.oid", "vidimus/qualifiers.ia5", "vidimus/qualifiers.shown", "unicode/utf8.first", "unicode/utf8.acceptRanges", "vidimus/qualifiers.integer", "internal/bytealg.MaxLen"], plainKeys := false, apart := false, laid := [("unicode/utf8.acceptRanges", laid_unicode_utf8_acceptRanges), ("vidimus/qualifiers.sequence", laid_vidimus_qualifiers_sequence), ("vidimus/qualifiers.oid", laid_vidimus_qualifiers_oid), ("vidimus/qualifiers.ia5", laid_vidimus_qualifiers_ia5), ("vidimus/qualifiers.integer", laid_vidimus_qualifiers_integer), ("vidimus/qualifiers.shown", laid_vidimus_qualifiers_shown), ("unicode/utf8.first", laid_unicode_utf8_first)], narrowed := true }
def BoundsFormulasUptoSaid : Prop := boundsFormulasUptoRow.holds Tryz.pinned (OpenSpec.upto boundsFormulasSpec)

/-- 'vidimuslaw36.BoundsOver', WHERE WHAT IT READS IS OF BULK AT MOST 1048576: true; the input reads as it did. -/
def boundsOverUptoRow : OpenClaim := { program := "ytepnbdacekkapaagreatdoor", sum := "428c39b338f3af1f1029435bde4ab335c468b6bc761f28def42aff27a9845db5", func := "vidimus/vidimuslaw36.BoundsOver", spec := "boundsOver", inPlace := ["internal/bytealg.IndexByteString", "internal/bytealg.IndexString"], unfollowed := true, recurses := true, named := ["vidimus/qualifiers.sequence", "vidimus/qualifiers.oid", "vidimus/qualifiers.ia5", "vidimus/qualifiers.shown", "unicode/utf8.first", "unicode/utf8.acceptRanges", "vidimus/qualifiers.integer", "internal/bytealg.MaxLen"], plainKeys := false, apart := false, laid := [("unicode/utf8.acceptRanges", laid_unicode_utf8_acceptRanges), ("vidimus/qualifiers.sequence", laid_vidimus_qualifiers_sequence), ("vidimus/qualifiers.oid", laid_vidimus_qualifiers_oid), ("vidimus/qualifiers.ia5", laid_vidimus_qualifiers_ia5), ("vidimus/qualifiers.integer", laid_vidimus_qualifiers_integer), ("vidimus/qualifiers.shown", laid_vidimus_qualifiers_shown), ("unicode/utf8.first", laid_unicode_utf8_first)], narrowed := true }
def BoundsOverUptoSaid : Prop := boundsOverUptoRow.holds Tryz.pinned (OpenSpec.upto boundsOverSpec)

/-- 'vidimuslaw36.BoundsKnown', WHERE WHAT IT READS IS OF BULK AT MOST 1048576: true; the input reads as it did. -/
def boundsKnownUptoRow : OpenClaim := { program := "ytepnbdacekkapaagreatdoor", sum := "428c39b338f3af1f1029435bde4ab335c468b6bc761f28def42aff27a9845db5", func := "vidimus/vidimuslaw36.BoundsKnown", spec := "boundsKnown", inPlace := ["internal/bytealg.IndexByteString", "internal/bytealg.IndexString"], unfollowed := true, recurses := true, named := ["vidimus/qualifiers.sequence", "vidimus/qualifiers.oid", "vidimus/qualifiers.ia5", "vidimus/qualifiers.shown", "unicode/utf8.first", "unicode/utf8.acceptRanges", "vidimus/qualifiers.integer", "internal/bytealg.MaxLen"], plainKeys := false, apart := false, laid := [("unicode/utf8.acceptRanges", laid_unicode_utf8_acceptRanges), ("vidimus/qualifiers.sequence", laid_vidimus_qualifiers_sequence), ("vidimus/qualifiers.oid", laid_vidimus_qualifiers_oid), ("vidimus/qualifiers.ia5", laid_vidimus_qualifiers_ia5), ("vidimus/qualifiers.integer", laid_vidimus_qualifiers_integer), ("vidimus/qualifiers.shown", laid_vidimus_qualifiers_shown), ("unicode/utf8.first", laid_unicode_utf8_first)], narrowed := true }
def BoundsKnownUptoSaid : Prop := boundsKnownUptoRow.holds Tryz.pinned (OpenSpec.upto boundsKnownSpec)

/-- 'vidimuslaw38.SummariesCounts', WHERE WHAT IT READS IS OF BULK AT MOST 1048576: true; the input reads as it did. -/
def summariesCountsUptoRow : OpenClaim := { program := "ytepnbdacekkapaagreatdoor", sum := "428c39b338f3af1f1029435bde4ab335c468b6bc761f28def42aff27a9845db5", func := "vidimus/vidimuslaw38.SummariesCounts", spec := "summariesCounts", inPlace := ["internal/bytealg.IndexByteString", "internal/bytealg.IndexString"], unfollowed := true, recurses := true, named := ["vidimus/qualifiers.sequence", "vidimus/qualifiers.oid", "vidimus/qualifiers.ia5", "vidimus/qualifiers.shown", "unicode/utf8.first", "unicode/utf8.acceptRanges", "vidimus/qualifiers.integer", "internal/bytealg.MaxLen"], plainKeys := false, apart := false, laid := [("unicode/utf8.acceptRanges", laid_unicode_utf8_acceptRanges), ("vidimus/qualifiers.sequence", laid_vidimus_qualifiers_sequence), ("vidimus/qualifiers.oid", laid_vidimus_qualifiers_oid), ("vidimus/qualifiers.ia5", laid_vidimus_qualifiers_ia5), ("vidimus/qualifiers.integer", laid_vidimus_qualifiers_integer), ("vidimus/qualifiers.shown", laid_vidimus_qualifiers_shown), ("unicode/utf8.first", laid_unicode_utf8_first)], narrowed := true }
def SummariesCountsUptoSaid : Prop := summariesCountsUptoRow.holds Tryz.pinned (OpenSpec.upto summariesCountsSpec)

/-- 'vidimuslaw37.OrdersCovers', WHERE WHAT IT READS IS OF BULK AT MOST 1048576: true; the input reads as it did. -/
def ordersCoversUptoRow : OpenClaim := { program := "ytepnbdacekkapaagreatdoor", sum := "428c39b338f3af1f1029435bde4ab335c468b6bc761f28def42aff27a9845db5", func := "vidimus/vidimuslaw37.OrdersCovers", spec := "ordersCovers", inPlace := ["internal/bytealg.IndexByteString", "internal/bytealg.IndexString"], unfollowed := true, recurses := true, named := ["vidimus/qualifiers.sequence", "vidimus/qualifiers.oid", "vidimus/qualifiers.ia5", "vidimus/qualifiers.shown", "unicode/utf8.first", "unicode/utf8.acceptRanges", "vidimus/qualifiers.integer", "internal/bytealg.MaxLen"], plainKeys := false, apart := false, laid := [("unicode/utf8.acceptRanges", laid_unicode_utf8_acceptRanges), ("vidimus/qualifiers.sequence", laid_vidimus_qualifiers_sequence), ("vidimus/qualifiers.oid", laid_vidimus_qualifiers_oid), ("vidimus/qualifiers.ia5", laid_vidimus_qualifiers_ia5), ("vidimus/qualifiers.integer", laid_vidimus_qualifiers_integer), ("vidimus/qualifiers.shown", laid_vidimus_qualifiers_shown), ("unicode/utf8.first", laid_unicode_utf8_first)], narrowed := true }
def OrdersCoversUptoSaid : Prop := ordersCoversUptoRow.holds Tryz.pinned (OpenSpec.upto ordersCoversSpec)

/-- 'vidimuslaw37.OrdersMeets', WHERE WHAT IT READS IS OF BULK AT MOST 1048576: true; the input reads as it did. -/
def ordersMeetsUptoRow : OpenClaim := { program := "ytepnbdacekkapaagreatdoor", sum := "428c39b338f3af1f1029435bde4ab335c468b6bc761f28def42aff27a9845db5", func := "vidimus/vidimuslaw37.OrdersMeets", spec := "ordersMeets", inPlace := ["internal/bytealg.IndexByteString", "internal/bytealg.IndexString"], unfollowed := true, recurses := true, named := ["vidimus/qualifiers.sequence", "vidimus/qualifiers.oid", "vidimus/qualifiers.ia5", "vidimus/qualifiers.shown", "unicode/utf8.first", "unicode/utf8.acceptRanges", "vidimus/qualifiers.integer", "internal/bytealg.MaxLen"], plainKeys := false, apart := false, laid := [("unicode/utf8.acceptRanges", laid_unicode_utf8_acceptRanges), ("vidimus/qualifiers.sequence", laid_vidimus_qualifiers_sequence), ("vidimus/qualifiers.oid", laid_vidimus_qualifiers_oid), ("vidimus/qualifiers.ia5", laid_vidimus_qualifiers_ia5), ("vidimus/qualifiers.integer", laid_vidimus_qualifiers_integer), ("vidimus/qualifiers.shown", laid_vidimus_qualifiers_shown), ("unicode/utf8.first", laid_unicode_utf8_first)], narrowed := true }
def OrdersMeetsUptoSaid : Prop := ordersMeetsUptoRow.holds Tryz.pinned (OpenSpec.upto ordersMeetsSpec)

end Rows
end Go.Proofs.YtepnbdacekkapaaGreatDoor
