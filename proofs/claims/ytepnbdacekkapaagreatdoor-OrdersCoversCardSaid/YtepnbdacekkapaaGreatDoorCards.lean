/-
  DERIVED. GIVEN WITH THE SEED: THE CARDS: each row of YtepnbdacekkapaaGreatDoorRows.lean that lists a variable, with what it lists TIED to the program's text (the seventh form; the later family's looks); each row that meets fmt, with fmt's text TOLD by the authors' own Lean function (tested against real Go, not proved from fmt's source: count such statements apart). THE CARD IS WHAT COUNTS. Prove the row's statement (the work); the ties are given (YtepnbdacekkapaaGreatDoorTie.lean); close each card by the builder's one call (the guide's Derived/Test/ToyasCard.lean, 'card_holds'). Laid BY PROGRAM, IN A SANDBOX (cutbox-door.mjs). By AI agents, Wed Nov 11 2026. No macro, syntax, notation, axiom, sorry.
-/
import Derived.Test.YtepnbdacekkapaaGreatDoorRows
import GoSem.ClaimSeven
namespace Go.Proofs.YtepnbdacekkapaaGreatDoor
namespace Rows

/-- THE TIED CARD OF 'vidimuslaw36.BoundsFormulas'. -/
def boundsFormulasCard : Claim7 := { stood := { row := boundsFormulasRow, standIns := [], harness := (true, "26c7437f99d33baf9c1da984e4f6e7f3fa6f01c109d766250289c23377c94820"), looks := true }, kinds := [], alts := [], laidByText := true, laidKinds := [.data, .data, .data, .data, .data, .widerDeep, .pinned], laidTests := true, laidLooks := .later }
def BoundsFormulasCardSaid : Prop := Claim7.holds Tryz.pinned (.plain (OpenSpec.ofChange boundsFormulasSpec)) boundsFormulasCard

/-- THE TIED CARD OF 'vidimuslaw36.BoundsOver'. -/
def boundsOverCard : Claim7 := { stood := { row := boundsOverRow, standIns := [], harness := (true, "26c7437f99d33baf9c1da984e4f6e7f3fa6f01c109d766250289c23377c94820"), looks := true }, kinds := [], alts := [], laidByText := true, laidKinds := [.data, .data, .data, .data, .data, .widerDeep, .pinned], laidTests := true, laidLooks := .later }
def BoundsOverCardSaid : Prop := Claim7.holds Tryz.pinned (.plain (OpenSpec.ofChange boundsOverSpec)) boundsOverCard

/-- THE TIED CARD OF 'vidimuslaw36.BoundsKnown'. -/
def boundsKnownCard : Claim7 := { stood := { row := boundsKnownRow, standIns := [], harness := (true, "26c7437f99d33baf9c1da984e4f6e7f3fa6f01c109d766250289c23377c94820"), looks := true }, kinds := [], alts := [], laidByText := true, laidKinds := [.data, .data, .data, .data, .data, .widerDeep, .pinned], laidTests := true, laidLooks := .later }
def BoundsKnownCardSaid : Prop := Claim7.holds Tryz.pinned (.plain (OpenSpec.ofChange boundsKnownSpec)) boundsKnownCard

/-- THE TIED CARD OF 'vidimuslaw38.SummariesCounts'. -/
def summariesCountsCard : Claim7 := { stood := { row := summariesCountsRow, standIns := [], harness := (true, "26c7437f99d33baf9c1da984e4f6e7f3fa6f01c109d766250289c23377c94820"), looks := true }, kinds := [], alts := [], laidByText := true, laidKinds := [.data, .data, .data, .data, .data, .widerDeep, .pinned], laidTests := true, laidLooks := .later }
def SummariesCountsCardSaid : Prop := Claim7.holds Tryz.pinned (.plain (OpenSpec.ofChange summariesCountsSpec)) summariesCountsCard

/-- THE TIED CARD OF 'vidimuslaw37.OrdersCovers'. -/
def ordersCoversCard : Claim7 := { stood := { row := ordersCoversRow, standIns := [], harness := (true, "26c7437f99d33baf9c1da984e4f6e7f3fa6f01c109d766250289c23377c94820"), looks := true }, kinds := [], alts := [], laidByText := true, laidKinds := [.data, .data, .data, .data, .data, .widerDeep, .pinned], laidTests := true, laidLooks := .later }
def OrdersCoversCardSaid : Prop := Claim7.holds Tryz.pinned (.plain (OpenSpec.ofChange ordersCoversSpec)) ordersCoversCard

/-- THE TIED CARD OF 'vidimuslaw37.OrdersMeets'. -/
def ordersMeetsCard : Claim7 := { stood := { row := ordersMeetsRow, standIns := [], harness := (true, "26c7437f99d33baf9c1da984e4f6e7f3fa6f01c109d766250289c23377c94820"), looks := true }, kinds := [], alts := [], laidByText := true, laidKinds := [.data, .data, .data, .data, .data, .widerDeep, .pinned], laidTests := true, laidLooks := .later }
def OrdersMeetsCardSaid : Prop := Claim7.holds Tryz.pinned (.plain (OpenSpec.ofChange ordersMeetsSpec)) ordersMeetsCard

/-- THE SECOND FORM's CARD OF 'vidimuslaw36.BoundsFormulas'. -/
def boundsFormulasUptoCard : Claim7 := { stood := { row := boundsFormulasUptoRow, standIns := [], harness := (true, "26c7437f99d33baf9c1da984e4f6e7f3fa6f01c109d766250289c23377c94820"), looks := true }, kinds := [], alts := [], laidByText := true, laidKinds := [.data, .data, .data, .data, .data, .widerDeep, .pinned], laidTests := true, laidLooks := .later }
def BoundsFormulasUptoCardSaid : Prop := Claim7.holds Tryz.pinned (.plain (OpenSpec.upto boundsFormulasSpec)) boundsFormulasUptoCard

/-- THE SECOND FORM's CARD OF 'vidimuslaw36.BoundsOver'. -/
def boundsOverUptoCard : Claim7 := { stood := { row := boundsOverUptoRow, standIns := [], harness := (true, "26c7437f99d33baf9c1da984e4f6e7f3fa6f01c109d766250289c23377c94820"), looks := true }, kinds := [], alts := [], laidByText := true, laidKinds := [.data, .data, .data, .data, .data, .widerDeep, .pinned], laidTests := true, laidLooks := .later }
def BoundsOverUptoCardSaid : Prop := Claim7.holds Tryz.pinned (.plain (OpenSpec.upto boundsOverSpec)) boundsOverUptoCard

/-- THE SECOND FORM's CARD OF 'vidimuslaw36.BoundsKnown'. -/
def boundsKnownUptoCard : Claim7 := { stood := { row := boundsKnownUptoRow, standIns := [], harness := (true, "26c7437f99d33baf9c1da984e4f6e7f3fa6f01c109d766250289c23377c94820"), looks := true }, kinds := [], alts := [], laidByText := true, laidKinds := [.data, .data, .data, .data, .data, .widerDeep, .pinned], laidTests := true, laidLooks := .later }
def BoundsKnownUptoCardSaid : Prop := Claim7.holds Tryz.pinned (.plain (OpenSpec.upto boundsKnownSpec)) boundsKnownUptoCard

/-- THE SECOND FORM's CARD OF 'vidimuslaw38.SummariesCounts'. -/
def summariesCountsUptoCard : Claim7 := { stood := { row := summariesCountsUptoRow, standIns := [], harness := (true, "26c7437f99d33baf9c1da984e4f6e7f3fa6f01c109d766250289c23377c94820"), looks := true }, kinds := [], alts := [], laidByText := true, laidKinds := [.data, .data, .data, .data, .data, .widerDeep, .pinned], laidTests := true, laidLooks := .later }
def SummariesCountsUptoCardSaid : Prop := Claim7.holds Tryz.pinned (.plain (OpenSpec.upto summariesCountsSpec)) summariesCountsUptoCard

/-- THE SECOND FORM's CARD OF 'vidimuslaw37.OrdersCovers'. -/
def ordersCoversUptoCard : Claim7 := { stood := { row := ordersCoversUptoRow, standIns := [], harness := (true, "26c7437f99d33baf9c1da984e4f6e7f3fa6f01c109d766250289c23377c94820"), looks := true }, kinds := [], alts := [], laidByText := true, laidKinds := [.data, .data, .data, .data, .data, .widerDeep, .pinned], laidTests := true, laidLooks := .later }
def OrdersCoversUptoCardSaid : Prop := Claim7.holds Tryz.pinned (.plain (OpenSpec.upto ordersCoversSpec)) ordersCoversUptoCard

/-- THE SECOND FORM's CARD OF 'vidimuslaw37.OrdersMeets'. -/
def ordersMeetsUptoCard : Claim7 := { stood := { row := ordersMeetsUptoRow, standIns := [], harness := (true, "26c7437f99d33baf9c1da984e4f6e7f3fa6f01c109d766250289c23377c94820"), looks := true }, kinds := [], alts := [], laidByText := true, laidKinds := [.data, .data, .data, .data, .data, .widerDeep, .pinned], laidTests := true, laidLooks := .later }
def OrdersMeetsUptoCardSaid : Prop := Claim7.holds Tryz.pinned (.plain (OpenSpec.upto ordersMeetsSpec)) ordersMeetsUptoCard
end Rows
end Go.Proofs.YtepnbdacekkapaaGreatDoor
