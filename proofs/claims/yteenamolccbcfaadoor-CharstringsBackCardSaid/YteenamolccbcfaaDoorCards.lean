/-
  DERIVED. GIVEN WITH THE SEED: THE CARDS: each row of YteenamolccbcfaaDoorRows.lean that lists a variable, with what it lists TIED to the program's text (the seventh form; the later family's looks); each row that meets fmt, with fmt's text TOLD by the authors' own Lean function (tested against real Go, not proved from fmt's source: count such statements apart). THE CARD IS WHAT COUNTS. Prove the row's statement (the work); the ties are given (YteenamolccbcfaaDoorTie.lean); close each card by the builder's one call (the guide's Derived/Test/ToyasCard.lean, 'card_holds'). Laid BY PROGRAM, IN A SANDBOX (cutbox-door.mjs). By AI agents, Wed Nov 11 2026. No macro, syntax, notation, axiom, sorry.
-/
import Derived.Test.YteenamolccbcfaaDoorRows
import GoSem.ClaimSeven
namespace Go.Proofs.YteenamolccbcfaaDoor
namespace Rows

/-- THE TIED CARD OF 'vidimuslaw09.CharstringsGet'. -/
def charstringsGetCard : Claim7 := { stood := { row := charstringsGetRow, standIns := [], harness := (true, "e231a5a68e018073f63534a46b00139eb4c56eac64080137f43241565b3ab33f"), looks := false }, kinds := [], alts := [], laidByText := true, laidKinds := [.data, .pinned], laidTests := true, laidLooks := .later }
def CharstringsGetCardSaid : Prop := Claim7.holds Tryd.pinned (.plain (OpenSpec.ofChange charstringsGetSpec)) charstringsGetCard

/-- THE TIED CARD OF 'vidimuslaw09.CharstringsKinds'. -/
def charstringsKindsCard : Claim7 := { stood := { row := charstringsKindsRow, standIns := [], harness := (true, "e231a5a68e018073f63534a46b00139eb4c56eac64080137f43241565b3ab33f"), looks := false }, kinds := [], alts := [], laidByText := true, laidKinds := [.data, .pinned], laidTests := true, laidLooks := .later }
def CharstringsKindsCardSaid : Prop := Claim7.holds Tryd.pinned (.plain (OpenSpec.ofChange charstringsKindsSpec)) charstringsKindsCard

/-- THE TIED CARD OF 'vidimuslaw09.CharstringsOrder'. -/
def charstringsOrderCard : Claim7 := { stood := { row := charstringsOrderRow, standIns := [], harness := (true, "e231a5a68e018073f63534a46b00139eb4c56eac64080137f43241565b3ab33f"), looks := false }, kinds := [], alts := [], laidByText := true, laidKinds := [.data, .pinned], laidTests := true, laidLooks := .later }
def CharstringsOrderCardSaid : Prop := Claim7.holds Tryd.pinned (.plain (OpenSpec.ofChange charstringsOrderSpec)) charstringsOrderCard

/-- THE TIED CARD OF 'vidimuslaw09.CharstringsKnown'. -/
def charstringsKnownCard : Claim7 := { stood := { row := charstringsKnownRow, standIns := [], harness := (true, "e231a5a68e018073f63534a46b00139eb4c56eac64080137f43241565b3ab33f"), looks := false }, kinds := [], alts := [], laidByText := true, laidKinds := [.data, .pinned], laidTests := true, laidLooks := .later }
def CharstringsKnownCardSaid : Prop := Claim7.holds Tryd.pinned (.plain (OpenSpec.ofChange charstringsKnownSpec)) charstringsKnownCard

/-- THE TIED CARD OF 'vidimuslaw09.CharstringsCheck'. -/
def charstringsCheckCard : Claim7 := { stood := { row := charstringsCheckRow, standIns := [], harness := (true, "e231a5a68e018073f63534a46b00139eb4c56eac64080137f43241565b3ab33f"), looks := false }, kinds := [], alts := [], laidByText := true, laidKinds := [.data, .pinned], laidTests := true, laidLooks := .later }
def CharstringsCheckCardSaid : Prop := Claim7.holds Tryd.pinned (.plain (OpenSpec.ofChange charstringsCheckSpec)) charstringsCheckCard

/-- THE TIED CARD OF 'vidimuslaw09.CharstringsOf'. -/
def charstringsOfCard : Claim7 := { stood := { row := charstringsOfRow, standIns := [], harness := (true, "e231a5a68e018073f63534a46b00139eb4c56eac64080137f43241565b3ab33f"), looks := false }, kinds := [], alts := [], laidByText := true, laidKinds := [.data, .pinned], laidTests := true, laidLooks := .later }
def CharstringsOfCardSaid : Prop := Claim7.holds Tryd.pinned (.plain (OpenSpec.ofChange charstringsOfSpec)) charstringsOfCard

/-- THE TIED CARD OF 'vidimuslaw09.CharstringsBack'. -/
def charstringsBackCard : Claim7 := { stood := { row := charstringsBackRow, standIns := [], harness := (true, "e231a5a68e018073f63534a46b00139eb4c56eac64080137f43241565b3ab33f"), looks := false }, kinds := [], alts := [], laidByText := true, laidKinds := [.data, .pinned], laidTests := true, laidLooks := .later }
def CharstringsBackCardSaid : Prop := Claim7.holds Tryd.pinned (.plain (OpenSpec.ofChange charstringsBackSpec)) charstringsBackCard

/-- THE SECOND FORM's CARD OF 'vidimuslaw09.CharstringsGet'. -/
def charstringsGetUptoCard : Claim7 := { stood := { row := charstringsGetUptoRow, standIns := [], harness := (true, "e231a5a68e018073f63534a46b00139eb4c56eac64080137f43241565b3ab33f"), looks := false }, kinds := [], alts := [], laidByText := true, laidKinds := [.data, .pinned], laidTests := true, laidLooks := .later }
def CharstringsGetUptoCardSaid : Prop := Claim7.holds Tryd.pinned (.plain (OpenSpec.upto charstringsGetSpec)) charstringsGetUptoCard

/-- THE SECOND FORM's CARD OF 'vidimuslaw09.CharstringsKinds'. -/
def charstringsKindsUptoCard : Claim7 := { stood := { row := charstringsKindsUptoRow, standIns := [], harness := (true, "e231a5a68e018073f63534a46b00139eb4c56eac64080137f43241565b3ab33f"), looks := false }, kinds := [], alts := [], laidByText := true, laidKinds := [.data, .pinned], laidTests := true, laidLooks := .later }
def CharstringsKindsUptoCardSaid : Prop := Claim7.holds Tryd.pinned (.plain (OpenSpec.upto charstringsKindsSpec)) charstringsKindsUptoCard

/-- THE SECOND FORM's CARD OF 'vidimuslaw09.CharstringsOrder'. -/
def charstringsOrderUptoCard : Claim7 := { stood := { row := charstringsOrderUptoRow, standIns := [], harness := (true, "e231a5a68e018073f63534a46b00139eb4c56eac64080137f43241565b3ab33f"), looks := false }, kinds := [], alts := [], laidByText := true, laidKinds := [.data, .pinned], laidTests := true, laidLooks := .later }
def CharstringsOrderUptoCardSaid : Prop := Claim7.holds Tryd.pinned (.plain (OpenSpec.upto charstringsOrderSpec)) charstringsOrderUptoCard

/-- THE SECOND FORM's CARD OF 'vidimuslaw09.CharstringsKnown'. -/
def charstringsKnownUptoCard : Claim7 := { stood := { row := charstringsKnownUptoRow, standIns := [], harness := (true, "e231a5a68e018073f63534a46b00139eb4c56eac64080137f43241565b3ab33f"), looks := false }, kinds := [], alts := [], laidByText := true, laidKinds := [.data, .pinned], laidTests := true, laidLooks := .later }
def CharstringsKnownUptoCardSaid : Prop := Claim7.holds Tryd.pinned (.plain (OpenSpec.upto charstringsKnownSpec)) charstringsKnownUptoCard

/-- THE SECOND FORM's CARD OF 'vidimuslaw09.CharstringsCheck'. -/
def charstringsCheckUptoCard : Claim7 := { stood := { row := charstringsCheckUptoRow, standIns := [], harness := (true, "e231a5a68e018073f63534a46b00139eb4c56eac64080137f43241565b3ab33f"), looks := false }, kinds := [], alts := [], laidByText := true, laidKinds := [.data, .pinned], laidTests := true, laidLooks := .later }
def CharstringsCheckUptoCardSaid : Prop := Claim7.holds Tryd.pinned (.plain (OpenSpec.upto charstringsCheckSpec)) charstringsCheckUptoCard

/-- THE SECOND FORM's CARD OF 'vidimuslaw09.CharstringsOf'. -/
def charstringsOfUptoCard : Claim7 := { stood := { row := charstringsOfUptoRow, standIns := [], harness := (true, "e231a5a68e018073f63534a46b00139eb4c56eac64080137f43241565b3ab33f"), looks := false }, kinds := [], alts := [], laidByText := true, laidKinds := [.data, .pinned], laidTests := true, laidLooks := .later }
def CharstringsOfUptoCardSaid : Prop := Claim7.holds Tryd.pinned (.plain (OpenSpec.upto charstringsOfSpec)) charstringsOfUptoCard

/-- THE SECOND FORM's CARD OF 'vidimuslaw09.CharstringsBack'. -/
def charstringsBackUptoCard : Claim7 := { stood := { row := charstringsBackUptoRow, standIns := [], harness := (true, "e231a5a68e018073f63534a46b00139eb4c56eac64080137f43241565b3ab33f"), looks := false }, kinds := [], alts := [], laidByText := true, laidKinds := [.data, .pinned], laidTests := true, laidLooks := .later }
def CharstringsBackUptoCardSaid : Prop := Claim7.holds Tryd.pinned (.plain (OpenSpec.upto charstringsBackSpec)) charstringsBackUptoCard
end Rows
end Go.Proofs.YteenamolccbcfaaDoor
