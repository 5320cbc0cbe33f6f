/-
  DERIVED. GIVEN WITH THE SEED: THE CARDS: each row of YtaajfbcopafkaaaGreatDoorRows.lean that lists a variable, with what it lists TIED to the program's text (the seventh form; the later family's looks); each row that meets fmt, with fmt's text TOLD by the authors' own Lean function (tested against real Go, not proved from fmt's source: count such statements apart). THE CARD IS WHAT COUNTS. Prove the row's statement (the work); the ties are given (YtaajfbcopafkaaaGreatDoorTie.lean); close each card by the builder's one call (the guide's Derived/Test/ToyasCard.lean, 'card_holds'). Laid BY PROGRAM, IN A SANDBOX (cutbox-door.mjs). By AI agents, Wed Nov 11 2026. No macro, syntax, notation, axiom, sorry.
-/
import Derived.Test.YtaajfbcopafkaaaGreatDoorRows
import GoSem.ClaimSeven
namespace Go.Proofs.YtaajfbcopafkaaaGreatDoor
namespace Rows

/-- THE TIED CARD OF 'vidimustop.TopTime'. -/
def topTimeCard : Claim7 := { stood := { row := topTimeRow, standIns := [], harness := (true, "0c43df60fefce9d0d8d24c85b3726910827220b385bac60dabf084a44fd4b9c7"), looks := true }, kinds := [], alts := [], laidByText := true, laidKinds := [.data, .data, .data, .data, .sentinel, .sentinel, .widerDeep, .data, .pinned, .pinned], laidTests := true, laidLooks := .later }
def TopTimeCardSaid : Prop := Claim7.holds Tryz.pinned (.plain (OpenSpec.ofChange topTimeSpec)) topTimeCard

/-- THE TIED CARD OF 'vidimustop.TopString'. -/
def topStringCard : Claim7 := { stood := { row := topStringRow, standIns := [], harness := (true, "0c43df60fefce9d0d8d24c85b3726910827220b385bac60dabf084a44fd4b9c7"), looks := true }, kinds := [], alts := [], laidByText := true, laidKinds := [.data, .data, .data, .data, .sentinel, .sentinel, .widerDeep, .data, .pinned, .pinned], laidTests := true, laidLooks := .later }
def TopStringCardSaid : Prop := Claim7.holds Tryz.pinned (.plain (OpenSpec.ofChange topStringSpec)) topStringCard

/-- THE SECOND FORM's CARD OF 'vidimustop.TopTime'. -/
def topTimeUptoCard : Claim7 := { stood := { row := topTimeUptoRow, standIns := [], harness := (true, "0c43df60fefce9d0d8d24c85b3726910827220b385bac60dabf084a44fd4b9c7"), looks := true }, kinds := [], alts := [], laidByText := true, laidKinds := [.data, .data, .data, .data, .sentinel, .sentinel, .widerDeep, .data, .pinned, .pinned], laidTests := true, laidLooks := .later }
def TopTimeUptoCardSaid : Prop := Claim7.holds Tryz.pinned (.plain (OpenSpec.upto topTimeSpec)) topTimeUptoCard

/-- THE SECOND FORM's CARD OF 'vidimustop.TopString'. -/
def topStringUptoCard : Claim7 := { stood := { row := topStringUptoRow, standIns := [], harness := (true, "0c43df60fefce9d0d8d24c85b3726910827220b385bac60dabf084a44fd4b9c7"), looks := true }, kinds := [], alts := [], laidByText := true, laidKinds := [.data, .data, .data, .data, .sentinel, .sentinel, .widerDeep, .data, .pinned, .pinned], laidTests := true, laidLooks := .later }
def TopStringUptoCardSaid : Prop := Claim7.holds Tryz.pinned (.plain (OpenSpec.upto topStringSpec)) topStringUptoCard
end Rows
end Go.Proofs.YtaajfbcopafkaaaGreatDoor
