/-
  DERIVED. GIVEN WITH THE SEED: THE CARDS: each row of YthgebhndhilhkaaDoorRows.lean that lists a variable, with what it lists TIED to the program's text (the seventh form; the later family's looks); each row that meets fmt, with fmt's text TOLD by the authors' own Lean function (tested against real Go, not proved from fmt's source: count such statements apart). THE CARD IS WHAT COUNTS. Prove the row's statement (the work); the ties are given (YthgebhndhilhkaaDoorTie.lean); close each card by the builder's one call (the guide's Derived/Test/ToyasCard.lean, 'card_holds'). Laid BY PROGRAM, IN A SANDBOX (cutbox-door.mjs). By AI agents, Wed Nov 11 2026. No macro, syntax, notation, axiom, sorry.
-/
import Derived.Test.YthgebhndhilhkaaDoorRows
import GoSem.ClaimSeven
namespace Go.Proofs.YthgebhndhilhkaaDoor
namespace Rows

/-- THE TIED CARD OF 'hearsaylaw18.KeysIdeal'. -/
def keysIdealCard : Claim7 := { stood := { row := keysIdealRow, standIns := [], harness := (true, "9588305e81cafdf3633c345a04b82c482cfa6026c0dd635a9d3641413af615a3"), looks := true }, kinds := [], alts := [], laidByText := true, laidKinds := [.data, .data], laidTests := true, laidLooks := .later }
def KeysIdealCardSaid : Prop := Claim7.holds Tryd.pinned (.plain (OpenSpec.ofChange keysIdealSpec)) keysIdealCard

/-- THE TIED CARD OF 'hearsaylaw06.CodecClauses'. -/
def codecClausesCard : Claim7 := { stood := { row := codecClausesRow, standIns := [], harness := (true, "9588305e81cafdf3633c345a04b82c482cfa6026c0dd635a9d3641413af615a3"), looks := true }, kinds := [], alts := [], laidByText := true, laidKinds := [.data, .data, .data, .funcs], laidTests := true, laidLooks := .later }
def CodecClausesCardSaid : Prop := Claim7.holds Tryd.pinned (.plain (OpenSpec.ofChange codecClausesSpec)) codecClausesCard

/-- THE TIED CARD OF 'hearsaylaw06.CodecOne'. -/
def codecOneCard : Claim7 := { stood := { row := codecOneRow, standIns := [], harness := (true, "9588305e81cafdf3633c345a04b82c482cfa6026c0dd635a9d3641413af615a3"), looks := true }, kinds := [], alts := [], laidByText := true, laidKinds := [.data, .funcs], laidTests := true, laidLooks := .later }
def CodecOneCardSaid : Prop := Claim7.holds Tryd.pinned (.plain (OpenSpec.ofChange codecOneSpec)) codecOneCard

/-- THE TIED CARD OF 'hearsaylaw18.KeysFull'. -/
def keysFullCard : Claim7 := { stood := { row := keysFullRow, standIns := [], harness := (true, "9588305e81cafdf3633c345a04b82c482cfa6026c0dd635a9d3641413af615a3"), looks := true }, kinds := [], alts := [], laidByText := true, laidKinds := [.data, .data], laidTests := true, laidLooks := .later }
def KeysFullCardSaid : Prop := Claim7.holds Tryd.pinned (.plain (OpenSpec.ofChange keysFullSpec)) keysFullCard

/-- THE TIED CARD OF 'hearsaylaw18.KeysTwo'. -/
def keysTwoCard : Claim7 := { stood := { row := keysTwoRow, standIns := [], harness := (true, "9588305e81cafdf3633c345a04b82c482cfa6026c0dd635a9d3641413af615a3"), looks := true }, kinds := [], alts := [], laidByText := true, laidKinds := [.data, .data], laidTests := true, laidLooks := .later }
def KeysTwoCardSaid : Prop := Claim7.holds Tryd.pinned (.plain (OpenSpec.ofChange keysTwoSpec)) keysTwoCard

/-- THE SECOND FORM's CARD OF 'hearsaylaw18.KeysIdeal'. -/
def keysIdealUptoCard : Claim7 := { stood := { row := keysIdealUptoRow, standIns := [], harness := (true, "9588305e81cafdf3633c345a04b82c482cfa6026c0dd635a9d3641413af615a3"), looks := true }, kinds := [], alts := [], laidByText := true, laidKinds := [.data, .data], laidTests := true, laidLooks := .later }
def KeysIdealUptoCardSaid : Prop := Claim7.holds Tryd.pinned (.plain (OpenSpec.upto keysIdealSpec)) keysIdealUptoCard

/-- THE SECOND FORM's CARD OF 'hearsaylaw06.CodecClauses'. -/
def codecClausesUptoCard : Claim7 := { stood := { row := codecClausesUptoRow, standIns := [], harness := (true, "9588305e81cafdf3633c345a04b82c482cfa6026c0dd635a9d3641413af615a3"), looks := true }, kinds := [], alts := [], laidByText := true, laidKinds := [.data, .data, .data, .funcs], laidTests := true, laidLooks := .later }
def CodecClausesUptoCardSaid : Prop := Claim7.holds Tryd.pinned (.plain (OpenSpec.upto codecClausesSpec)) codecClausesUptoCard

/-- THE SECOND FORM's CARD OF 'hearsaylaw06.CodecOne'. -/
def codecOneUptoCard : Claim7 := { stood := { row := codecOneUptoRow, standIns := [], harness := (true, "9588305e81cafdf3633c345a04b82c482cfa6026c0dd635a9d3641413af615a3"), looks := true }, kinds := [], alts := [], laidByText := true, laidKinds := [.data, .funcs], laidTests := true, laidLooks := .later }
def CodecOneUptoCardSaid : Prop := Claim7.holds Tryd.pinned (.plain (OpenSpec.upto codecOneSpec)) codecOneUptoCard

/-- THE SECOND FORM's CARD OF 'hearsaylaw18.KeysFull'. -/
def keysFullUptoCard : Claim7 := { stood := { row := keysFullUptoRow, standIns := [], harness := (true, "9588305e81cafdf3633c345a04b82c482cfa6026c0dd635a9d3641413af615a3"), looks := true }, kinds := [], alts := [], laidByText := true, laidKinds := [.data, .data], laidTests := true, laidLooks := .later }
def KeysFullUptoCardSaid : Prop := Claim7.holds Tryd.pinned (.plain (OpenSpec.upto keysFullSpec)) keysFullUptoCard

/-- THE SECOND FORM's CARD OF 'hearsaylaw18.KeysTwo'. -/
def keysTwoUptoCard : Claim7 := { stood := { row := keysTwoUptoRow, standIns := [], harness := (true, "9588305e81cafdf3633c345a04b82c482cfa6026c0dd635a9d3641413af615a3"), looks := true }, kinds := [], alts := [], laidByText := true, laidKinds := [.data, .data], laidTests := true, laidLooks := .later }
def KeysTwoUptoCardSaid : Prop := Claim7.holds Tryd.pinned (.plain (OpenSpec.upto keysTwoSpec)) keysTwoUptoCard
end Rows
end Go.Proofs.YthgebhndhilhkaaDoor
