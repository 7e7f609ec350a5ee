/-
  DERIVED. GIVEN WITH THE SEED: THE CARDS: each row of YtiaiifcgbjlfoaaGreatDoorRows.lean that lists a variable, with what it lists TIED to the program's text (the seventh form; the later family's looks); each row that meets fmt, with fmt's text TOLD by the authors' own Lean function (tested against real Go, not proved from fmt's source: count such statements apart). THE CARD IS WHAT COUNTS. Prove the row's statement (the work); the ties are given (YtiaiifcgbjlfoaaGreatDoorTie.lean); close each card by the builder's one call (the guide's Derived/Test/ToyasCard.lean, 'card_holds'). Laid BY PROGRAM, IN A SANDBOX (cutbox-door.mjs). By AI agents, Wed Nov 11 2026. No macro, syntax, notation, axiom, sorry.
-/
import Derived.Test.YtiaiifcgbjlfoaaGreatDoorRows
import GoSem.ClaimSeven
namespace Go.Proofs.YtiaiifcgbjlfoaaGreatDoor
namespace Rows

/-- THE TIED CARD OF 'dutytop.TopApart'. -/
def topApartCard : Claim7 := { stood := { row := topApartRow, standIns := [], harness := (true, "4861d68559899ff69049c77bd5423620826254f78ef1562cc6790cc78d7bb232"), looks := true }, kinds := [], alts := [], laidByText := true, laidKinds := [.data, .data, .data, .data, .sentinel, .sentinel, .pinned], laidTests := true, laidLooks := .later }
def TopApartCardSaid : Prop := Claim7.holds Tryz.pinned (.plain (OpenSpec.ofChange topApartSpec)) topApartCard

/-- THE TIED CARD OF 'dutytop.TopPair'. -/
def topPairCard : Claim7 := { stood := { row := topPairRow, standIns := [], harness := (true, "4861d68559899ff69049c77bd5423620826254f78ef1562cc6790cc78d7bb232"), looks := true }, kinds := [], alts := [], laidByText := true, laidKinds := [.data, .data, .data, .data, .sentinel, .sentinel, .pinned], laidTests := true, laidLooks := .later }
def TopPairCardSaid : Prop := Claim7.holds Tryz.pinned (.plain (OpenSpec.ofChange topPairSpec)) topPairCard

/-- THE SECOND FORM's CARD OF 'dutytop.TopApart'. -/
def topApartUptoCard : Claim7 := { stood := { row := topApartUptoRow, standIns := [], harness := (true, "4861d68559899ff69049c77bd5423620826254f78ef1562cc6790cc78d7bb232"), looks := true }, kinds := [], alts := [], laidByText := true, laidKinds := [.data, .data, .data, .data, .sentinel, .sentinel, .pinned], laidTests := true, laidLooks := .later }
def TopApartUptoCardSaid : Prop := Claim7.holds Tryz.pinned (.plain (OpenSpec.upto topApartSpec)) topApartUptoCard

/-- THE SECOND FORM's CARD OF 'dutytop.TopPair'. -/
def topPairUptoCard : Claim7 := { stood := { row := topPairUptoRow, standIns := [], harness := (true, "4861d68559899ff69049c77bd5423620826254f78ef1562cc6790cc78d7bb232"), looks := true }, kinds := [], alts := [], laidByText := true, laidKinds := [.data, .data, .data, .data, .sentinel, .sentinel, .pinned], laidTests := true, laidLooks := .later }
def TopPairUptoCardSaid : Prop := Claim7.holds Tryz.pinned (.plain (OpenSpec.upto topPairSpec)) topPairUptoCard
end Rows
end Go.Proofs.YtiaiifcgbjlfoaaGreatDoor
