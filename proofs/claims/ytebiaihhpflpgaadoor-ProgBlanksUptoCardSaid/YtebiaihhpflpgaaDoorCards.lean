/-
  DERIVED. GIVEN WITH THE SEED: THE CARDS: each row of YtebiaihhpflpgaaDoorRows.lean that lists a variable, with what it lists TIED to the program's text (the seventh form; the later family's looks); each row that meets fmt, with fmt's text TOLD by the authors' own Lean function (tested against real Go, not proved from fmt's source: count such statements apart). THE CARD IS WHAT COUNTS. Prove the row's statement (the work); the ties are given (YtebiaihhpflpgaaDoorTie.lean); close each card by the builder's one call (the guide's Derived/Test/ToyasCard.lean, 'card_holds'). Laid BY PROGRAM, IN A SANDBOX (cutbox-door.mjs). By AI agents, Wed Nov 11 2026. No macro, syntax, notation, axiom, sorry.
-/
import Derived.Test.YtebiaihhpflpgaaDoorRows
import GoSem.ClaimSeven
namespace Go.Proofs.YtebiaihhpflpgaaDoor
namespace Rows

/-- THE TIED CARD OF 'dutykeep.ProgBack'. -/
def progBackCard : Claim7 := { stood := { row := progBackRow, standIns := [], harness := (true, "de1912ffe44d4d3dcc29e7a89985f76156c8b4635d1a1672a2f77dcab968e75f"), looks := true }, kinds := [], alts := [], laidByText := true, laidKinds := [.data, .data, .data, .data, .sentinel, .sentinel, .pinned], laidTests := true, laidLooks := .later }
def ProgBackCardSaid : Prop := Claim7.holds Tryd.pinned (.plain (OpenSpec.ofChange progBackSpec)) progBackCard

/-- THE TIED CARD OF 'dutykeep.ProgLine'. -/
def progLineCard : Claim7 := { stood := { row := progLineRow, standIns := [], harness := (true, "de1912ffe44d4d3dcc29e7a89985f76156c8b4635d1a1672a2f77dcab968e75f"), looks := true }, kinds := [], alts := [], laidByText := true, laidKinds := [.data, .data, .data, .data, .sentinel, .sentinel, .pinned], laidTests := true, laidLooks := .later }
def ProgLineCardSaid : Prop := Claim7.holds Tryd.pinned (.plain (OpenSpec.ofChange progLineSpec)) progLineCard

/-- THE TIED CARD OF 'dutykeep.ProgBlanks'. -/
def progBlanksCard : Claim7 := { stood := { row := progBlanksRow, standIns := [], harness := (true, "de1912ffe44d4d3dcc29e7a89985f76156c8b4635d1a1672a2f77dcab968e75f"), looks := true }, kinds := [], alts := [], laidByText := true, laidKinds := [.data, .data, .data, .data, .sentinel, .sentinel, .pinned], laidTests := true, laidLooks := .later }
def ProgBlanksCardSaid : Prop := Claim7.holds Tryd.pinned (.plain (OpenSpec.ofChange progBlanksSpec)) progBlanksCard

/-- THE SECOND FORM's CARD OF 'dutykeep.ProgBack'. -/
def progBackUptoCard : Claim7 := { stood := { row := progBackUptoRow, standIns := [], harness := (true, "de1912ffe44d4d3dcc29e7a89985f76156c8b4635d1a1672a2f77dcab968e75f"), looks := true }, kinds := [], alts := [], laidByText := true, laidKinds := [.data, .data, .data, .data, .sentinel, .sentinel, .pinned], laidTests := true, laidLooks := .later }
def ProgBackUptoCardSaid : Prop := Claim7.holds Tryd.pinned (.plain (OpenSpec.upto progBackSpec)) progBackUptoCard

/-- THE SECOND FORM's CARD OF 'dutykeep.ProgLine'. -/
def progLineUptoCard : Claim7 := { stood := { row := progLineUptoRow, standIns := [], harness := (true, "de1912ffe44d4d3dcc29e7a89985f76156c8b4635d1a1672a2f77dcab968e75f"), looks := true }, kinds := [], alts := [], laidByText := true, laidKinds := [.data, .data, .data, .data, .sentinel, .sentinel, .pinned], laidTests := true, laidLooks := .later }
def ProgLineUptoCardSaid : Prop := Claim7.holds Tryd.pinned (.plain (OpenSpec.upto progLineSpec)) progLineUptoCard

/-- THE SECOND FORM's CARD OF 'dutykeep.ProgBlanks'. -/
def progBlanksUptoCard : Claim7 := { stood := { row := progBlanksUptoRow, standIns := [], harness := (true, "de1912ffe44d4d3dcc29e7a89985f76156c8b4635d1a1672a2f77dcab968e75f"), looks := true }, kinds := [], alts := [], laidByText := true, laidKinds := [.data, .data, .data, .data, .sentinel, .sentinel, .pinned], laidTests := true, laidLooks := .later }
def ProgBlanksUptoCardSaid : Prop := Claim7.holds Tryd.pinned (.plain (OpenSpec.upto progBlanksSpec)) progBlanksUptoCard
end Rows
end Go.Proofs.YtebiaihhpflpgaaDoor
