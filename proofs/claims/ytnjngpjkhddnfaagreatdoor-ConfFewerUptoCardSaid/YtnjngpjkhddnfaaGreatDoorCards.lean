/-
  DERIVED. GIVEN WITH THE SEED: THE CARDS: each row of YtnjngpjkhddnfaaGreatDoorRows.lean that lists a variable, with what it lists TIED to the program's text (the seventh form; the later family's looks); each row that meets fmt, with fmt's text TOLD by the authors' own Lean function (tested against real Go, not proved from fmt's source: count such statements apart). THE CARD IS WHAT COUNTS. Prove the row's statement (the work); the ties are given (YtnjngpjkhddnfaaGreatDoorTie.lean); close each card by the builder's one call (the guide's Derived/Test/ToyasCard.lean, 'card_holds'). Laid BY PROGRAM, IN A SANDBOX (cutbox-door.mjs). By AI agents, Wed Nov 11 2026. No macro, syntax, notation, axiom, sorry.
-/
import Derived.Test.YtnjngpjkhddnfaaGreatDoorRows
import GoSem.ClaimSeven
namespace Go.Proofs.YtnjngpjkhddnfaaGreatDoor
namespace Rows

/-- THE TIED CARD OF 'dutykeep.ConfOwn'. -/
def confOwnCard : Claim7 := { stood := { row := confOwnRow, standIns := [], harness := (true, "5ba3baf536a334ad4525ae448f7b036d96f65bc98fa58ebd8d409ec7c0836b0d"), looks := true }, kinds := [], alts := [], laidByText := true, laidKinds := [.data, .data, .data, .data, .sentinel, .sentinel, .pinned], laidTests := true, laidLooks := .later }
def ConfOwnCardSaid : Prop := Claim7.holds Tryz.pinned (.plain (OpenSpec.ofChange confOwnSpec)) confOwnCard

/-- THE TIED CARD OF 'dutykeep.ConfFewer'. -/
def confFewerCard : Claim7 := { stood := { row := confFewerRow, standIns := [], harness := (true, "5ba3baf536a334ad4525ae448f7b036d96f65bc98fa58ebd8d409ec7c0836b0d"), looks := true }, kinds := [], alts := [], laidByText := true, laidKinds := [.data, .data, .data, .data, .sentinel, .sentinel, .pinned], laidTests := true, laidLooks := .later }
def ConfFewerCardSaid : Prop := Claim7.holds Tryz.pinned (.plain (OpenSpec.ofChange confFewerSpec)) confFewerCard

/-- THE TIED CARD OF 'dutykeep.ConfBack'. -/
def confBackCard : Claim7 := { stood := { row := confBackRow, standIns := [], harness := (true, "5ba3baf536a334ad4525ae448f7b036d96f65bc98fa58ebd8d409ec7c0836b0d"), looks := true }, kinds := [], alts := [], laidByText := true, laidKinds := [.data, .data, .data, .data, .sentinel, .sentinel, .pinned], laidTests := true, laidLooks := .later }
def ConfBackCardSaid : Prop := Claim7.holds Tryz.pinned (.plain (OpenSpec.ofChange confBackSpec)) confBackCard

/-- THE TIED CARD OF 'dutykeep.ConfLine'. -/
def confLineCard : Claim7 := { stood := { row := confLineRow, standIns := [], harness := (true, "5ba3baf536a334ad4525ae448f7b036d96f65bc98fa58ebd8d409ec7c0836b0d"), looks := true }, kinds := [], alts := [], laidByText := true, laidKinds := [.data, .data, .data, .data, .sentinel, .sentinel, .pinned], laidTests := true, laidLooks := .later }
def ConfLineCardSaid : Prop := Claim7.holds Tryz.pinned (.plain (OpenSpec.ofChange confLineSpec)) confLineCard

/-- THE SECOND FORM's CARD OF 'dutykeep.ConfOwn'. -/
def confOwnUptoCard : Claim7 := { stood := { row := confOwnUptoRow, standIns := [], harness := (true, "5ba3baf536a334ad4525ae448f7b036d96f65bc98fa58ebd8d409ec7c0836b0d"), looks := true }, kinds := [], alts := [], laidByText := true, laidKinds := [.data, .data, .data, .data, .sentinel, .sentinel, .pinned], laidTests := true, laidLooks := .later }
def ConfOwnUptoCardSaid : Prop := Claim7.holds Tryz.pinned (.plain (OpenSpec.upto confOwnSpec)) confOwnUptoCard

/-- THE SECOND FORM's CARD OF 'dutykeep.ConfFewer'. -/
def confFewerUptoCard : Claim7 := { stood := { row := confFewerUptoRow, standIns := [], harness := (true, "5ba3baf536a334ad4525ae448f7b036d96f65bc98fa58ebd8d409ec7c0836b0d"), looks := true }, kinds := [], alts := [], laidByText := true, laidKinds := [.data, .data, .data, .data, .sentinel, .sentinel, .pinned], laidTests := true, laidLooks := .later }
def ConfFewerUptoCardSaid : Prop := Claim7.holds Tryz.pinned (.plain (OpenSpec.upto confFewerSpec)) confFewerUptoCard

/-- THE SECOND FORM's CARD OF 'dutykeep.ConfBack'. -/
def confBackUptoCard : Claim7 := { stood := { row := confBackUptoRow, standIns := [], harness := (true, "5ba3baf536a334ad4525ae448f7b036d96f65bc98fa58ebd8d409ec7c0836b0d"), looks := true }, kinds := [], alts := [], laidByText := true, laidKinds := [.data, .data, .data, .data, .sentinel, .sentinel, .pinned], laidTests := true, laidLooks := .later }
def ConfBackUptoCardSaid : Prop := Claim7.holds Tryz.pinned (.plain (OpenSpec.upto confBackSpec)) confBackUptoCard

/-- THE SECOND FORM's CARD OF 'dutykeep.ConfLine'. -/
def confLineUptoCard : Claim7 := { stood := { row := confLineUptoRow, standIns := [], harness := (true, "5ba3baf536a334ad4525ae448f7b036d96f65bc98fa58ebd8d409ec7c0836b0d"), looks := true }, kinds := [], alts := [], laidByText := true, laidKinds := [.data, .data, .data, .data, .sentinel, .sentinel, .pinned], laidTests := true, laidLooks := .later }
def ConfLineUptoCardSaid : Prop := Claim7.holds Tryz.pinned (.plain (OpenSpec.upto confLineSpec)) confLineUptoCard
end Rows
end Go.Proofs.YtnjngpjkhddnfaaGreatDoor
