/-
  DERIVED. GIVEN WITH THE SEED: THE CARDS: each row of YtdoibgmmijhlfaaDoorRows.lean that lists a variable, with what it lists TIED to the program's text (the seventh form; the later family's looks); each row that meets fmt, with fmt's text TOLD by the authors' own Lean function (tested against real Go, not proved from fmt's source: count such statements apart). THE CARD IS WHAT COUNTS. Prove the row's statement (the work); the ties are given (YtdoibgmmijhlfaaDoorTie.lean); close each card by the builder's one call (the guide's Derived/Test/ToyasCard.lean, 'card_holds'). Laid BY PROGRAM, IN A SANDBOX (cutbox-door.mjs). By AI agents, Wed Nov 11 2026. No macro, syntax, notation, axiom, sorry.
-/
import Derived.Test.YtdoibgmmijhlfaaDoorRows
import GoSem.ClaimSeven
namespace Go.Proofs.YtdoibgmmijhlfaaDoor
namespace Rows

/-- THE TIED CARD OF 'gamehallkeep1.PlaceBack'. -/
def placeBackCard : Claim7 := { stood := { row := placeBackRow, standIns := [], harness := (true, "c8e7128244a5d8ccc3ee986eaf4ca4c28e4fda2fb0865a707d16a7ff073e1e9c"), looks := true }, kinds := [], alts := [], laidByText := true, laidKinds := [.data, .data, .data, .data, .sentinel, .sentinel, .pinned], laidTests := true, laidLooks := .later }
def PlaceBackCardSaid : Prop := Claim7.holds Tryd.pinned (.plain (OpenSpec.ofChange placeBackSpec)) placeBackCard

/-- THE TIED CARD OF 'gamehallkeep1.RuletextBack'. -/
def ruletextBackCard : Claim7 := { stood := { row := ruletextBackRow, standIns := [], harness := (true, "c8e7128244a5d8ccc3ee986eaf4ca4c28e4fda2fb0865a707d16a7ff073e1e9c"), looks := true }, kinds := [], alts := [], laidByText := true, laidKinds := [.data, .data, .data, .data, .sentinel, .sentinel, .pinned], laidTests := true, laidLooks := .later }
def RuletextBackCardSaid : Prop := Claim7.holds Tryd.pinned (.plain (OpenSpec.ofChange ruletextBackSpec)) ruletextBackCard

/-- THE TIED CARD OF 'gamehallkeep1.RuletextTorn'. -/
def ruletextTornCard : Claim7 := { stood := { row := ruletextTornRow, standIns := [], harness := (true, "c8e7128244a5d8ccc3ee986eaf4ca4c28e4fda2fb0865a707d16a7ff073e1e9c"), looks := true }, kinds := [], alts := [], laidByText := true, laidKinds := [.data, .data, .data, .data, .sentinel, .sentinel, .pinned], laidTests := true, laidLooks := .later }
def RuletextTornCardSaid : Prop := Claim7.holds Tryd.pinned (.plain (OpenSpec.ofChange ruletextTornSpec)) ruletextTornCard

/-- THE SECOND FORM's CARD OF 'gamehallkeep1.PlaceBack'. -/
def placeBackUptoCard : Claim7 := { stood := { row := placeBackUptoRow, standIns := [], harness := (true, "c8e7128244a5d8ccc3ee986eaf4ca4c28e4fda2fb0865a707d16a7ff073e1e9c"), looks := true }, kinds := [], alts := [], laidByText := true, laidKinds := [.data, .data, .data, .data, .sentinel, .sentinel, .pinned], laidTests := true, laidLooks := .later }
def PlaceBackUptoCardSaid : Prop := Claim7.holds Tryd.pinned (.plain (OpenSpec.upto placeBackSpec)) placeBackUptoCard

/-- THE SECOND FORM's CARD OF 'gamehallkeep1.RuletextBack'. -/
def ruletextBackUptoCard : Claim7 := { stood := { row := ruletextBackUptoRow, standIns := [], harness := (true, "c8e7128244a5d8ccc3ee986eaf4ca4c28e4fda2fb0865a707d16a7ff073e1e9c"), looks := true }, kinds := [], alts := [], laidByText := true, laidKinds := [.data, .data, .data, .data, .sentinel, .sentinel, .pinned], laidTests := true, laidLooks := .later }
def RuletextBackUptoCardSaid : Prop := Claim7.holds Tryd.pinned (.plain (OpenSpec.upto ruletextBackSpec)) ruletextBackUptoCard

/-- THE SECOND FORM's CARD OF 'gamehallkeep1.RuletextTorn'. -/
def ruletextTornUptoCard : Claim7 := { stood := { row := ruletextTornUptoRow, standIns := [], harness := (true, "c8e7128244a5d8ccc3ee986eaf4ca4c28e4fda2fb0865a707d16a7ff073e1e9c"), looks := true }, kinds := [], alts := [], laidByText := true, laidKinds := [.data, .data, .data, .data, .sentinel, .sentinel, .pinned], laidTests := true, laidLooks := .later }
def RuletextTornUptoCardSaid : Prop := Claim7.holds Tryd.pinned (.plain (OpenSpec.upto ruletextTornSpec)) ruletextTornUptoCard
end Rows
end Go.Proofs.YtdoibgmmijhlfaaDoor
