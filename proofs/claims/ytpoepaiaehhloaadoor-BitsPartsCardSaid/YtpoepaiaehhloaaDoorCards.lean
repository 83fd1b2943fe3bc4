/-
  DERIVED. GIVEN WITH THE SEED: THE CARDS: each row of YtpoepaiaehhloaaDoorRows.lean that lists a variable, with what it lists TIED to the program's text (the seventh form; the later family's looks); each row that meets fmt, with fmt's text TOLD by the authors' own Lean function (tested against real Go, not proved from fmt's source: count such statements apart). THE CARD IS WHAT COUNTS. Prove the row's statement (the work); the ties are given (YtpoepaiaehhloaaDoorTie.lean); close each card by the builder's one call (the guide's Derived/Test/ToyasCard.lean, 'card_holds'). Laid BY PROGRAM, IN A SANDBOX (cutbox-door.mjs). By AI agents, Wed Nov 11 2026. No macro, syntax, notation, axiom, sorry.
-/
import Derived.Test.YtpoepaiaehhloaaDoorRows
import GoSem.ClaimSeven
namespace Go.Proofs.YtpoepaiaehhloaaDoor
namespace Rows

/-- THE TIED CARD OF 'gamehallkeep1.BitsParts'. -/
def bitsPartsCard : Claim7 := { stood := { row := bitsPartsRow, standIns := [], harness := (true, "05322a426697108f1eac5473546e5d70136c5e28ff3424c03843da20c13d07e7"), looks := false }, kinds := [], alts := [], laidByText := true, laidKinds := [.data], laidTests := true, laidLooks := .later }
def BitsPartsCardSaid : Prop := Claim7.holds Tryd.pinned (.plain (OpenSpec.ofChange bitsPartsSpec)) bitsPartsCard

/-- THE TIED CARD OF 'gamehallkeep1.BitsThere'. -/
def bitsThereCard : Claim7 := { stood := { row := bitsThereRow, standIns := [], harness := (true, "05322a426697108f1eac5473546e5d70136c5e28ff3424c03843da20c13d07e7"), looks := false }, kinds := [], alts := [], laidByText := true, laidKinds := [.data], laidTests := true, laidLooks := .later }
def BitsThereCardSaid : Prop := Claim7.holds Tryd.pinned (.plain (OpenSpec.ofChange bitsThereSpec)) bitsThereCard

/-- THE TIED CARD OF 'gamehallkeep1.BitsRays'. -/
def bitsRaysCard : Claim7 := { stood := { row := bitsRaysRow, standIns := [], harness := (true, "05322a426697108f1eac5473546e5d70136c5e28ff3424c03843da20c13d07e7"), looks := false }, kinds := [], alts := [], laidByText := true, laidKinds := [.data], laidTests := true, laidLooks := .later }
def BitsRaysCardSaid : Prop := Claim7.holds Tryd.pinned (.plain (OpenSpec.ofChange bitsRaysSpec)) bitsRaysCard

/-- THE TIED CARD OF 'gamehallkeep1.BitsBack'. -/
def bitsBackCard : Claim7 := { stood := { row := bitsBackRow, standIns := [], harness := (true, "05322a426697108f1eac5473546e5d70136c5e28ff3424c03843da20c13d07e7"), looks := false }, kinds := [], alts := [], laidByText := true, laidKinds := [.data], laidTests := true, laidLooks := .later }
def BitsBackCardSaid : Prop := Claim7.holds Tryd.pinned (.plain (OpenSpec.ofChange bitsBackSpec)) bitsBackCard

/-- THE SECOND FORM's CARD OF 'gamehallkeep1.BitsParts'. -/
def bitsPartsUptoCard : Claim7 := { stood := { row := bitsPartsUptoRow, standIns := [], harness := (true, "05322a426697108f1eac5473546e5d70136c5e28ff3424c03843da20c13d07e7"), looks := false }, kinds := [], alts := [], laidByText := true, laidKinds := [.data], laidTests := true, laidLooks := .later }
def BitsPartsUptoCardSaid : Prop := Claim7.holds Tryd.pinned (.plain (OpenSpec.upto bitsPartsSpec)) bitsPartsUptoCard

/-- THE SECOND FORM's CARD OF 'gamehallkeep1.BitsThere'. -/
def bitsThereUptoCard : Claim7 := { stood := { row := bitsThereUptoRow, standIns := [], harness := (true, "05322a426697108f1eac5473546e5d70136c5e28ff3424c03843da20c13d07e7"), looks := false }, kinds := [], alts := [], laidByText := true, laidKinds := [.data], laidTests := true, laidLooks := .later }
def BitsThereUptoCardSaid : Prop := Claim7.holds Tryd.pinned (.plain (OpenSpec.upto bitsThereSpec)) bitsThereUptoCard

/-- THE SECOND FORM's CARD OF 'gamehallkeep1.BitsRays'. -/
def bitsRaysUptoCard : Claim7 := { stood := { row := bitsRaysUptoRow, standIns := [], harness := (true, "05322a426697108f1eac5473546e5d70136c5e28ff3424c03843da20c13d07e7"), looks := false }, kinds := [], alts := [], laidByText := true, laidKinds := [.data], laidTests := true, laidLooks := .later }
def BitsRaysUptoCardSaid : Prop := Claim7.holds Tryd.pinned (.plain (OpenSpec.upto bitsRaysSpec)) bitsRaysUptoCard

/-- THE SECOND FORM's CARD OF 'gamehallkeep1.BitsBack'. -/
def bitsBackUptoCard : Claim7 := { stood := { row := bitsBackUptoRow, standIns := [], harness := (true, "05322a426697108f1eac5473546e5d70136c5e28ff3424c03843da20c13d07e7"), looks := false }, kinds := [], alts := [], laidByText := true, laidKinds := [.data], laidTests := true, laidLooks := .later }
def BitsBackUptoCardSaid : Prop := Claim7.holds Tryd.pinned (.plain (OpenSpec.upto bitsBackSpec)) bitsBackUptoCard
end Rows
end Go.Proofs.YtpoepaiaehhloaaDoor
