/- The library's table in the start of a call, out of the row's condition; the door's own heap meets it. -/
import Derived.Test.YtpoepaiaehhloaaDoorRows
import Derived.Test.YtpoepaiaehhloaaDoorCards
import Derived.Test.YtpoepaiaehhloaaDoorTie
import Derived.Test.YtpoepaiaehhloaaDoorChecked
import Derived.ProofKit
import Derived.LaidMore
import Derived.OpenShut
import Derived.ChangeOld
import Derived.SevenTiedAt
import Derived.Stop.Joined
import Derived.Lib.LaidTab
import Derived.Test.YtpoepaiaehhloaaDoorTrail
namespace Go.Proofs.YtpoepaiaehhloaaDoor
open Go.ChangeShapes Go.WideShapes Go.ChangeAt Go.RowKit
set_option linter.unusedVariables false
theorem own : ownKnob Tryd.prog.godebug = none := by kernel_rfl
theorem laidOut : laidOutB Tryd.prog = true := by kernel_rfl
def laidL : List (String × DataW Unit) := [("math/bits.deBruijn64tab", Rows.laid_math_bits_deBruijn64tab)]
theorem door_met (os : Os) (args : Array Value) : laidMetH Tryd.prog laidL ((World.doorLaid Tryd.prog 600 os).forCall (fun _ _ => 0) ⟨#[], args, []⟩).memory :=
  laidMetH_of_parts3 (fuel := 8) (laidMet_of_run' 8 (by kernel_rfl) (by kernel_rfl)) (by kernel_rfl) (by kernel_rfl)
theorem gTab : Tryd.prog.globalNamed "math/bits.deBruijn64tab" = some 0 := by kernel_rfl
theorem tTab : (Tryd.prog.globals[0]?).map (·.type) = some 48 := by kernel_rfl
def tabZ : List Int := Lib.deBruijn64tab.map Int.ofNat
theorem tabZ_at : ∀ j, j < 64 → tabZ.getD j 0 = ((Lib.deBruijn64tab.getD j 0 : Nat) : Int) := by decide +kernel
theorem laid_tab : (Rows.laid_math_bits_deBruijn64tab : DataW Unit) = Lib.tabData .u8 tabZ := by kernel_rfl
theorem tab_of_laid {W : World} (h : laidMetH Tryd.prog laidL W) : Tab W := by
  have h1 : laidMet Tryd.prog laidL W := h
  unfold laidL at h1
  rw [laid_tab] at h1
  have h2 : Lib.TabIs Tryd.prog W "math/bits.deBruijn64tab" .u8 tabZ :=
    Lib.tabIs_of_head gTab tTab Tryd.underlying48 Tryd.underlying5 (by kernel_rfl) (by kernel_rfl) h1
  have hl : tabZ.length = 64 := by decide +kernel
  have hc : ∀ j, j < 64 → W.cell? ⟨0, j, none⟩ = some (.int .u8 ((Lib.deBruijn64tab.getD j 0 : Nat) : Int)) := fun j hj => by
    rw [h2.cell gTab j (by omega), tabZ_at j hj]
  refine ⟨?_, hc⟩
  have h0 := hc 0 (by omega)
  rcases Nat.eq_zero_or_pos W.heap.size with hz | hz
  · have : W.heap[0]? = none := Array.getElem?_eq_none (by omega)
    simp [World.cell?, this] at h0
  · exact hz
end Go.Proofs.YtpoepaiaehhloaaDoor
