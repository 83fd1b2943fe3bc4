/- Cells in which both players are exchanged, as plain data. No program. -/
import Derived.Test.YtdoibgmmijhlfaaDoorRows
import Derived.Test.YtdoibgmmijhlfaaDoorGBase
import Derived.Test.YtdoibgmmijhlfaaDoorGSymm
import Derived.ProofKit
import Derived.OpenShut
import Derived.Outline
import Derived.Deep.QuietTactic
import Derived.BigQuiet
import Derived.StillTailTactics
import Derived.RegionTactic
namespace Go.Proofs.YtdoibgmmijhlfaaDoor
open Go.ChangeShapes Go.WideShapes Go.ChangeAt Go.RowKit
set_option linter.unusedVariables false
/-- The piece of the other player. -/
def flipC (c : Int) : Int := if 0 < c then (if c % 2 = 1 then c + 1 else c - 1) else c
theorem flipC_xor (c : Int) (h0 : 0 < c) (h1 : c ≤ 12) : bits .xor .i64 (c - 1) 1 + 1 = flipC c := by
  rcases (by omega : c = 1 ∨ c = 2 ∨ c = 3 ∨ c = 4 ∨ c = 5 ∨ c = 6 ∨ c = 7 ∨ c = 8 ∨ c = 9 ∨ c = 10 ∨ c = 11 ∨ c = 12) with rfl | rfl | rfl | rfl | rfl | rfl | rfl | rfl | rfl | rfl | rfl | rfl
  all_goals decide +kernel
theorem flipC_neg (c : Int) (h : ¬ 0 < c) : flipC c = c := by unfold flipC; rw [if_neg h]
theorem flipC_bd (c : Int) (m : Int) (h0 : 0 ≤ c) (h1 : c ≤ 2 * m) : 0 ≤ flipC c ∧ flipC c ≤ 2 * m := by
  unfold flipC; split
  · split <;> omega
  · omega
theorem flipC_flipC (c : Int) (h0 : 0 ≤ c) : flipC (flipC c) = c := by
  unfold flipC
  by_cases h : 0 < c
  · rw [if_pos h]
    by_cases h2 : c % 2 = 1
    · rw [if_pos h2, if_pos (by omega), if_neg (by omega)]; omega
    · rw [if_neg h2, if_pos (by omega), if_pos (by omega)]; omega
  · rw [if_neg h, if_neg h]
/-- Cells in which both players are exchanged. -/
def turnCells (a b : Int) (cells : List Int) : List Int := movedL a b 2 (cells.map flipC)
theorem turnCells_length (a b : Int) (cells : List Int) : (turnCells a b cells).length = cells.length := by unfold turnCells; rw [movedL_length, List.length_map]
theorem toL_two (a b q : Int) : toL a b 2 q = (b - 1 - q / a) * a + q % a := by
  unfold toL toX toY
  have e0 : b0 2 = false := by decide
  have e1 : b1 2 = true := by decide
  have e2 : b2 2 = false := by decide
  simp [e0, e1, e2]
theorem okSym_two {a b : Int} : okSym a b 2 := ⟨by omega, by have := cnt_bd a b; omega⟩
end Go.Proofs.YtdoibgmmijhlfaaDoor
