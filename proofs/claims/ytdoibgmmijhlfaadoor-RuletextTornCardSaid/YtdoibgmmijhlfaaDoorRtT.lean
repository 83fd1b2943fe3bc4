/- Walk: ruletext.takes, ruletext.blocks. -/
import Derived.Test.YtdoibgmmijhlfaaDoorRtG
namespace Go.Proofs.YtdoibgmmijhlfaaDoor
open Go.RowKit
set_option linter.unusedVariables false
set_option linter.unusedSimpArgs false
theorem rtakes_any (w : World) : Calls Tryd.prog 33 #[] w fun e w' => e = .returned (.agg #[.string (strU wNever), .string (strU wMay), .string (strU wMust)]) ∧ Ext w w' := by
  obtain ⟨xa, k1⟩ := blks1 w #[.string (strU wNever), .string (strU wMay), .string (strU wMust)] 68
  go_enter Tryd.func33, Tryd.ntmps33
  go_wp2
  have hw : ∀ W, W = w.alloc (.cells #[.string (strU wNever), .string (strU wMay), .string (strU wMust)] 68) → Ext w W ∧ Blk W w.heap.size 68 #[.string (strU wNever), .string (strU wMay), .string (strU wMust)] := fun W h => by rw [h]; exact ⟨xa, k1⟩
  clear xa k1
  generalize hW : w.alloc _ = W
  obtain ⟨xa, k1⟩ := hw W hW.symm
  have r0 : W.cell? ⟨w.heap.size, 0, none⟩ = some (.string (strU wNever)) := k1.cell 0
  have r1 : W.cell? ⟨w.heap.size, 1, none⟩ = some (.string (strU wMay)) := k1.cell 1
  have r2 : W.cell? ⟨w.heap.size, 2, none⟩ = some (.string (strU wMust)) := k1.cell 2
  refine bodyPost_ret (v := .agg #[.string (strU wNever), .string (strU wMay), .string (strU wMust)]) ?_ rfl ?_
  · simp [results, Tryd.results33, go_sem, r0, r1, r2]
  · exact ⟨rfl, xa⟩
theorem rblocks_any (w : World) : Calls Tryd.prog 36 #[] w fun e w' => e = .returned (.agg #[.string (strU wLoses), .string (strU wWins), .string (strU wDraws)]) ∧ Ext w w' := by
  obtain ⟨xa, k1⟩ := blks1 w #[.string (strU wLoses), .string (strU wWins), .string (strU wDraws)] 68
  go_enter Tryd.func36, Tryd.ntmps36
  go_wp2
  have hw : ∀ W, W = w.alloc (.cells #[.string (strU wLoses), .string (strU wWins), .string (strU wDraws)] 68) → Ext w W ∧ Blk W w.heap.size 68 #[.string (strU wLoses), .string (strU wWins), .string (strU wDraws)] := fun W h => by rw [h]; exact ⟨xa, k1⟩
  clear xa k1
  generalize hW : w.alloc _ = W
  obtain ⟨xa, k1⟩ := hw W hW.symm
  have r0 : W.cell? ⟨w.heap.size, 0, none⟩ = some (.string (strU wLoses)) := k1.cell 0
  have r1 : W.cell? ⟨w.heap.size, 1, none⟩ = some (.string (strU wWins)) := k1.cell 1
  have r2 : W.cell? ⟨w.heap.size, 2, none⟩ = some (.string (strU wDraws)) := k1.cell 2
  refine bodyPost_ret (v := .agg #[.string (strU wLoses), .string (strU wWins), .string (strU wDraws)]) ?_ rfl ?_
  · simp [results, Tryd.results36, go_sem, r0, r1, r2]
  · exact ⟨rfl, xa⟩
end Go.Proofs.YtdoibgmmijhlfaaDoor
