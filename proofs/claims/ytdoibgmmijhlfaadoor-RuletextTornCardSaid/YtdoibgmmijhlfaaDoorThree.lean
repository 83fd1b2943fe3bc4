/- Walks: the rules of three in a row, and the position near its end. -/
import Derived.Test.YtdoibgmmijhlfaaDoorRows
import Derived.Test.YtdoibgmmijhlfaaDoorGBase
import Derived.ProofKit
import Derived.OpenShut
import Derived.Outline
namespace Go.Proofs.YtdoibgmmijhlfaaDoor
open Go.ChangeShapes Go.WideShapes Go.ChangeAt Go.RowKit
set_option linter.unusedVariables false
def threeR : RulesM := { name := ⟨#[84, 73, 67]⟩, width := 3, height := 3, pieces := [⟨65, 5, 0, []⟩], start := [0, 0, 0, 0, 0, 0, 0, 0, 0], falls := false, keeps := false, ends := [⟨0, 0, 3, false⟩], blocked := 2, quiet := 0, rept := 0 }
theorem make9 (W : World) : (Instr.makeSlice 23 (.int .i64 9) (.int .i64 9)).run Tryd.prog W = .ok (.slice (some ⟨W.heap.size, 0, none⟩) 9 9) (W.alloc (.cells #[.int .i64 0, .int .i64 0, .int .i64 0, .int .i64 0, .int .i64 0, .int .i64 0, .int .i64 0, .int .i64 0, .int .i64 0] 3)) := by kernel_rfl
theorem three_any (w : World) : Calls Tryd.prog 11 #[] w fun e w' => ∃ v, e = .returned v ∧ RulesAt w' v threeR ∧ Ext w w' := by
  have hmk := make9
  go_enter Tryd.func11, Tryd.ntmps11
  go_wp2
  have kR := Blk.new w 26 #[.string ⟨#[84, 73, 67]⟩, .int .i64 3, .int .i64 3, .slice (some ⟨w.heap.size + 1, 0, none⟩) 1 1, .slice (some ⟨w.heap.size + 1 + 1, 0, none⟩) 9 9, .bool false, .bool false, .slice (some ⟨w.heap.size + 1 + 1 + 1, 0, none⟩) 1 1, .int .i64 2, .int .i64 0, .int .i64 0]
  have xR : Ext w (w.alloc (.cells #[.string ⟨#[84, 73, 67]⟩, .int .i64 3, .int .i64 3, .slice (some ⟨w.heap.size + 1, 0, none⟩) 1 1, .slice (some ⟨w.heap.size + 1 + 1, 0, none⟩) 9 9, .bool false, .bool false, .slice (some ⟨w.heap.size + 1 + 1 + 1, 0, none⟩) 1 1, .int .i64 2, .int .i64 0, .int .i64 0] 26)) := ext_alloc (Below.refl _ _) _
  have sR : (w.alloc (.cells #[.string ⟨#[84, 73, 67]⟩, .int .i64 3, .int .i64 3, .slice (some ⟨w.heap.size + 1, 0, none⟩) 1 1, .slice (some ⟨w.heap.size + 1 + 1, 0, none⟩) 9 9, .bool false, .bool false, .slice (some ⟨w.heap.size + 1 + 1 + 1, 0, none⟩) 1 1, .int .i64 2, .int .i64 0, .int .i64 0] 26)).heap.size = w.heap.size + 1 := by simp
  generalize w.alloc (.cells #[.string ⟨#[84, 73, 67]⟩, .int .i64 3, .int .i64 3, .slice (some ⟨w.heap.size + 1, 0, none⟩) 1 1, .slice (some ⟨w.heap.size + 1 + 1, 0, none⟩) 9 9, .bool false, .bool false, .slice (some ⟨w.heap.size + 1 + 1 + 1, 0, none⟩) 1 1, .int .i64 2, .int .i64 0, .int .i64 0] 26) = w1 at *
  have cP := cellsAt_new w1 64 [.int .u8 65, .int .i64 5, .int .i64 0, .slice none 0 0]
  rw [sR] at cP
  have kR2 := kR.alloc (.cells #[.int .u8 65, .int .i64 5, .int .i64 0, .slice none 0 0] 64)
  have xR2 := ext_alloc xR (.cells #[.int .u8 65, .int .i64 5, .int .i64 0, .slice none 0 0] 64)
  have sP : (w1.alloc (.cells #[.int .u8 65, .int .i64 5, .int .i64 0, .slice none 0 0] 64)).heap.size = w.heap.size + 1 + 1 := by simp [sR]
  clear kR xR sR
  generalize w1.alloc (.cells #[.int .u8 65, .int .i64 5, .int .i64 0, .slice none 0 0] 64) = w2 at *
  have cS := cellsAt_new w2 3 [.int .i64 0, .int .i64 0, .int .i64 0, .int .i64 0, .int .i64 0, .int .i64 0, .int .i64 0, .int .i64 0, .int .i64 0]
  rw [sP] at cS
  have kR3 := kR2.alloc (.cells #[.int .i64 0, .int .i64 0, .int .i64 0, .int .i64 0, .int .i64 0, .int .i64 0, .int .i64 0, .int .i64 0, .int .i64 0] 3)
  have xR3 := ext_alloc xR2 (.cells #[.int .i64 0, .int .i64 0, .int .i64 0, .int .i64 0, .int .i64 0, .int .i64 0, .int .i64 0, .int .i64 0, .int .i64 0] 3)
  have cP3 := cP.ext (ext_alloc (Below.refl _ _) (.cells #[.int .i64 0, .int .i64 0, .int .i64 0, .int .i64 0, .int .i64 0, .int .i64 0, .int .i64 0, .int .i64 0, .int .i64 0] 3))
  have sS : (w2.alloc (.cells #[.int .i64 0, .int .i64 0, .int .i64 0, .int .i64 0, .int .i64 0, .int .i64 0, .int .i64 0, .int .i64 0, .int .i64 0] 3)).heap.size = w.heap.size + 1 + 1 + 1 := by simp [sP]
  clear kR2 xR2 cP sP
  generalize w2.alloc (.cells #[.int .i64 0, .int .i64 0, .int .i64 0, .int .i64 0, .int .i64 0, .int .i64 0, .int .i64 0, .int .i64 0, .int .i64 0] 3) = w3 at *
  have cE := cellsAt_new w3 73 [.int .i64 0, .int .i64 0, .int .i64 3, .bool false]
  rw [sS] at cE
  have kR4 := kR3.alloc (.cells #[.int .i64 0, .int .i64 0, .int .i64 3, .bool false] 73)
  have xR4 := ext_alloc xR3 (.cells #[.int .i64 0, .int .i64 0, .int .i64 3, .bool false] 73)
  have cP4 := cP3.ext (ext_alloc (Below.refl _ _) (.cells #[.int .i64 0, .int .i64 0, .int .i64 3, .bool false] 73))
  have cS4 := cS.ext (ext_alloc (Below.refl _ _) (.cells #[.int .i64 0, .int .i64 0, .int .i64 3, .bool false] 73))
  clear kR3 xR3 cP3 cS sS
  generalize w3.alloc (.cells #[.int .i64 0, .int .i64 0, .int .i64 3, .bool false] 73) = w4 at *
  have f := kR4.cell
  refine bodyPost_ret (v := .agg #[.string ⟨#[84, 73, 67]⟩, .int .i64 3, .int .i64 3, .slice (some ⟨w.heap.size + 1, 0, none⟩) 1 1, .slice (some ⟨w.heap.size + 1 + 1, 0, none⟩) 9 9, .bool false, .bool false, .slice (some ⟨w.heap.size + 1 + 1 + 1, 0, none⟩) 1 1, .int .i64 2, .int .i64 0, .int .i64 0]) ?_ rfl ?_
  · simp [results, Tryd.results11, go_sem, f]
  · refine ⟨_, rfl, ⟨_, 1, _, 9, _, 1, rfl, ⟨[[.int .u8 65, .int .i64 5, .int .i64 0, .slice none 0 0]], by simpa using cP4, rfl, fun i p l a b => ?_⟩, cells_ints cS4, cE, by decide, by decide, by decide, by decide⟩, xR4⟩
    match i, a, b with
    | 0, a, b =>
      simp [threeR] at a b
      subst a; subst b
      exact ⟨none, 0, rfl, cellsAt_nil _ _⟩
    | i + 1, a, b => simp [threeR] at a
end Go.Proofs.YtdoibgmmijhlfaaDoor
