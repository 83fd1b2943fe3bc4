/- Walks: the position near the end of a game of three in a row. -/
import Derived.Test.YtdoibgmmijhlfaaDoorIRow
import Derived.Laws.ResultCell
namespace Go.Proofs.YtdoibgmmijhlfaaDoor
open Go.ChangeShapes Go.WideShapes Go.ChangeAt Go.RowKit
set_option linter.unusedVariables false
theorem blks4 (w : World) (c1 : Array Value) (t1 : TypeId) (c2 : Array Value) (t2 : TypeId) (c3 : Array Value) (t3 : TypeId) (c4 : Array Value) (t4 : TypeId) :
    Ext w ((((w.alloc (.cells c1 t1)).alloc (.cells c2 t2)).alloc (.cells c3 t3)).alloc (.cells c4 t4)) ∧ Blk ((((w.alloc (.cells c1 t1)).alloc (.cells c2 t2)).alloc (.cells c3 t3)).alloc (.cells c4 t4)) w.heap.size t1 c1 ∧
      Blk ((((w.alloc (.cells c1 t1)).alloc (.cells c2 t2)).alloc (.cells c3 t3)).alloc (.cells c4 t4)) (w.heap.size + 1) t2 c2 ∧ Blk ((((w.alloc (.cells c1 t1)).alloc (.cells c2 t2)).alloc (.cells c3 t3)).alloc (.cells c4 t4)) (w.heap.size + 1 + 1) t3 c3 ∧
      Blk ((((w.alloc (.cells c1 t1)).alloc (.cells c2 t2)).alloc (.cells c3 t3)).alloc (.cells c4 t4)) (w.heap.size + 1 + 1 + 1) t4 c4 := by
  obtain ⟨h1, h2, h3, h4⟩ := blks3 w c1 t1 c2 t2 c3 t3
  have h := Blk.new (((w.alloc (.cells c1 t1)).alloc (.cells c2 t2)).alloc (.cells c3 t3)) t4 c4
  rw [show (((w.alloc (.cells c1 t1)).alloc (.cells c2 t2)).alloc (.cells c3 t3)).heap.size = w.heap.size + 1 + 1 + 1 from by simp] at h
  exact ⟨ext_alloc h1 _, h2.alloc _, h3.alloc _, h4.alloc _, h⟩
theorem blk_irow {w : World} {g : Nat} {zs : List Int} (h : Blk w g 3 (zs.map (Value.int .i64)).toArray) : IRow w g zs := ⟨_, h, List.take_of_length_le (by simp)⟩
def nearP : PosM := { cells := [1, 1, 0, 2, 2, 0, 0, 0, 0], hand0 := [3], hand1 := [3], turn := 0, quiet := 0 }
end Go.Proofs.YtdoibgmmijhlfaaDoor
