/- Words for memory, more: blocks laid one behind the other. Plain lemmas, no program. -/
import Derived.Test.YtdoibgmmijhlfaaMem2
namespace Go.Proofs.Ytdoibgmmijhlfaa
open Go.RowKit
theorem blks1 (w : World) (c1 : Array Value) (t1 : TypeId) : Ext w (w.alloc (.cells c1 t1)) ∧ Blk (w.alloc (.cells c1 t1)) w.heap.size t1 c1 := ⟨ext_alloc (Below.refl _ _) _, Blk.new _ _ _⟩
theorem blks2 (w : World) (c1 : Array Value) (t1 : TypeId) (c2 : Array Value) (t2 : TypeId) :
    Ext w ((w.alloc (.cells c1 t1)).alloc (.cells c2 t2)) ∧ Blk ((w.alloc (.cells c1 t1)).alloc (.cells c2 t2)) w.heap.size t1 c1 ∧ Blk ((w.alloc (.cells c1 t1)).alloc (.cells c2 t2)) (w.heap.size + 1) t2 c2 := by
  have h := Blk.new (w.alloc (.cells c1 t1)) t2 c2
  rw [show (w.alloc (.cells c1 t1)).heap.size = w.heap.size + 1 from by simp] at h
  exact ⟨ext_alloc (ext_alloc (Below.refl _ _) _) _, (Blk.new w t1 c1).alloc _, h⟩
theorem blks3 (w : World) (c1 : Array Value) (t1 : TypeId) (c2 : Array Value) (t2 : TypeId) (c3 : Array Value) (t3 : TypeId) :
    Ext w (((w.alloc (.cells c1 t1)).alloc (.cells c2 t2)).alloc (.cells c3 t3)) ∧ Blk (((w.alloc (.cells c1 t1)).alloc (.cells c2 t2)).alloc (.cells c3 t3)) w.heap.size t1 c1 ∧
      Blk (((w.alloc (.cells c1 t1)).alloc (.cells c2 t2)).alloc (.cells c3 t3)) (w.heap.size + 1) t2 c2 ∧ Blk (((w.alloc (.cells c1 t1)).alloc (.cells c2 t2)).alloc (.cells c3 t3)) (w.heap.size + 1 + 1) t3 c3 := by
  obtain ⟨h1, h2, h3⟩ := blks2 w c1 t1 c2 t2
  have h := Blk.new ((w.alloc (.cells c1 t1)).alloc (.cells c2 t2)) t3 c3
  rw [show ((w.alloc (.cells c1 t1)).alloc (.cells c2 t2)).heap.size = w.heap.size + 1 + 1 from by simp] at h
  exact ⟨ext_alloc h1 _, h2.alloc _, h3.alloc _, h⟩
end Go.Proofs.Ytdoibgmmijhlfaa
