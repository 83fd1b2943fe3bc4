/- Words for memory, more: a block that begins with integers; a position in memory of the call's own. -/
import Derived.Test.YtdoibgmmijhlfaaDoorGLibA
import Derived.Test.YtdoibgmmijhlfaaDoorGBase
namespace Go.Proofs.YtdoibgmmijhlfaaDoor
open Go.RowKit
/-- Block g (of integers, no cell frozen) begins with zs. -/
def IRow (w : World) (g : Nat) (zs : List Int) : Prop := ∃ cur : Array Value, w.heap[g]? = some (.cells cur 3 (0, 0)) ∧ cur.toList.take zs.length = zs.map (Value.int .i64)
section
variable {w w' : World} {g : Nat} {zs : List Int}
theorem IRow.lt (h : IRow w g zs) : g < w.heap.size := by
  obtain ⟨cur, h, _⟩ := h
  exact (Array.getElem?_eq_some_iff.1 h).1
theorem IRow.cell (h : IRow w g zs) {i : Nat} (hi : i < zs.length) : w.cell? ⟨g, i, none⟩ = some (.int .i64 (zs.getD i 0)) := by
  obtain ⟨cur, h, ht⟩ := h
  rw [cell_of_row _ _ _ cur 3 (0, 0) h]
  have e : (cur.toList.take zs.length)[i]? = (zs.map (Value.int .i64))[i]? := by rw [ht]
  rw [List.getElem?_take, if_pos hi] at e
  simp [hi] at e
  simp [hi, e]
theorem IRow.frozen (h : IRow w g zs) (i : Nat) : w.frozen? ⟨g, i, none⟩ = false := by
  obtain ⟨cur, h, _⟩ := h
  simp [World.frozen?, h]
theorem IRow.ints (h : IRow w g zs) : IntsAt w (some ⟨g, 0, none⟩) zs := fun i hi => ⟨g, 0, rfl, by rw [Nat.zero_add]; exact h.cell hi⟩
theorem IRow.far (h : IRow w g zs) {p : Addr} (hp : g ≠ p.block) (u : Value) : IRow (w.setCell p u) g zs := by
  obtain ⟨cur, h, ht⟩ := h
  exact ⟨cur, (Below.heap_setCell w p u g hp).trans h, ht⟩
theorem IRow.ext (h : IRow w g zs) (he : Ext w w') : IRow w' g zs := by
  obtain ⟨cur, h, ht⟩ := h
  exact ⟨cur, (he.block g (Array.getElem?_eq_some_iff.1 h).1).trans h, ht⟩
theorem IRow.same (h : IRow w g zs) (he : w'.heap[g]? = w.heap[g]?) : IRow w' g zs := by
  obtain ⟨cur, h, ht⟩ := h
  exact ⟨cur, he.trans h, ht⟩
theorem IRow.drew (h : IRow w g zs) : IRow w.drew g zs := h
theorem IRow.drewN (h : IRow w g zs) (n : Nat) : IRow (w.drewN n) g zs := h
theorem IRow.alloc (h : IRow w g zs) (o : Obj) : IRow (w.alloc o) g zs := h.ext (ext_alloc (Below.refl _ _) o)
theorem IRow.set_ (h : IRow w g zs) (i : Nat) (u : Int) : IRow (w.setCell ⟨g, i, none⟩ (.int .i64 u)) g (zs.set i u) := by
  obtain ⟨cur, h, ht⟩ := h
  refine ⟨cur.setIfInBounds i (.int .i64 u), ?_, ?_⟩
  · simp [World.setCell, Array.getElem?_modify, h]
  · rw [List.length_set, List.map_set, ← ht, Array.toList_setIfInBounds, List.take_set]
end
/-- What slices.Clone has made of a list that is not empty. -/
theorem own_irow {w : World} {B n c : Nat} {A : Option Addr} {zs : List Int} (h : w.ownsRow B 3 1 (.slice A n c) n (zs.map (Value.int .i64))) (hn : zs.length = n) (h1 : 1 ≤ n) : ∃ g, A = some ⟨g, 0, none⟩ ∧ B ≤ g ∧ IRow w g zs ∧ n ≤ c := by
  have hc := own_cap h
  rcases h.2 with ⟨e1, e2⟩ | ⟨g, cap, cur, e1, hb, hg, _, _, _, ht⟩
  · omega
  · injection e1 with a b c
    subst a
    refine ⟨g, rfl, hb, ⟨cur, hg, ?_⟩, hc⟩
    rw [← ht]
    simp [hn]
/-- A position that lies in blocks from B on, each of its lists in one of its own. -/
def PosOwn (w : World) (B : Nat) (v : Value) (P : PosM) : Prop :=
  ∃ g0 c0 g1 c1 g2 c2, v = .agg #[.slice (some ⟨g0, 0, none⟩) P.cells.length c0, .slice (some ⟨g1, 0, none⟩) P.hand0.length c1, .slice (some ⟨g2, 0, none⟩) P.hand1.length c2, .int .i64 P.turn, .int .i64 P.quiet] ∧
    B ≤ g0 ∧ g0 < g1 ∧ g1 < g2 ∧ IRow w g0 P.cells ∧ IRow w g1 P.hand0 ∧ IRow w g2 P.hand1 ∧ P.cells.length ≤ c0 ∧ P.hand0.length ≤ c1 ∧ P.hand1.length ≤ c2
theorem PosOwn.at_ {w : World} {B : Nat} {v : Value} {P : PosM} (h : PosOwn w B v P) : PosAt w v P := by
  obtain ⟨g0, c0, g1, c1, g2, c2, e, -, -, -, r0, r1, r2, h⟩ := h
  exact ⟨_, c0, _, c1, _, c2, e, r0.ints, r1.ints, r2.ints, h⟩
theorem blk_put {w : World} {g i : Nat} {t : TypeId} {cs cs' : Array Value} {u : Value} (h : Blk w g t cs) (e : cs.setIfInBounds i u = cs') : Blk (w.setCell ⟨g, i, none⟩ u) g t cs' := by
  have := h.set_ i u
  rwa [e] at this
end Go.Proofs.YtdoibgmmijhlfaaDoor
