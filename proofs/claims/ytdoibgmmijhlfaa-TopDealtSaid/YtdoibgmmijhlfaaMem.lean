/- Words for memory: a slice of integers that reads as a list; what a call that writes no old memory leaves alone. Plain lemmas, no program. -/
import Derived.WalkKit
import Derived.Below
import Derived.Deep.Draws
import Derived.Laws.MakeOwn
import Derived.Laws.OwnMore
namespace Go.Proofs.Ytdoibgmmijhlfaa
open Go.RowKit

theorem hide {p : Prop} (h : p) : Hid p := h
theorem ret_int {k : IntKind} {a b : Int} (h : a = b) : Ending.returned (.int k a) = .returned (.int k b) := by rw [h]

/-- What a call leaves: old memory as it was. -/
abbrev Ext (w w' : World) : Prop := Below w.heap.size w w'

theorem ext_trans {a b c : World} (h : Ext a b) (k : Ext b c) : Ext a c := Below.trans h (Below.mono k h.size)

/-- Address A leads to the integers zs (asked only where there is an element). -/
def IntsAt (w : World) (A : Option Addr) (zs : List Int) : Prop :=
  ∀ i, i < zs.length → ∃ b o, A = some ⟨b, o, none⟩ ∧ w.cell? ⟨b, o + i, none⟩ = some (.int .i64 (zs.getD i 0))

theorem lt_of_cell {w : World} {a : Addr} {v : Value} (h : w.cell? a = some v) : a.block < w.heap.size := by
  rcases Nat.lt_or_ge a.block w.heap.size with hlt | hge
  · exact hlt
  · simp [World.cell?, Array.getElem?_eq_none hge] at h

theorem Ext.cell {w w' : World} (h : Ext w w') {a : Addr} {v : Value} (hc : w.cell? a = some v) : w'.cell? a = some v :=
  (Below.cell h (lt_of_cell hc)).trans hc

theorem ext_alloc {w w' : World} (h : Ext w w') (o : Obj) : Ext w (w'.alloc o) := Below.alloc h h.size o
theorem ext_drewN {w w' : World} (h : Ext w w') (n : Nat) : Ext w (w'.drewN n) := ⟨h.os, h.tape, h.output, h.size, h.block⟩

theorem IntsAt.ext {w w' : World} {A : Option Addr} {zs : List Int} (h : IntsAt w A zs) (he : Ext w w') : IntsAt w' A zs := by
  intro i hi
  obtain ⟨b, o, rfl, hc⟩ := h i hi
  exact ⟨b, o, rfl, he.cell hc⟩

theorem intsAt_nil (w : World) (A : Option Addr) : IntsAt w A [] := fun i hi => by simp at hi
theorem intsAt_new (w : World) (t : TypeId) (l : List Int) : IntsAt (w.alloc (.cells (l.map (Value.int .i64)).toArray t)) (some ⟨w.heap.size, 0, none⟩) l := by
  intro i hi
  refine ⟨w.heap.size, 0, rfl, ?_⟩
  have e : (w.alloc (.cells (l.map (Value.int .i64)).toArray t)).heap[w.heap.size]? = some (.cells (l.map (Value.int .i64)).toArray t) := by
    show (w.heap.push _)[w.heap.size]? = _
    simp
  unfold World.cell?
  simp only [e]
  simp [hi]
theorem below_drewN {B : Nat} {a w : World} (h : Below B a w) (n : Nat) : Below B a (w.drewN n) := ⟨h.os, h.tape, h.output, h.size, h.block⟩

/-- Block g holds just the integers zs (elements of type t); none of its cells is frozen. -/
def Row (w : World) (g : Nat) (t : TypeId) (zs : List Int) : Prop := w.heap[g]? = some (.cells (zs.map (Value.int .i64)).toArray t (0, 0))
section
variable {w w' : World} {g : Nat} {t : TypeId} {zs : List Int}
theorem Row.lt (h : Row w g t zs) : g < w.heap.size := by
  rcases Nat.lt_or_ge g w.heap.size with hlt | hge
  · exact hlt
  · unfold Row at h; rw [Array.getElem?_eq_none hge] at h; cases h
theorem Row.cell (h : Row w g t zs) {i : Nat} (hi : i < zs.length) : w.cell? ⟨g, i, none⟩ = some (.int .i64 (zs.getD i 0)) := by
  unfold Row at h
  unfold World.cell?
  simp only [h]
  simp [hi]
theorem Row.frozen (h : Row w g t zs) (i : Nat) : w.frozen? ⟨g, i, none⟩ = false := by
  unfold Row at h
  simp [World.frozen?, h]
theorem Row.ints (h : Row w g t zs) : IntsAt w (some ⟨g, 0, none⟩) zs := fun i hi => ⟨g, 0, rfl, by rw [Nat.zero_add]; exact h.cell hi⟩
theorem Row.new (w : World) (t : TypeId) (zs : List Int) : Row (w.alloc (.cells (zs.map (Value.int .i64)).toArray t)) w.heap.size t zs := by
  show (w.heap.push _)[w.heap.size]? = _
  simp
theorem Row.drewN (h : Row w g t zs) (n : Nat) : Row (w.drewN n) g t zs := h
theorem Row.alloc (h : Row w g t zs) (o : Obj) : Row (w.alloc o) g t zs := (Below.heap_alloc w o g h.lt).trans h
theorem Row.set_ (h : Row w g t zs) (i : Nat) (u : Int) : Row (w.setCell ⟨g, i, none⟩ (.int .i64 u)) g t (zs.set i u) := by
  unfold Row at h ⊢
  simp [World.setCell, Array.getElem?_modify, h, List.map_set]
theorem Row.far (h : Row w g t zs) {p : Addr} (hp : g ≠ p.block) (u : Value) : Row (w.setCell p u) g t zs := (Below.heap_setCell w p u g hp).trans h
theorem Row.below {B : Nat} (h : Row w g t zs) (hb : Below B w w') (hg : g < B) : Row w' g t zs := (hb.block g hg).trans h
theorem Row.ext (h : Row w g t zs) (hb : Ext w w') : Row w' g t zs := h.below hb h.lt
end

/-- make([]T, n) of integers, whatever the world. -/
theorem make_ints {P : Program} (t e : TypeId) (i : TypeInfo) (ht : P.underlying t = some (.slice e)) (hi : P.info? e = some i) (hz : i.zero = some (.int .i64 0)) (hs : i.size = 1) (hby : i.bytes = 8)
    (n : Nat) (hn : n ≤ 2 ^ 45) (w : World) :
    (Instr.makeSlice t (.int .i64 (n : Int)) (.int .i64 (n : Int))).run P w = .ok (.slice (some ⟨w.heap.size, 0, none⟩) n n) (w.alloc (.cells ((List.replicate n (0 : Int)).map (Value.int .i64)).toArray e)) := by
  have hr := run_make (P := P) w t e i (.int .i64 0) ht hi hz .i64 .i64 n n (by omega) (by omega) (by rw [hby]; omega) (by omega)
  rw [hr, hs]
  have : (madeCells (Value.int .i64 0).cells (n * 1)) = ((List.replicate n (0 : Int)).map (Value.int .i64)).toArray := by
    apply Array.toList_inj.1
    rw [Nat.mul_one]
    show (madeCells #[Value.int .i64 0] n).toList = _
    rw [toList_madeCells_one]
    simp
  simp only [Int.toNat_natCast, this]
end Go.Proofs.Ytdoibgmmijhlfaa
