/- Appending one element to a row of the call's own: integers, moves. -/
import Derived.Test.YtdoibgmmijhlfaaDoorGLibA
import Derived.Test.YtdoibgmmijhlfaaDoorGBase
namespace Go.Proofs.YtdoibgmmijhlfaaDoor
open Go.ChangeShapes Go.WideShapes Go.ChangeAt Go.RowKit
set_option linter.unusedVariables false
/-- A slice value that owns a row of integers, laid since world w0. -/
def OwnI (w0 w : World) (v : Value) (xs : List Int) : Prop := ∃ A c, v = .slice A xs.length c ∧ w.ownsRow w0.heap.size 3 1 (.slice A xs.length c) xs.length (xs.map (Value.int .i64))
theorem OwnI.nil (w0 w : World) : OwnI w0 w (.slice none 0 0) [] := ⟨none, 0, rfl, World.ownsRow_nil _ _ _ _⟩
theorem OwnI.ext {w0 w w' : World} {v : Value} {xs : List Int} (h : OwnI w0 w v xs) (he : Ext w w') : OwnI w0 w' v xs := by
  obtain ⟨A, c, e, h⟩ := h
  exact ⟨A, c, e, own_ext h he⟩
theorem len_vals (ms : List MoveM) : (ms.flatMap MoveM.vals).length = ms.length * 3 := by
  induction ms with
  | nil => rfl
  | cons a l ih => rw [List.flatMap_cons, List.length_append, ih, List.length_cons, Nat.add_mul]; simp [MoveM.vals]; omega
theorem wp_append_int {ops : Array Oper} {rest : List Oper} {o : Oper} {a : Act} {Q : Exit → Act → World → Prop} (s x : Operand) (hgd : o.guard = none)
    (ho : o.op = .call { callee := .builtin .append, args := #[s, x], argTypes := #[23, 23] }) (w0 w : World) (v : Value) (xs : List Int) (z : Int) (hs : a.eval s = v) (hown : OwnI w0 w v xs) (hx : a.eval x = .slice (some ⟨w.heap.size, 0, none⟩) 1 1)
    (hext : Ext w0 w) (hlen : xs.length ≤ 1000000) (h : ∀ v' w', OwnI w0 w' v' (xs ++ [z]) → Ext w0 w' → w.grownBy w' v.ownBlock → wpList Tryd.prog ops Q rest (a.put o.dst v') w') :
    wpList Tryd.prog ops Q (o :: rest) a (w.alloc (.cells #[.int .i64 z] 3)) := by
  obtain ⟨A, c, rfl, hown⟩ := hown
  obtain ⟨i0, hi, hz0, hz1, hz2⟩ := info_parts intInfo
  have hsz := hext.size
  refine wpList_append_cells (P := Tryd.prog) _ hgd s x 23 ho w0.heap.size 3 i0 (.int .i64 0) 1 8 Tryd.underlying23 hi hz0 hz1 hz2 rfl (by decide) _ xs.length (xs.map (Value.int .i64)) hs (own_ext hown (ext_alloc (Below.refl _ _) _)) _ 1 1 [.int .i64 z] hx rfl (cellsAt_new w 3 [.int .i64 z]) (by simp [Value.oneCell']) (by simp only [maxLen]; omega) (by omega) (by simp; omega) (by simp) ?_
  intro v' w' hown' hgrow
  obtain ⟨A', c', rfl, _, _⟩ := own_shape hown'
  refine h _ w' ⟨A', c', by simp, by simpa using hown'⟩ (ext_grown (ext_alloc hext _) hgrow (own_row hown)) ?_
  exact ⟨hgrow.os, hgrow.tape, hgrow.output, by have := hgrow.size; simp at this; omega, fun b hb hn => by
    rw [hgrow.block b (by simp; omega) hn]
    exact Below.heap_alloc w _ b hb⟩
theorem OwnI.ints {w0 w : World} {v : Value} {xs : List Int} (h : OwnI w0 w v xs) : ∃ A c, v = .slice A xs.length c ∧ IntsAt w A xs := by
  obtain ⟨A, c, e, h⟩ := h
  exact ⟨A, c, e, cells_ints (own_cells h).1⟩
end Go.Proofs.YtdoibgmmijhlfaaDoor
