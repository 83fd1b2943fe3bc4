/- Rows of the call's own, of elements of any type: appending one. Walk: strings.Join at one byte, in the model's words; rows of strings. Appending a slice onto a row of the call's own; slices.Reverse of strings; strings.Split as an own row. -/
import Derived.Test.YtdoibgmmijhlfaaDoorGBase
import Derived.Test.YtdoibgmmijhlfaaDoorProg
import Derived.Test.YtdoibgmmijhlfaaDoorGTxtB
import Derived.Test.YtdoibgmmijhlfaaDoorStrLayB
import Derived.Lib.OwnBridge
namespace Go.Proofs.YtdoibgmmijhlfaaDoor
open Go.RowKit
set_option linter.unusedVariables false
/-- A slice value that owns a row of n elements (type e, sz cells each), laid since world w0. -/
def OwnR (e : TypeId) (sz : Nat) (w0 w : World) (v : Value) (n : Nat) (cs : List Value) : Prop := ∃ A c, v = .slice A n c ∧ w.ownsRow w0.heap.size e sz (.slice A n c) n cs
section
variable {e : TypeId} {sz : Nat} {w0 w w' : World} {v : Value} {n : Nat} {cs : List Value}
theorem OwnR.nil (e : TypeId) (sz : Nat) (w0 w : World) : OwnR e sz w0 w (.slice none 0 0) 0 [] := ⟨none, 0, rfl, World.ownsRow_nil _ _ _ _⟩
theorem OwnR.ext (h : OwnR e sz w0 w v n cs) (he : Ext w w') : OwnR e sz w0 w' v n cs := by
  obtain ⟨A, c, e, h⟩ := h
  exact ⟨A, c, e, own_ext h he⟩
theorem OwnR.base {w1 : World} (h : OwnR e sz w1 w v n cs) (hb : w0.heap.size ≤ w1.heap.size) : OwnR e sz w0 w v n cs := by
  obtain ⟨A, c, e, h⟩ := h
  exact ⟨A, c, e, own_mono h hb⟩
theorem OwnR.cells (h : OwnR e sz w0 w v n cs) : ∃ A c, v = .slice A n c ∧ CellsAt w A cs ∧ n ≤ c ∧ (A = none → n = 0) ∧ ∀ a, A = some a → w0.heap.size ≤ a.block := by
  obtain ⟨A, c, rfl, h⟩ := h
  refine ⟨A, c, rfl, (own_cells h).1, own_cap h, (own_cells h).2, fun a ha => ?_⟩
  subst ha
  exact own_row h _ rfl
theorem wp_append_r {ops : Array Oper} {rest : List Oper} {o : Oper} {a : Act} {Q : Exit → Act → World → Prop} (s x : Operand) (hgd : o.guard = none) (S : TypeId)
    (ho : o.op = .call { callee := .builtin .append, args := #[s, x], argTypes := #[S, S] }) (e : TypeId) (sz bytes : Nat) (z : Value) (hS : Tryd.prog.underlying S = some (.slice e))
    (hinfo : (Tryd.prog.info? e).map (fun i => (i.zero, i.size, i.bytes)) = some (some z, sz, bytes)) (hzs : z.cells.size = sz) (hsz0 : 0 < sz) (hby : bytes ≤ 1000)
    (w0 w : World) (v : Value) (n : Nat) (cs news : List Value) (hs : a.eval s = v) (hown : OwnR e sz w0 w v n cs) (hx : a.eval x = .slice (some ⟨w.heap.size, 0, none⟩) 1 1) (hl : news.length = sz) (h1 : ∀ u ∈ news, u.oneCell' = true)
    (hext : Ext w0 w) (hlen : n ≤ 1000000) (h : ∀ v' w', OwnR e sz w0 w' v' (n + 1) (cs ++ news) → Ext w0 w' → w.grownBy w' v.ownBlock → wpList Tryd.prog ops Q rest (a.put o.dst v') w') :
    wpList Tryd.prog ops Q (o :: rest) a (w.alloc (.cells news.toArray e)) := by
  obtain ⟨A, c, rfl, hown⟩ := hown
  obtain ⟨i0, hi, hz0, hz1, hz2⟩ := info_parts hinfo
  have hsz := hext.size
  refine wpList_append_cells (P := Tryd.prog) _ hgd s x S ho w0.heap.size e i0 z sz bytes hS hi hz0 hz1 hz2 hzs hsz0 _ n cs hs (own_ext hown (ext_alloc (Below.refl _ _) _)) _ 1 1 news hx (by rw [hl, Nat.one_mul]) (cellsAt_new w e news) h1 (by simp only [maxLen]; omega) (by
    have : (n + 1) * bytes ≤ 1000001 * 1000 := Nat.mul_le_mul (by omega) hby
    omega) (by simp; omega) (by simp) ?_
  intro v' w' hown' hgrow
  obtain ⟨A', c', rfl, _, _⟩ := own_shape hown'
  refine h _ w' ⟨A', c', rfl, hown'⟩ (ext_grown (ext_alloc hext _) hgrow (own_row hown)) ?_
  exact ⟨hgrow.os, hgrow.tape, hgrow.output, by have := hgrow.size; simp at this; omega, fun b hb hn => by
    rw [hgrow.block b (by simp; omega) hn]
    exact Below.heap_alloc w _ b hb⟩
theorem oper_append_r {o : Oper} {a : Act} {K : Act → World → Prop} {Q : Exit → Act → World → Prop} (s x : Operand) (S : TypeId)
    (ho : o.op = .call { callee := .builtin .append, args := #[s, x], argTypes := #[S, S] }) (e : TypeId) (sz bytes : Nat) (z : Value) (hS : Tryd.prog.underlying S = some (.slice e))
    (hinfo : (Tryd.prog.info? e).map (fun i => (i.zero, i.size, i.bytes)) = some (some z, sz, bytes)) (hzs : z.cells.size = sz) (hsz0 : 0 < sz) (hby : bytes ≤ 1000)
    (w0 w : World) (v : Value) (n : Nat) (cs news : List Value) (hs : a.eval s = v) (hown : OwnR e sz w0 w v n cs) (hx : a.eval x = .slice (some ⟨w.heap.size, 0, none⟩) 1 1) (hl : news.length = sz) (h1 : ∀ u ∈ news, u.oneCell' = true)
    (hext : Ext w0 w) (hlen : n ≤ 1000000) (h : ∀ v' w', OwnR e sz w0 w' v' (n + 1) (cs ++ news) → Ext w0 w' → w.grownBy w' v.ownBlock → K (a.put o.dst v') w') :
    Oper.wp Tryd.prog o a (w.alloc (.cells news.toArray e)) K Q := by
  obtain ⟨A, c, rfl, hown⟩ := hown
  obtain ⟨i0, hi, hz0, hz1, hz2⟩ := info_parts hinfo
  have hsz := hext.size
  obtain ⟨v', w', hrun, h2, h3⟩ := run_append_cells (P := Tryd.prog) _ w0.heap.size S o.type e i0 z sz bytes hS hi hz0 hz1 hz2 hzs hsz0 _ n cs (own_ext hown (ext_alloc (Below.refl _ _) _)) (some ⟨w.heap.size, 0, none⟩) 1 1 news (by rw [hl, Nat.one_mul]) (cellsAt_new w e news) h1 (by simp only [maxLen]; omega) (by
    have : (n + 1) * bytes ≤ 1000001 * 1000 := Nat.mul_le_mul (by omega) hby
    omega) (by simp; omega) (by simp)
  unfold Oper.wp execOp
  simp only [ho, resolve, invoke, builtin, Sem.run_bind, Sem.run_pure, Result.andThen_ok, List.map_toArray, List.map_cons, List.map_nil, hs, hx, hrun]
  obtain ⟨A', c', rfl, _, _⟩ := own_shape h2
  refine h _ w' ⟨A', c', rfl, h2⟩ (ext_grown (ext_alloc hext _) h3 (own_row hown)) ?_
  exact ⟨h3.os, h3.tape, h3.output, by have := h3.size; simp at this; omega, fun b hb hn => by
    rw [h3.block b (by simp; omega) hn]
    exact Below.heap_alloc w _ b hb⟩
end
end Go.Proofs.YtdoibgmmijhlfaaDoor
namespace Go.Proofs.YtdoibgmmijhlfaaDoor
open Go.RowKit
set_option linter.unusedVariables false
theorem strInfoJ : (Tryd.prog.info? 9).map (fun i => (i.zero, i.size, i.bytes)) = some (some (.string ⟨#[]⟩), 1, 16) := by kernel_rfl
/-- The cells of strings. -/
def strsC (L : List BL) : List Value := L.map fun x => .string (strU x)
theorem strsC_len (L : List BL) : (strsC L).length = L.length := by simp [strsC]
theorem strsC_snoc (L : List BL) (x : BL) : strsC (L ++ [x]) = strsC L ++ [.string (strU x)] := by simp [strsC]
theorem strsC_one (L : List BL) : ∀ u ∈ strsC L, u.oneCell' = true := by
  intro u hu
  obtain ⟨x, -, rfl⟩ := List.mem_map.1 hu
  rfl
theorem strsC_get {L : List BL} {i : Nat} {x : BL} (h : L[i]? = some x) : (strsC L)[i]? = some (.string (strU x)) := by
  unfold strsC
  rw [List.getElem?_map, h]
  rfl
theorem join_any (c : UInt8) (L : List BL) (hn : 1 ≤ L.length) (hm : L.length ≤ 100000) (hlen : (joinL c L).length ≤ 100000) (A : Option Addr) (cap : Nat) (w : World) (hc : CellsAt w A (strsC L)) (hcap : L.length ≤ cap) :
    Calls Tryd.prog 17 #[.slice A L.length cap, .string (strU [c])] w fun e w' => e = .returned (.string (strU (joinL c L))) ∧ Ext w w' := by
  obtain ⟨x, hx⟩ : ∃ x, L[0]? = some x := ⟨_, List.getElem?_eq_getElem (by omega)⟩
  obtain ⟨b, o, rfl, hc0⟩ := hc 0 _ (strsC_get hx)
  have hxs : ((L.map strU).map (·.data.toList)) = L := by
    rw [List.map_map]
    conv => rhs; rw [← List.map_id L]
    exact List.map_congr_left fun y _ => strU_data y
  have hj : Lib.join ((L.map strU).map (·.data.toList)) (strU [c]).data.toList = joinL c L := by rw [hxs, strU_data, join_eq]
  have h := Tryd.strings_Join b o cap (L.map strU) (strU [c]) w (fun j y hy => by
    rw [List.getElem?_map] at hy
    cases hLj : L[j]? with
    | none => rw [hLj] at hy; cases hy
    | some z =>
      rw [hLj] at hy
      have e : strU z = y := by simpa using hy
      obtain ⟨b', o', e2, hcj⟩ := hc j _ (strsC_get hLj)
      injection e2 with e2
      injection e2 with e3 e4
      subst e3 e4 e
      exact hcj) (lt_of_cell hc0) (by rw [List.length_map]; omega) (by rw [List.length_map]; exact hcap) (by rw [hj]; omega)
  rw [hj, List.length_map] at h
  exact h
end Go.Proofs.YtdoibgmmijhlfaaDoor
namespace Go.Proofs.YtdoibgmmijhlfaaDoor
open Go.RowKit
set_option linter.unusedVariables false
section
variable {e : TypeId} {sz : Nat} {w0 w w' : World} {v : Value} {n : Nat} {cs : List Value}
theorem run_append_a (S : TypeId) (ty : TypeId) (e : TypeId) (sz bytes : Nat) (z : Value) (hS : Tryd.prog.underlying S = some (.slice e))
    (hinfo : (Tryd.prog.info? e).map (fun i => (i.zero, i.size, i.bytes)) = some (some z, sz, bytes)) (hzs : z.cells.size = sz) (hsz0 : 0 < sz) (hby : bytes ≤ 1000)
    (w0 w : World) (v : Value) (n : Nat) (cs news : List Value) (hown : OwnR e sz w0 w v n cs) (A : Option Addr) (m c : Nat) (hl : news.length = m * sz) (hr : CellsAt w A news) (h1 : ∀ u ∈ news, u.oneCell' = true) (hA : A = none → m = 0)
    (hext : Ext w0 w) (hlen : n + m ≤ 1000000) : ∃ v' w', (Builtin.append_ #[S, S] ty #[v, .slice A m c]).run Tryd.prog w = .ok v' w' ∧ OwnR e sz w0 w' v' (n + m) (cs ++ news) ∧ Ext w0 w' ∧ w.grownBy w' v.ownBlock := by
  obtain ⟨A0, c0, rfl, hown⟩ := hown
  obtain ⟨i0, hi, hz0, hz1, hz2⟩ := info_parts hinfo
  obtain ⟨v', w', hrun, h2, h3⟩ := run_append_cells (P := Tryd.prog) w w0.heap.size S ty e i0 z sz bytes hS hi hz0 hz1 hz2 hzs hsz0 _ n cs hown A m c news hl hr h1 (by simp only [maxLen]; omega) (by
    have : (n + m) * bytes ≤ 1000000 * 1000 := Nat.mul_le_mul (by omega) hby
    omega) hext.size hA
  obtain ⟨A', c', rfl, _, _⟩ := own_shape h2
  exact ⟨_, _, hrun, ⟨A', c', rfl, h2⟩, ext_grown hext h3 (own_row hown), h3⟩
theorem oper_append_a {o : Oper} {a : Act} {K : Act → World → Prop} {Q : Exit → Act → World → Prop} (s x : Operand) (S : TypeId)
    (ho : o.op = .call { callee := .builtin .append, args := #[s, x], argTypes := #[S, S] }) (e : TypeId) (sz bytes : Nat) (z : Value) (hS : Tryd.prog.underlying S = some (.slice e))
    (hinfo : (Tryd.prog.info? e).map (fun i => (i.zero, i.size, i.bytes)) = some (some z, sz, bytes)) (hzs : z.cells.size = sz) (hsz0 : 0 < sz) (hby : bytes ≤ 1000)
    (w0 w : World) (v : Value) (n : Nat) (cs news : List Value) (hs : a.eval s = v) (hown : OwnR e sz w0 w v n cs) (A : Option Addr) (m c : Nat) (hx : a.eval x = .slice A m c) (hl : news.length = m * sz) (hr : CellsAt w A news) (h1 : ∀ u ∈ news, u.oneCell' = true) (hA : A = none → m = 0)
    (hext : Ext w0 w) (hlen : n + m ≤ 1000000) (h : ∀ v' w', OwnR e sz w0 w' v' (n + m) (cs ++ news) → Ext w0 w' → w.grownBy w' v.ownBlock → K (a.put o.dst v') w') :
    Oper.wp Tryd.prog o a w K Q := by
  obtain ⟨v', w', hrun, h2, h3, h4⟩ := run_append_a S o.type e sz bytes z hS hinfo hzs hsz0 hby w0 w v n cs news hown A m c hl hr h1 hA hext hlen
  unfold Oper.wp execOp
  simp only [ho, resolve, invoke, builtin, Sem.run_bind, Sem.run_pure, Result.andThen_ok, List.map_toArray, List.map_cons, List.map_nil, hs, hx, hrun]
  exact h _ _ h2 h3 h4
end
theorem OwnR.blk_ne {e t : TypeId} {sz g n : Nat} {w0 w : World} {v : Value} {cs : List Value} {xs : Array Value} (h : OwnR e sz w0 w v n cs) (hg : Blk w g t xs) (hne : e ≠ t) : some g ≠ v.ownBlock := by
  obtain ⟨A, c, rfl, h⟩ := h
  exact (own_blk_ne h hg hne).symm
theorem OwnR_set {e t : TypeId} {sz g n i : Nat} {u : Value} {w0 w : World} {v : Value} {cs : List Value} {xs : Array Value} (h : OwnR e sz w0 w v n cs) (hg : Blk w g t xs) (hne : e ≠ t) : OwnR e sz w0 (w.setCell ⟨g, i, none⟩ u) v n cs := by
  obtain ⟨A, c, rfl, h⟩ := h
  exact ⟨A, c, rfl, own_set h (own_blk_ne h hg hne) u⟩
/-- A slice of strings that a call has laid anew. -/
theorem own_new (w : World) (L : List BL) (hm : L.length ≤ 1000000) : OwnR 9 1 w (w.alloc (.cells (strsC L).toArray 9)) (.slice (some ⟨w.heap.size, 0, none⟩) L.length L.length) L.length (strsC L) :=
  ⟨_, _, rfl, ⟨by rw [strsC_len, Nat.mul_one], .inr ⟨w.heap.size, L.length, _, rfl, Nat.le_refl _, heap_alloc_new w _, Nat.le_refl _, by simp only [maxLen]; omega, by simp [strsC_len], by
    rw [Nat.mul_one]
    exact List.take_of_length_le (by rw [strsC_len]; exact Nat.le_refl _)⟩⟩⟩
theorem split_own (c : UInt8) (s : BL) (hs : s.length ≤ 8192) (w : World) (hw : LibW w) : Calls Tryd.prog 24 #[.string (strU s), .string (strU [c])] w fun e w' => ∃ g, e = .returned (.slice (some ⟨g, 0, none⟩) (splitL c s).length (splitL c s).length) ∧ OwnR 9 1 w w' (.slice (some ⟨g, 0, none⟩) (splitL c s).length (splitL c s).length) (splitL c s).length (strsC (splitL c s)) ∧ Ext w w' := by
  refine (split_any c s hs w hw).mono ?_
  rintro e w' ⟨rfl, rfl⟩
  have hl : (splitL c s).length ≤ 1000000 := by
    rw [splitL_len]
    have := Lib.countB_le (strU [c]) (by rw [strU_size]; simp) (strU s).size (strU s) (Nat.le_refl _)
    rw [strU_size] at this
    omega
  exact ⟨_, rfl, own_new w _ hl, ext_alloc (Below.refl _ _) _⟩
theorem split_blk (c : UInt8) (s : BL) (hs : s.length ≤ 8192) (w : World) (hw : LibW w) : Calls Tryd.prog 24 #[.string (strU s), .string (strU [c])] w fun e w' => ∃ g, e = .returned (.slice (some ⟨g, 0, none⟩) (splitL c s).length (splitL c s).length) ∧ Blk w' g 9 (strsC (splitL c s)).toArray ∧ w.heap.size ≤ g ∧ Ext w w' := by
  refine (split_any c s hs w hw).mono ?_
  rintro e w' ⟨rfl, rfl⟩
  exact ⟨_, rfl, Blk.new w _ _, Nat.le_refl _, ext_alloc (Below.refl _ _) _⟩
theorem reverse_any (w0 w : World) (L : List BL) (g c : Nat) (hO : OwnR 9 1 w0 w (.slice (some ⟨g, 0, none⟩) L.length c) L.length (strsC L)) :
    Calls Tryd.prog 25 #[.slice (some ⟨g, 0, none⟩) L.length c] w fun e w' => e = .returned (.tuple #[]) ∧ OwnR 9 1 w0 w' (.slice (some ⟨g, 0, none⟩) L.length c) L.length (strsC L.reverse) ∧ ∀ B u, B ≤ w0.heap.size → Below B u w → Below B u w' := by
  obtain ⟨A, c', e, hO⟩ := hO
  simp only [Value.slice.injEq, true_and] at e
  obtain ⟨e1, e2⟩ := e
  rw [← e1, ← e2] at hO
  have hO' : w.ownsRow w0.heap.size 9 1 (.slice (some ⟨g, 0, none⟩) L.length c) L.length (L.map encStr) := hO
  obtain ⟨g', cap, e3, hb, hlt, hn, hm, -, hH⟩ := Lib.holds_of_ownsRow hO' (by simp)
  simp only [Value.slice.injEq, Option.some.injEq, Addr.mk.injEq, and_true, true_and] at e3
  obtain ⟨e3, e4⟩ := e3
  subst e3 e4
  refine (Tryd.slices_Reverse_string g 0 c L w hH (by simp only [maxLen] at hm; omega)).mono ?_
  rintro e w' ⟨rfl, q, rfl⟩
  have h := Lib.ownsRow_putRow (q := q) (k := L.length) (ys := L.reverse) hO' (by simp) (Nat.le_refl _)
  rw [List.take_of_length_le (by simp)] at h
  exact ⟨rfl, ⟨_, _, rfl, h⟩, fun B u hB hu => Lib.below_putRow hu (by omega)⟩
end Go.Proofs.YtdoibgmmijhlfaaDoor
