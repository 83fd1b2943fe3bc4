/- Rows of the call's own, of elements of any type: appending one. -/
import Derived.Test.YthgbdonjheengaaMem2
import Derived.Test.YthgbdonjheengaaProg
namespace Go.Proofs.Ythgbdonjheengaa
open Go.RowKit
set_option linter.unusedVariables false
/-- A slice value that owns a row of n elements (type e, sz cells each), laid since world w0. -/
def OwnR (e : TypeId) (sz : Nat) (w0 w : World) (v : Value) (n : Nat) (cs : List Value) : Prop := ∃ A c, v = .slice A n c ∧ w.ownsRow w0.heap.size e sz (.slice A n c) n cs
section
variable {e : TypeId} {sz : Nat} {w0 w w' : World} {v : Value} {n : Nat} {cs : List Value}
theorem OwnR.nil (e : TypeId) (sz : Nat) (w0 w : World) : OwnR e sz w0 w (.slice none 0 0) 0 [] := ⟨none, 0, rfl, World.ownsRow_nil _ _ _ _⟩
theorem OwnR.ext (h : OwnR e sz w0 w v n cs) (he : Ext w w') : OwnR e sz w0 w' v n cs := by
  obtain ⟨A, c, e, h⟩ := h
  exact ⟨A, c, e, own_ext h he⟩
theorem OwnR.base {w1 : World} (h : OwnR e sz w1 w v n cs) (hb : w0.heap.size ≤ w1.heap.size) : OwnR e sz w0 w v n cs := by
  obtain ⟨A, c, e, h⟩ := h
  exact ⟨A, c, e, own_mono h hb⟩
theorem OwnR.cells (h : OwnR e sz w0 w v n cs) : ∃ A c, v = .slice A n c ∧ CellsAt w A cs ∧ n ≤ c ∧ (A = none → n = 0) ∧ ∀ a, A = some a → w0.heap.size ≤ a.block := by
  obtain ⟨A, c, rfl, h⟩ := h
  refine ⟨A, c, rfl, (own_cells h).1, own_cap h, (own_cells h).2, fun a ha => ?_⟩
  subst ha
  exact own_row h _ rfl
theorem wp_append_r {ops : Array Oper} {rest : List Oper} {o : Oper} {a : Act} {Q : Exit → Act → World → Prop} (s x : Operand) (hgd : o.guard = none) (S : TypeId)
    (ho : o.op = .call { callee := .builtin .append, args := #[s, x], argTypes := #[S, S] }) (e : TypeId) (sz bytes : Nat) (z : Value) (hS : Try.prog.underlying S = some (.slice e))
    (hinfo : (Try.prog.info? e).map (fun i => (i.zero, i.size, i.bytes)) = some (some z, sz, bytes)) (hzs : z.cells.size = sz) (hsz0 : 0 < sz) (hby : bytes ≤ 1000)
    (w0 w : World) (v : Value) (n : Nat) (cs news : List Value) (hs : a.eval s = v) (hown : OwnR e sz w0 w v n cs) (hx : a.eval x = .slice (some ⟨w.heap.size, 0, none⟩) 1 1) (hl : news.length = sz) (h1 : ∀ u ∈ news, u.oneCell' = true)
    (hext : Ext w0 w) (hlen : n ≤ 1000000) (h : ∀ v' w', OwnR e sz w0 w' v' (n + 1) (cs ++ news) → Ext w0 w' → w.grownBy w' v.ownBlock → wpList Try.prog ops Q rest (a.put o.dst v') w') :
    wpList Try.prog ops Q (o :: rest) a (w.alloc (.cells news.toArray e)) := by
  obtain ⟨A, c, rfl, hown⟩ := hown
  obtain ⟨i0, hi, hz0, hz1, hz2⟩ := info_parts hinfo
  have hsz := hext.size
  refine wpList_append_cells (P := Try.prog) _ hgd s x S ho w0.heap.size e i0 z sz bytes hS hi hz0 hz1 hz2 hzs hsz0 _ n cs hs (own_ext hown (ext_alloc (Below.refl _ _) _)) _ 1 1 news hx (by rw [hl, Nat.one_mul]) (cellsAt_new w e news) h1 (by simp only [maxLen]; omega) (by
    have : (n + 1) * bytes ≤ 1000001 * 1000 := Nat.mul_le_mul (by omega) hby
    omega) (by simp; omega) (by simp) ?_
  intro v' w' hown' hgrow
  obtain ⟨A', c', rfl, _, _⟩ := own_shape hown'
  refine h _ w' ⟨A', c', rfl, hown'⟩ (ext_grown (ext_alloc hext _) hgrow (own_row hown)) ?_
  exact ⟨hgrow.os, hgrow.tape, hgrow.output, by have := hgrow.size; simp at this; omega, fun b hb hn => by
    rw [hgrow.block b (by simp; omega) hn]
    exact Below.heap_alloc w _ b hb⟩
theorem oper_append_r {o : Oper} {a : Act} {K : Act → World → Prop} {Q : Exit → Act → World → Prop} (s x : Operand) (S : TypeId)
    (ho : o.op = .call { callee := .builtin .append, args := #[s, x], argTypes := #[S, S] }) (e : TypeId) (sz bytes : Nat) (z : Value) (hS : Try.prog.underlying S = some (.slice e))
    (hinfo : (Try.prog.info? e).map (fun i => (i.zero, i.size, i.bytes)) = some (some z, sz, bytes)) (hzs : z.cells.size = sz) (hsz0 : 0 < sz) (hby : bytes ≤ 1000)
    (w0 w : World) (v : Value) (n : Nat) (cs news : List Value) (hs : a.eval s = v) (hown : OwnR e sz w0 w v n cs) (hx : a.eval x = .slice (some ⟨w.heap.size, 0, none⟩) 1 1) (hl : news.length = sz) (h1 : ∀ u ∈ news, u.oneCell' = true)
    (hext : Ext w0 w) (hlen : n ≤ 1000000) (h : ∀ v' w', OwnR e sz w0 w' v' (n + 1) (cs ++ news) → Ext w0 w' → w.grownBy w' v.ownBlock → K (a.put o.dst v') w') :
    Oper.wp Try.prog o a (w.alloc (.cells news.toArray e)) K Q := by
  obtain ⟨A, c, rfl, hown⟩ := hown
  obtain ⟨i0, hi, hz0, hz1, hz2⟩ := info_parts hinfo
  have hsz := hext.size
  obtain ⟨v', w', hrun, h2, h3⟩ := run_append_cells (P := Try.prog) _ w0.heap.size S o.type e i0 z sz bytes hS hi hz0 hz1 hz2 hzs hsz0 _ n cs (own_ext hown (ext_alloc (Below.refl _ _) _)) (some ⟨w.heap.size, 0, none⟩) 1 1 news (by rw [hl, Nat.one_mul]) (cellsAt_new w e news) h1 (by simp only [maxLen]; omega) (by
    have : (n + 1) * bytes ≤ 1000001 * 1000 := Nat.mul_le_mul (by omega) hby
    omega) (by simp; omega) (by simp)
  unfold Oper.wp execOp
  simp only [ho, resolve, invoke, builtin, Sem.run_bind, Sem.run_pure, Result.andThen_ok, List.map_toArray, List.map_cons, List.map_nil, hs, hx, hrun]
  obtain ⟨A', c', rfl, _, _⟩ := own_shape h2
  refine h _ w' ⟨A', c', rfl, h2⟩ (ext_grown (ext_alloc hext _) h3 (own_row hown)) ?_
  exact ⟨h3.os, h3.tape, h3.output, by have := h3.size; simp at this; omega, fun b hb hn => by
    rw [h3.block b (by simp; omega) hn]
    exact Below.heap_alloc w _ b hb⟩
end
end Go.Proofs.Ythgbdonjheengaa
