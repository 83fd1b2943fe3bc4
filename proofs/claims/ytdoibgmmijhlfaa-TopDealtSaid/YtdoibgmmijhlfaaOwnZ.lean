/- Rows of integers of the call's own: appending, sorting, each once. -/
import Derived.Test.YtdoibgmmijhlfaaCloneInts
import Derived.Test.YtdoibgmmijhlfaaOrbitP
import Derived.Test.YtdoibgmmijhlfaaSortI
import Derived.Test.YtdoibgmmijhlfaaMem2
namespace Go.Proofs.Ytdoibgmmijhlfaa
open Go.ChangeShapes Go.WideShapes Go.ChangeAt Go.RowKit Go.Shelf
set_option linter.unusedVariables false
open Go.Sort
theorem intInfoZ : (Try.prog.info? 3).map (fun i => (i.zero, i.size, i.bytes)) = some (some (.int .i64 0), 1, 8) := by kernel_rfl
/-- A slice value that owns a row of integers, laid since world w0. -/
def OwnZ (w0 w : World) (v : Value) (xs : List Int) : Prop := ∃ A c, v = .slice A xs.length c ∧ w.ownsRow w0.heap.size 3 1 (.slice A xs.length c) xs.length (xs.map (Value.int .i64))
theorem OwnZ.nil (w0 w : World) : OwnZ w0 w (.slice none 0 0) [] := ⟨none, 0, rfl, World.ownsRow_nil _ _ _ _⟩
theorem OwnZ.ext {w0 w w' : World} {v : Value} {xs : List Int} (h : OwnZ w0 w v xs) (he : Ext w w') : OwnZ w0 w' v xs := by
  obtain ⟨A, c, e, h⟩ := h
  exact ⟨A, c, e, own_ext h he⟩
theorem OwnZ.ints {w0 w : World} {v : Value} {xs : List Int} (h : OwnZ w0 w v xs) : ∃ A c, v = .slice A xs.length c ∧ IntsAt w A xs := by
  obtain ⟨A, c, e, h⟩ := h
  exact ⟨A, c, e, cells_ints (own_cells h).1⟩
theorem wp_append_z {ops : Array Oper} {rest : List Oper} {o : Oper} {a : Act} {Q : Exit → Act → World → Prop} (s x : Operand) (hgd : o.guard = none)
    (ho : o.op = .call { callee := .builtin .append, args := #[s, x], argTypes := #[23, 23] }) (w0 w : World) (v : Value) (xs : List Int) (z : Int) (hs : a.eval s = v) (hown : OwnZ w0 w v xs) (hx : a.eval x = .slice (some ⟨w.heap.size, 0, none⟩) 1 1)
    (hext : Ext w0 w) (hlen : xs.length ≤ 1000000) (h : ∀ v' w', OwnZ w0 w' v' (xs ++ [z]) → Ext w0 w' → w.grownBy w' v.ownBlock → wpList Try.prog ops Q rest (a.put o.dst v') w') :
    wpList Try.prog ops Q (o :: rest) a (w.alloc (.cells #[.int .i64 z] 3)) := by
  obtain ⟨A, c, rfl, hown⟩ := hown
  obtain ⟨i0, hi, hz0, hz1, hz2⟩ := info_parts intInfoZ
  have hsz := hext.size
  refine wpList_append_cells (P := Try.prog) _ hgd s x 23 ho w0.heap.size 3 i0 (.int .i64 0) 1 8 Try.underlying23 hi hz0 hz1 hz2 rfl (by decide) _ xs.length (xs.map (Value.int .i64)) hs (own_ext hown (ext_alloc (Below.refl _ _) _)) _ 1 1 [.int .i64 z] hx rfl (cellsAt_new w 3 [.int .i64 z]) (by simp [Value.oneCell']) (by simp only [maxLen]; omega) (by omega) (by simp; omega) (by simp) ?_
  intro v' w' hown' hgrow
  obtain ⟨A', c', rfl, _, _⟩ := own_shape hown'
  refine h _ w' ⟨A', c', by simp, by simpa using hown'⟩ (ext_grown (ext_alloc hext _) hgrow (own_row hown)) ?_
  exact ⟨hgrow.os, hgrow.tape, hgrow.output, by have := hgrow.size; simp at this; omega, fun b hb hn => by
    rw [hgrow.block b (by simp; omega) hn]
    exact Below.heap_alloc w _ b hb⟩
/-- A row that is not empty, as the shelf's contracts want it. -/
theorem OwnZ.holds {w0 w : World} {v : Value} {zs : List Int} (h : OwnZ w0 w v zs) (h0 : zs ≠ []) :
    ∃ g c cur, v = .slice (some ⟨g, 0, none⟩) zs.length c ∧ Holds (Value.int .i64) w g 0 zs.toArray ∧ g < w.heap.size ∧ w0.heap.size ≤ g ∧ zs.length ≤ c ∧ Blk w g 3 cur ∧ cur.size = c ∧ c ≤ maxLen := by
  obtain ⟨A, c, rfl, hown⟩ := h
  rcases hown.2 with ⟨e1, e2⟩ | ⟨g, cap, cur, e1, hb, hg, hnc, hcm, hcs, ht⟩
  · exact absurd (List.eq_nil_of_length_eq_zero (by simpa using e2)) h0
  · injection e1 with a b d
    subst a; subst d
    have ht' : cur.toList.take (zs.length * 1) = zs.map (Value.int .i64) := ht
    have hcs' : cur.size = c * 1 := hcs
    refine ⟨g, c, cur, rfl, fun j hj => ?_, (Array.getElem?_eq_some_iff.1 hg).1, hb, hnc, hg, by omega, hcm⟩
    have hj' : j < zs.length := by simpa using hj
    refine ⟨?_, by simp [World.frozen?, hg]⟩
    rw [Nat.zero_add, cell_of_row _ _ _ cur _ (0, 0) hg]
    have e : (cur.toList.take (zs.length * 1))[j]? = (zs.map (Value.int .i64))[j]? := by rw [ht']
    rw [List.getElem?_take, if_pos (by omega), List.getElem?_map, List.getElem?_eq_getElem hj'] at e
    rw [← Array.getElem?_toList, e]
    have e2 : zs.toArray[j]! = zs[j] := getElem!_pos _ j (by simpa using hj')
    rw [e2]
    rfl
/-- The row anew. -/
theorem ownZ_put {w0 w W : World} {g c m : Nat} {ys : List Int} {cur : Array Value} (hg : Blk w g 3 cur) (hcs : cur.size = c) (hcm : c ≤ maxLen) (hb : w0.heap.size ≤ g) (hx : Ext w0 w) (hyc : ys.length ≤ c) (hm : m ≤ ys.length)
    (hos : W.os = w.os) (htape : W.tape = w.tape) (hout : W.output = w.output) (hsz : w.heap.size ≤ W.heap.size) (hheap : ∀ k, k < w.heap.size → W.heap[k]? = (w.heap.modify g (onCells (putCells (Value.int .i64) 0 ys.toArray)))[k]?) :
    OwnZ w0 W (.slice (some ⟨g, 0, none⟩) m c) (ys.take m) ∧ Ext w0 W := by
  have hl : (ys.take m).length = m := by rw [List.length_take]; omega
  have hglt := hg.lt
  refine ⟨⟨some ⟨g, 0, none⟩, c, by rw [hl], ?_⟩, ?_⟩
  · refine ⟨by simp, .inr ⟨g, c, putCells (Value.int .i64) 0 ys.toArray cur, by rw [hl], hb, ?_, by rw [hl]; omega, hcm, by simp [putCells, hcs], ?_⟩⟩
    · rw [hheap g hglt, Array.getElem?_modify, if_pos rfl]
      have hg' : w.heap[g]? = some (.cells cur 3) := hg
      rw [hg']
      rfl
    · show (putCells (Value.int .i64) 0 ys.toArray cur).toList.take ((ys.take m).length * 1) = _
      rw [hl, Nat.mul_one]
      apply List.ext_getElem?
      intro i
      rw [List.getElem?_take, List.getElem?_map, List.getElem?_take]
      by_cases hi : i < m
      · rw [if_pos hi, if_pos hi]
        have hic : i < cur.size := by omega
        have hiy : i < ys.length := by omega
        have e2 : ys.toArray[i]! = ys[i] := getElem!_pos _ i (by simpa using hiy)
        rw [Array.getElem?_toList, List.getElem?_eq_getElem hiy]
        simp [putCells, hic, hiy]
      · rw [if_neg hi, if_neg hi]; rfl
  · refine ⟨hos.trans hx.os, htape.trans hx.tape, hout.trans hx.output, by have := hx.size; omega, fun b hb' => ?_⟩
    rw [hheap b (by have := hx.size; omega), Array.getElem?_modify, if_neg (by omega)]
    exact hx.block b hb'
def sortI (l : List Int) : List Int := l.mergeSort fun x y => decide (x ≤ y)
theorem sortI_mem {l : List Int} {x : Int} : x ∈ sortI l ↔ x ∈ l := (List.mergeSort_perm l _).mem_iff
theorem sortI_len (l : List Int) : (sortI l).length = l.length := (List.mergeSort_perm l _).length_eq
theorem sortI_le (l : List Int) : (sortI l).Pairwise (· ≤ ·) := by
  have h := List.pairwise_mergeSort (le := fun x y : Int => decide (x ≤ y)) (fun a b c h1 h2 => by simp only [decide_eq_true_eq] at *; omega) (fun a b => by simp only [Bool.or_eq_true, decide_eq_true_eq]; omega) l
  exact h.imp (fun hab => by simpa using hab)
theorem le_get {d : List Int} (h : d.Pairwise (· ≤ ·)) {i j : Nat} (hij : i ≤ j) (hj : j < d.length) : d.toArray[i]! ≤ d.toArray[j]! := by
  have e1 : d.toArray[i]! = d[i] := getElem!_pos _ i (by simp; omega)
  have e2 : d.toArray[j]! = d[j] := getElem!_pos _ j (by simpa using hj)
  rw [e1, e2]
  by_cases e : i = j
  · subst e; exact Int.le_refl _
  · exact List.pairwise_iff_getElem.1 h i j (by omega) hj (by omega)
theorem compact_lt {d : List Int} (h : d.Pairwise (· ≤ ·)) : (Lib.compact d).Pairwise (· < ·) := by
  unfold Lib.compact Lib.compactUpTo
  rw [List.pairwise_map]
  refine List.Pairwise.imp_of_mem ?_ (List.Pairwise.filter _ (List.pairwise_lt_range (n := d.length)))
  intro i j hi hj hij
  obtain ⟨-, -⟩ := List.mem_filter.1 hi
  obtain ⟨hj1, hj2⟩ := List.mem_filter.1 hj
  have hjl := List.mem_range.1 hj1
  unfold Lib.keeps at hj2
  simp only [decide_eq_true_eq] at hj2
  have hne := hj2.resolve_left (by omega)
  have a := le_get h (show i ≤ j - 1 by omega) (by omega)
  have b := le_get h (show j - 1 ≤ j by omega) hjl
  omega
theorem compact_mem {d : List Int} {x : Int} : x ∈ Lib.compact d ↔ x ∈ d := by
  unfold Lib.compact Lib.compactUpTo
  rw [List.mem_map]
  constructor
  · rintro ⟨i, hi, rfl⟩
    have hil := List.mem_range.1 (List.mem_filter.1 hi).1
    have e1 : d.toArray[i]! = d[i] := getElem!_pos _ i (by simpa using hil)
    rw [e1]
    exact List.getElem_mem hil
  · intro hx
    obtain ⟨i, hi, e⟩ := List.mem_iff_getElem.1 hx
    have key : ∀ k, k < d.length → d.toArray[k]! = x → ∃ a, a ∈ List.filter (Lib.keeps d.toArray) (List.range d.length) ∧ d.toArray[a]! = x := by
      intro k
      induction k with
      | zero => exact fun h1 h2 => ⟨0, List.mem_filter.2 ⟨List.mem_range.2 h1, by simp [Lib.keeps]⟩, h2⟩
      | succ k ih =>
        intro h1 h2
        by_cases hk : d.toArray[k + 1]! = d.toArray[k]!
        · exact ih (by omega) (hk ▸ h2)
        · exact ⟨k + 1, List.mem_filter.2 ⟨List.mem_range.2 h1, by unfold Lib.keeps; rw [decide_eq_true_eq]; exact .inr hk⟩, h2⟩
    exact key i hi (by rw [← e]; exact getElem!_pos _ i (by simpa using hi))
theorem compact_sorted (l : List Int) : Lib.compact (sortI l) = setI l :=
  lt_ext (compact_lt (sortI_le l)) (setI_lt l) (fun z => by rw [compact_mem, sortI_mem, mem_setI])
theorem compact_len_le (d : List Int) : (Lib.compact d).length ≤ d.length := by
  unfold Lib.compact Lib.compactUpTo
  rw [List.length_map]
  exact Nat.le_trans (List.length_filter_le _ _) (by simp)
theorem sort_ints {w0 w : World} {v : Value} {zs : List Int} (h : OwnZ w0 w v zs) (hx : Ext w0 w) (h0 : zs ≠ []) (hl : zs.length ≤ 1000000) :
    Calls Try.prog 31 #[v] w fun e w' => e = .returned (.tuple #[]) ∧ OwnZ w0 w' v (sortI zs) ∧ Ext w0 w' := by
  obtain ⟨g, c, cur, rfl, hH, hg, hb, hc, hcur, hcs, hcm⟩ := h.holds h0
  have hS := Try.slices_Sort_int g 0 c zs w hH hg (by omega)
  have hys : (zs.mergeSort fun x y => decide (x ≤ y)) = sortI zs := rfl
  have hyl := sortI_len zs
  rw [hys] at hS
  generalize sortI zs = ys at *
  refine hS.mono ?_
  rintro e w' ⟨rfl, n, os, rfl⟩
  have hp := ownZ_put (W := grow (putRow (Value.int .i64) (Sort.ahead w n) g 0 ys.toArray) os) (m := zs.length) (ys := ys) hcur hcs hcm hb hx (by omega) (by omega) rfl rfl rfl (by simp) (fun k hk => by
    rw [heap_grow_old _ _ (by simpa using hk)]
    rfl)
  rw [List.take_of_length_le (by omega)] at hp
  exact ⟨rfl, hp⟩
end Go.Proofs.Ytdoibgmmijhlfaa
