/- Walk: some, an element of a list of moves that is not empty. -/
import Derived.Test.YthmldoffonlddaaGAll
namespace Go.Proofs.Ythmldoffonlddaa
open Go.ChangeShapes Go.WideShapes Go.ChangeAt Go.RowKit Go.Shelf
set_option linter.unusedVariables false
def SomePost (w : World) (L : List MoveM) (e : Ending) (w' : World) : Prop := ∃ m, m ∈ L ∧ e = .returned (.agg #[.int .i64 m.src, .int .i64 m.dst, .int .i64 m.piece]) ∧ Ext w w'
theorem some_idx {n l : Int} (hl : 1 ≤ l) : -l < n.tmod l ∧ n.tmod l < l ∧ 0 ≤ (n.tmod l + l).tmod l ∧ (n.tmod l + l).tmod l < l := by
  have h1 : -l < n.tmod l ∧ n.tmod l < l := by
    have a := Int.tmod_lt_of_pos n (show 0 < l by omega)
    refine ⟨?_, a⟩
    have b := Int.tmod_lt_of_pos (-n) (show 0 < l by omega)
    rw [Int.neg_tmod] at b
    omega
  refine ⟨h1.1, h1.2, Int.tmod_nonneg _ (by omega), Int.tmod_lt_of_pos _ (by omega)⟩
set_option maxHeartbeats 1000000 in
set_option maxRecDepth 100000 in
theorem some_move (L : List MoveM) (n : Int) (v : Value) (w : World) (h : MovesAt w v L) (hl : L.length ≤ 1000000) (h0 : L ≠ []) :
    Calls Try.prog 19 #[v, .int .i64 n] w (SomePost w L) := by
  obtain ⟨A, c, rfl, hc⟩ := h
  have hpos : 1 ≤ L.length := by
    rcases L with _ | ⟨x, l⟩
    · exact absurd rfl h0
    · simp
  obtain ⟨q1, q2, q3, q4⟩ := some_idx (n := n) (l := (L.length : Int)) (by omega)
  obtain ⟨k, hk⟩ := Int.eq_ofNat_of_zero_le q3
  have hk' : (n.tmod (L.length : Int) + (L.length : Int)).tmod (L.length : Int) = (k : Int) := hk
  have hkl : k < L.length := by omega
  obtain ⟨m, hm⟩ : ∃ m, L[k]? = some m := ⟨L[k], List.getElem?_eq_getElem _⟩
  obtain ⟨b, o, rfl, c0, c1, c2⟩ := moves_get hc hm
  have HM := hide (List.mem_of_getElem? hm)
  obtain ⟨x1, k1⟩ := blks1 w #[.int .i64 0, .int .i64 0, .int .i64 0] 41
  have d0 := x1.cell c0
  have d1 := x1.cell c1
  have d2 := x1.cell c2
  have HI : (wrap64 (n.tmod (L.length : Int) + (L.length : Int))).tmod (L.length : Int) = (k : Int) := by
    have hw : wrap64 (n.tmod (L.length : Int) + (L.length : Int)) = n.tmod (L.length : Int) + (L.length : Int) := by unfold wrap64; omega
    rw [hw]
    exact hk'
  have z1 : ((L.length : Int) == 0) = false := by simp; omega
  have j0 : (0 : Int) ≤ (k : Int) := by omega
  have j1 : (k : Int) < (L.length : Int) := by omega
  clear hm hc c0 c1 c2 h0 hk hk' q1 q2 q3 q4 hpos
  go_enter Try.func19, Try.ntmps19
  go_wp2
  have K := Blk.new w 41 #[.int .i64 m.src, .int .i64 m.dst, .int .i64 m.piece]
  have f := K.cell
  refine bodyPost_ret (v := .agg #[.int .i64 m.src, .int .i64 m.dst, .int .i64 m.piece]) ?_ rfl ?_
  · simp [results, Try.results19, go_sem, f]
  · exact ⟨m, HM.out, rfl, ext_alloc (Below.refl _ _) _⟩
end Go.Proofs.Ythmldoffonlddaa
