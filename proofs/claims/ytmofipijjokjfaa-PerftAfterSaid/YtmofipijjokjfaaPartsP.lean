/- The parts of perft.Divide: what they tell; some of them. -/
import Derived.Test.YtmofipijjokjfaaPartsQ
import Derived.Test.YtmofipijjokjfaaSome
namespace Go.Proofs.Ytmofipijjokjfaa
open Go.ChangeShapes Go.WideShapes Go.ChangeAt Go.RowKit Go.Shelf
set_option linter.unusedVariables false
set_option linter.unusedSimpArgs false
theorem part_law {R : RulesM} {P : PosM} {D : Int} (h0 : divE R P D = 0) {x : PartM} (hx : x ∈ divM R P D) : x.1 ∈ listM R P ∧ perftE R (makeM R P x.1) (D - 1) = 0 ∧ perftL R (makeM R P x.1) (D - 1) = x.2 := by
  obtain ⟨hck, d1, d2, ht, -⟩ := perft_fine h0
  obtain ⟨hV, hS⟩ := check_iff.1 hck
  obtain ⟨m, hm, rfl⟩ := List.mem_map.1 hx
  have hS2 := sound_move hV hS hm
  obtain ⟨k, hk⟩ := List.getElem?_of_mem hm
  have e : D.toNat = (D - 1).toNat + 1 := by omega
  rw [e] at ht
  have h2 : treeM R ((D - 1).toNat + 1) P = 1 + ((movesM R P).map fun m => treeM R (D - 1).toNat (makeM R P m)).sum := rfl
  have h3 := partS_lt (tr := fun m => treeM R (D - 1).toNat (makeM R P m)) (fun m => tree_pos _ _ _) hk
  have h4 := partS_nonneg (f := fun m => treeM R (D - 1).toNat (makeM R P m)) (l := movesM R P) (fun m => by have := tree_pos R (D - 1).toNat (makeM R P m); show 0 ≤ treeM R (D - 1).toNat (makeM R P m); omega) k
  have h5 := perftE_ok (R := R) (P := makeM R P m) (D := D - 1) (check_iff.2 ⟨hV, hS2⟩) (by omega) (by omega)
  exact ⟨mem_listM.2 (raw_move hm), h5.1, h5.2.2⟩
def SomePPost (w : World) (L : List PartM) (e : Ending) (w' : World) : Prop := ∃ x, x ∈ L ∧ e = .returned (.agg #[.int .i64 x.1.src, .int .i64 x.1.dst, .int .i64 x.1.piece, .int .i64 x.2]) ∧ Ext w w'
set_option maxHeartbeats 1000000 in
set_option maxRecDepth 100000 in
theorem some_part (L : List PartM) (n : Int) (A : Option Addr) (c : Nat) (w : World) (hc : CellsAt w A (L.flatMap partV)) (hl : L.length ≤ 1000000) (h0 : L ≠ []) :
    Calls Try.prog 21 #[.slice A L.length c, .int .i64 n] w (SomePPost w L) := by
  have hpos : 1 ≤ L.length := by
    rcases L with _ | ⟨x, l⟩
    · exact absurd rfl h0
    · simp
  obtain ⟨q1, q2, q3, q4⟩ := some_idx (n := n) (l := (L.length : Int)) (by omega)
  obtain ⟨k, hk⟩ := Int.eq_ofNat_of_zero_le q3
  have hk' : (n.tmod (L.length : Int) + (L.length : Int)).tmod (L.length : Int) = (k : Int) := hk
  have hkl : k < L.length := by omega
  obtain ⟨m, hm⟩ : ∃ m, L[k]? = some m := ⟨L[k], List.getElem?_eq_getElem _⟩
  obtain ⟨b, o, rfl, c0, c1, c2, c3⟩ := parts_get hc hm
  have HM := hide (List.mem_of_getElem? hm)
  obtain ⟨x1, k1⟩ := blks1 w #[.int .i64 0, .int .i64 0, .int .i64 0, .int .i64 0] 41
  have d0 := x1.cell c0
  have d1 := x1.cell c1
  have d2 := x1.cell c2
  have d3 := x1.cell c3
  have HI : (wrap64 (n.tmod (L.length : Int) + (L.length : Int))).tmod (L.length : Int) = (k : Int) := by
    have hw : wrap64 (n.tmod (L.length : Int) + (L.length : Int)) = n.tmod (L.length : Int) + (L.length : Int) := by unfold wrap64; omega
    rw [hw]
    exact hk'
  have z1 : ((L.length : Int) == 0) = false := by simp; omega
  have j0 : (0 : Int) ≤ (k : Int) := by omega
  have j1 : (k : Int) < (L.length : Int) := by omega
  clear hm hc c0 c1 c2 c3 h0 hk hk' q1 q2 q3 q4 hpos
  go_enter Try.func21, Try.ntmps21
  go_wp2
  have K := Blk.new w 41 #[.int .i64 m.1.src, .int .i64 m.1.dst, .int .i64 m.1.piece, .int .i64 m.2]
  have f := K.cell
  refine bodyPost_ret (v := .agg #[.int .i64 m.1.src, .int .i64 m.1.dst, .int .i64 m.1.piece, .int .i64 m.2]) ?_ rfl ?_
  · simp [results, Try.results21, go_sem, f]
  · exact ⟨m, HM.out, rfl, ext_alloc (Below.refl _ _) _⟩
end Go.Proofs.Ytmofipijjokjfaa
