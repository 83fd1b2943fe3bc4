/- Walks: the rules of three in a row, and the position near its end. Rules that are mirrored, as plain data. No program. Plain facts about the samples three and near, and about exchanged positions. -/
import Derived.Test.YtdoibgmmijhlfaaDoorRows
import Derived.Test.YtdoibgmmijhlfaaDoorGBase
import Derived.ProofKit
import Derived.OpenShut
import Derived.Outline
import Derived.Test.YtdoibgmmijhlfaaDoorMirror
import Derived.Test.YtdoibgmmijhlfaaDoorOther
import Derived.Test.YtdoibgmmijhlfaaDoorNear
namespace Go.Proofs.YtdoibgmmijhlfaaDoor
open Go.ChangeShapes Go.WideShapes Go.ChangeAt Go.RowKit
set_option linter.unusedVariables false
def threeR : RulesM := { name := ⟨#[84, 73, 67]⟩, width := 3, height := 3, pieces := [⟨65, 5, 0, []⟩], start := [0, 0, 0, 0, 0, 0, 0, 0, 0], falls := false, keeps := false, ends := [⟨0, 0, 3, false⟩], blocked := 2, quiet := 0, rept := 0 }
theorem make9 (W : World) : (Instr.makeSlice 23 (.int .i64 9) (.int .i64 9)).run Tryd.prog W = .ok (.slice (some ⟨W.heap.size, 0, none⟩) 9 9) (W.alloc (.cells #[.int .i64 0, .int .i64 0, .int .i64 0, .int .i64 0, .int .i64 0, .int .i64 0, .int .i64 0, .int .i64 0, .int .i64 0] 3)) := by kernel_rfl
theorem three_any (w : World) : Calls Tryd.prog 11 #[] w fun e w' => ∃ v, e = .returned v ∧ RulesAt w' v threeR ∧ Ext w w' := by
  have hmk := make9
  go_enter Tryd.func11, Tryd.ntmps11
  go_wp2
  have kR := Blk.new w 26 #[.string ⟨#[84, 73, 67]⟩, .int .i64 3, .int .i64 3, .slice (some ⟨w.heap.size + 1, 0, none⟩) 1 1, .slice (some ⟨w.heap.size + 1 + 1, 0, none⟩) 9 9, .bool false, .bool false, .slice (some ⟨w.heap.size + 1 + 1 + 1, 0, none⟩) 1 1, .int .i64 2, .int .i64 0, .int .i64 0]
  have xR : Ext w (w.alloc (.cells #[.string ⟨#[84, 73, 67]⟩, .int .i64 3, .int .i64 3, .slice (some ⟨w.heap.size + 1, 0, none⟩) 1 1, .slice (some ⟨w.heap.size + 1 + 1, 0, none⟩) 9 9, .bool false, .bool false, .slice (some ⟨w.heap.size + 1 + 1 + 1, 0, none⟩) 1 1, .int .i64 2, .int .i64 0, .int .i64 0] 26)) := ext_alloc (Below.refl _ _) _
  have sR : (w.alloc (.cells #[.string ⟨#[84, 73, 67]⟩, .int .i64 3, .int .i64 3, .slice (some ⟨w.heap.size + 1, 0, none⟩) 1 1, .slice (some ⟨w.heap.size + 1 + 1, 0, none⟩) 9 9, .bool false, .bool false, .slice (some ⟨w.heap.size + 1 + 1 + 1, 0, none⟩) 1 1, .int .i64 2, .int .i64 0, .int .i64 0] 26)).heap.size = w.heap.size + 1 := by simp
  generalize w.alloc (.cells #[.string ⟨#[84, 73, 67]⟩, .int .i64 3, .int .i64 3, .slice (some ⟨w.heap.size + 1, 0, none⟩) 1 1, .slice (some ⟨w.heap.size + 1 + 1, 0, none⟩) 9 9, .bool false, .bool false, .slice (some ⟨w.heap.size + 1 + 1 + 1, 0, none⟩) 1 1, .int .i64 2, .int .i64 0, .int .i64 0] 26) = w1 at *
  have cP := cellsAt_new w1 64 [.int .u8 65, .int .i64 5, .int .i64 0, .slice none 0 0]
  rw [sR] at cP
  have kR2 := kR.alloc (.cells #[.int .u8 65, .int .i64 5, .int .i64 0, .slice none 0 0] 64)
  have xR2 := ext_alloc xR (.cells #[.int .u8 65, .int .i64 5, .int .i64 0, .slice none 0 0] 64)
  have sP : (w1.alloc (.cells #[.int .u8 65, .int .i64 5, .int .i64 0, .slice none 0 0] 64)).heap.size = w.heap.size + 1 + 1 := by simp [sR]
  clear kR xR sR
  generalize w1.alloc (.cells #[.int .u8 65, .int .i64 5, .int .i64 0, .slice none 0 0] 64) = w2 at *
  have cS := cellsAt_new w2 3 [.int .i64 0, .int .i64 0, .int .i64 0, .int .i64 0, .int .i64 0, .int .i64 0, .int .i64 0, .int .i64 0, .int .i64 0]
  rw [sP] at cS
  have kR3 := kR2.alloc (.cells #[.int .i64 0, .int .i64 0, .int .i64 0, .int .i64 0, .int .i64 0, .int .i64 0, .int .i64 0, .int .i64 0, .int .i64 0] 3)
  have xR3 := ext_alloc xR2 (.cells #[.int .i64 0, .int .i64 0, .int .i64 0, .int .i64 0, .int .i64 0, .int .i64 0, .int .i64 0, .int .i64 0, .int .i64 0] 3)
  have cP3 := cP.ext (ext_alloc (Below.refl _ _) (.cells #[.int .i64 0, .int .i64 0, .int .i64 0, .int .i64 0, .int .i64 0, .int .i64 0, .int .i64 0, .int .i64 0, .int .i64 0] 3))
  have sS : (w2.alloc (.cells #[.int .i64 0, .int .i64 0, .int .i64 0, .int .i64 0, .int .i64 0, .int .i64 0, .int .i64 0, .int .i64 0, .int .i64 0] 3)).heap.size = w.heap.size + 1 + 1 + 1 := by simp [sP]
  clear kR2 xR2 cP sP
  generalize w2.alloc (.cells #[.int .i64 0, .int .i64 0, .int .i64 0, .int .i64 0, .int .i64 0, .int .i64 0, .int .i64 0, .int .i64 0, .int .i64 0] 3) = w3 at *
  have cE := cellsAt_new w3 73 [.int .i64 0, .int .i64 0, .int .i64 3, .bool false]
  rw [sS] at cE
  have kR4 := kR3.alloc (.cells #[.int .i64 0, .int .i64 0, .int .i64 3, .bool false] 73)
  have xR4 := ext_alloc xR3 (.cells #[.int .i64 0, .int .i64 0, .int .i64 3, .bool false] 73)
  have cP4 := cP3.ext (ext_alloc (Below.refl _ _) (.cells #[.int .i64 0, .int .i64 0, .int .i64 3, .bool false] 73))
  have cS4 := cS.ext (ext_alloc (Below.refl _ _) (.cells #[.int .i64 0, .int .i64 0, .int .i64 3, .bool false] 73))
  clear kR3 xR3 cP3 cS sS
  generalize w3.alloc (.cells #[.int .i64 0, .int .i64 0, .int .i64 3, .bool false] 73) = w4 at *
  have f := kR4.cell
  refine bodyPost_ret (v := .agg #[.string ⟨#[84, 73, 67]⟩, .int .i64 3, .int .i64 3, .slice (some ⟨w.heap.size + 1, 0, none⟩) 1 1, .slice (some ⟨w.heap.size + 1 + 1, 0, none⟩) 9 9, .bool false, .bool false, .slice (some ⟨w.heap.size + 1 + 1 + 1, 0, none⟩) 1 1, .int .i64 2, .int .i64 0, .int .i64 0]) ?_ rfl ?_
  · simp [results, Tryd.results11, go_sem, f]
  · refine ⟨_, rfl, ⟨_, 1, _, 9, _, 1, rfl, ⟨[[.int .u8 65, .int .i64 5, .int .i64 0, .slice none 0 0]], by simpa using cP4, rfl, fun i p l a b => ?_⟩, cells_ints cS4, cE, by decide, by decide, by decide, by decide⟩, xR4⟩
    match i, a, b with
    | 0, a, b =>
      simp [threeR] at a b
      subst a; subst b
      exact ⟨none, 0, rfl, cellsAt_nil _ _⟩
    | i + 1, a, b => simp [threeR] at a
end Go.Proofs.YtdoibgmmijhlfaaDoor
namespace Go.Proofs.YtdoibgmmijhlfaaDoor
open Go.ChangeShapes Go.WideShapes Go.ChangeAt Go.RowKit
set_option linter.unusedVariables false
theorem movedL_map {a b s : Int} (f : Int → Int) (cells : List Int) (h : okSide a b) (hs : okSym a b s) (hl : (cells.length : Int) = a * b) : movedL a b s (cells.map f) = (movedL a b s cells).map f := by
  apply List.ext_getElem
  · simp [movedL_length]
  · intro j h1 h2
    have hj : j < cells.length := by simpa [movedL_length] using h1
    have hb := toL_bd (q := (j : Int)) h (inv_ok hs) (by omega) (by omega)
    obtain ⟨i, hi⟩ := Int.eq_ofNat_of_zero_le hb.1
    have hij : i < cells.length := by omega
    have e1 := movedL_getD a b s (cells.map f) (j := j) (by rw [List.length_map]; exact hj)
    have e2 := movedL_getD a b s cells hj
    rw [hi, Int.toNat_natCast] at e1 e2
    have g1 : (movedL a b s (cells.map f)).getD j 0 = (movedL a b s (cells.map f))[j] := by simp [h1]
    have g2 : (movedL a b s cells).getD j 0 = (movedL a b s cells)[j]'(by rw [movedL_length]; exact hj) := by simp [movedL_length, hj]
    rw [g1] at e1
    rw [g2] at e2
    rw [e1, List.getElem_map, e2]
    simp [hij]
theorem movedL_mem {a b s : Int} {cells : List Int} {c : Int} (h : okSide a b) (hs : okSym a b s) (hl : (cells.length : Int) = a * b) (hc : c ∈ movedL a b s cells) : c ∈ cells := by
  obtain ⟨j, hj, rfl⟩ := List.mem_iff_getElem.1 hc
  have hj' : j < cells.length := by rw [movedL_length] at hj; exact hj
  have hb := toL_bd (q := (j : Int)) h (inv_ok hs) (by omega) (by omega)
  obtain ⟨i, hi⟩ := Int.eq_ofNat_of_zero_le hb.1
  have hij : i < cells.length := by omega
  have e2 := movedL_getD a b s cells hj'
  rw [hi, Int.toNat_natCast] at e2
  have g2 : (movedL a b s cells).getD j 0 = (movedL a b s cells)[j] := by simp [hj]
  rw [g2] at e2
  rw [e2]
  have : cells.getD i 0 = cells[i] := by simp [hij]
  rw [this]
  exact List.getElem_mem _
theorem turn_turn {a b : Int} {cells : List Int} (h : okSide a b) (hl : (cells.length : Int) = a * b) (h0 : ∀ c ∈ cells, 0 ≤ c) : turnCells a b (turnCells a b cells) = cells := by
  unfold turnCells
  have hm : ((cells.map flipC).length : Int) = a * b := by rw [List.length_map]; exact hl
  rw [← movedL_map flipC _ h okSym_two hm, movedL_comp h okSym_two okSym_two (by rw [List.length_map]; exact hm)]
  rw [show compL 2 2 = 0 from by decide +kernel, movedL_zero, List.map_map]
  have : ∀ c ∈ cells, (flipC ∘ flipC) c = id c := fun c hc => flipC_flipC c (h0 c hc)
  rw [List.map_congr_left this, List.map_id]
theorem turn_bd {a b m : Int} {cells : List Int} {c : Int} (h : okSide a b) (hl : (cells.length : Int) = a * b) (h0 : ∀ c ∈ cells, 0 ≤ c ∧ c ≤ 2 * m) (hc : c ∈ turnCells a b cells) : 0 ≤ c ∧ c ≤ 2 * m := by
  unfold turnCells at hc
  have := movedL_mem h okSym_two (by rw [List.length_map]; exact hl) hc
  obtain ⟨d, hd, rfl⟩ := List.mem_map.1 this
  exact flipC_bd d m (h0 d hd).1 (h0 d hd).2
theorem valid_mirror {R : RulesM} (h : Valid R) : Valid (mirrorR R) :=
  ⟨h.name, h.side, h.pieces0, h.pieces6, h.piece, by show ((turnCells R.width R.height R.start).length : Int) = _; rw [turnCells_length]; exact h.area, fun c hc => turn_bd h.side h.area h.start hc, h.ends6, h.ende, h.last⟩
theorem mirror_mirror {R : RulesM} (h : Valid R) : mirrorR (mirrorR R) = R := by
  unfold mirrorR
  rw [turn_turn h.side h.area (fun c hc => (h.start c hc).1)]
def tryR : RulesM := { threeR with start := [1, 0, 0, 0, 0, 0, 0, 0, 2] }
theorem valid_try : Valid tryR := valid_of (by decide +kernel)
theorem turn_try : turnCells 3 3 [1, 0, 0, 0, 0, 0, 0, 0, 2] = [0, 0, 1, 0, 0, 0, 2, 0, 0] := by decide +kernel
end Go.Proofs.YtdoibgmmijhlfaaDoor
namespace Go.Proofs.YtdoibgmmijhlfaaDoor
open Go.ChangeShapes Go.WideShapes Go.ChangeAt Go.RowKit Go.Shelf
set_option linter.unusedVariables false
theorem other_near : otherP threeR nearP = { cells := [0, 0, 0, 1, 1, 0, 2, 2, 0], hand0 := [3], hand1 := [3], turn := 1, quiet := 0 } := by
  have h : turnCells 3 3 [1, 1, 0, 2, 2, 0, 0, 0, 0] = [0, 0, 0, 1, 1, 0, 2, 2, 0] := by decide +kernel
  have h' : turnCells threeR.width threeR.height nearP.cells = [0, 0, 0, 1, 1, 0, 2, 2, 0] := h
  unfold otherP
  rw [h']
  rfl
theorem valid_three : Valid threeR := valid_of (by decide +kernel)
theorem sound_near : Sound threeR nearP := sound_of (by decide +kernel)
theorem sound_other {R : RulesM} {P : PosM} (hV : Valid R) (hS : Sound R P) : Sound (mirrorR R) (otherP R P) :=
  ⟨by show ((turnCells R.width R.height P.cells).length : Int) = _; rw [turnCells_length]; exact hS.area, hS.len1, hS.len0, fun c hc => turn_bd hV.side hS.area hS.cells hc, hS.held1, hS.held0, by have := hS.turn; show 1 - P.turn = 0 ∨ 1 - P.turn = 1; omega, hS.quiet⟩
theorem other_other {R : RulesM} {P : PosM} (hV : Valid R) (hS : Sound R P) : otherP (mirrorR R) (otherP R P) = P := by
  have h : turnCells R.width R.height (turnCells R.width R.height P.cells) = P.cells := turn_turn hV.side hS.area (fun c hc => (hS.cells c hc).1)
  have h' : turnCells (mirrorR R).width (mirrorR R).height (otherP R P).cells = P.cells := h
  cases P
  unfold otherP at *
  simp only at *
  rw [h']
  simp
  omega
theorem fine_ext {f : FuncId} {args : Array Value} {w : World} {v : Value} (h : Calls Tryd.prog f args w fun e w' => e = .returned v ∧ w = w') : Calls Tryd.prog f args w fun e w' => e = .returned v ∧ Ext w w' :=
  h.mono fun _ _ ⟨he, hw⟩ => ⟨he, by rw [← hw]; exact Below.refl _ _⟩
theorem blk_ints {w : World} {g : Nat} {t : TypeId} {zs : List Int} (h : Blk w g t (zs.map (Value.int .i64)).toArray) : IntsAt w (some ⟨g, 0, none⟩) zs := fun i hi => ⟨g, 0, rfl, by
  rw [Nat.zero_add, h.cell]
  simp [hi]⟩
end Go.Proofs.YtdoibgmmijhlfaaDoor
