/- Walk: place.Text; begins. -/
import Derived.Test.YtdoibgmmijhlfaaDoorPlaceD
import Derived.Test.YtdoibgmmijhlfaaDoorBegin
import Derived.Test.YtdoibgmmijhlfaaDoorSame
import Derived.Test.YtdoibgmmijhlfaaDoorGLibB
import Derived.Test.YtdoibgmmijhlfaaDoorGSamples
namespace Go.Proofs.YtdoibgmmijhlfaaDoor
open Go.RowKit
set_option linter.unusedVariables false
set_option linter.unusedSimpArgs false
theorem side_facts {R : RulesM} (h : Valid R) : (1 ≤ R.width ∧ R.width ≤ 8) ∧ (1 ≤ R.height ∧ R.height ≤ 8) := by
  have := h.side
  unfold okSide at this
  omega
theorem check_zero {R : RulesM} {P : PosM} (h : checkE R P = 0) : rulesE R = 0 ∧ soundE R P = 0 := by
  unfold checkE at h
  split at h
  · rename_i h0
    exact ⟨h0, h⟩
  · rename_i h0
    exact absurd h h0
/-- What place.Text promises. -/
def TextPost (R : RulesM) (P : PosM) (w : World) (e : Ending) (w' : World) : Prop :=
  ((checkE R P = 0 ∧ e = .returned (.tuple #[.string (strU (textT R P)), .int .i64 0])) ∨ (checkE R P ≠ 0 ∧ e = .returned (.tuple #[.string ⟨#[]⟩, .int .i64 (checkE R P)]))) ∧ Ext w w'
set_option maxHeartbeats 4000000 in
set_option maxRecDepth 100000 in
theorem Text_any (R : RulesM) (P : PosM) (v u : Value) (w : World) (hR : RulesAt w v R) (hP : PosAt w u P) (hw : LibW w) :
    Calls Tryd.prog 7 #[v, u] w (TextPost R P w) := by
  have HC := Lib.hid (fun W (x : Ext w W) => PCheck_any R P v u W (hR.ext x) (hP.ext x))
  have HT := Lib.hid (fun W (x : Ext w W) (h : checkE R P = 0) => text_any R P v u W (hR.ext x) (hP.ext x) (lets_of (check_zero h).1) (valid_of (check_zero h).1).pieces6 (side_facts (valid_of (check_zero h).1)).1.1 (side_facts (valid_of (check_zero h).1)).1.2 (side_facts (valid_of (check_zero h).1)).2.1 (side_facts (valid_of (check_zero h).1)).2.2 (check_zero h).2 (hw.ext x))
  obtain ⟨pA, pc, sA, sc, eA, ec, rfl, -⟩ := hR
  obtain ⟨cA, cc, aA, ac, bA, bc, rfl, -⟩ := hP
  obtain ⟨xa, k1, k2⟩ := blks2 w #[.string R.name, .int .i64 R.width, .int .i64 R.height, .slice pA R.pieces.length pc, .slice sA R.start.length sc, .bool R.falls, .bool R.keeps, .slice eA R.ends.length ec, .int .i64 R.blocked, .int .i64 R.quiet, .int .i64 R.rept] 26 #[.slice cA P.cells.length cc, .slice aA P.hand0.length ac, .slice bA P.hand1.length bc, .int .i64 P.turn, .int .i64 P.quiet] 29
  unfold TextPost
  generalize checkE R P = E at *
  clear hw
  go_enter Tryd.func7, Tryd.ntmps7
  go_upto_region 1 with fail
  generalize (w.alloc _).alloc _ = w3 at *
  have K1 := Lib.hid k1
  have K2 := Lib.hid k2
  have X3 := Lib.hid xa
  have h1 := k1.cell
  have h2 := k2.cell
  generalize w.heap.size + 1 = C at *
  generalize w.heap.size = B at *
  clear k1 k2 xa
  go_wp2_with fail
  refine (HC.out _ X3.out).mono ?_
  rintro e w4 ⟨rfl, x4⟩
  have X4 := Lib.hid (ext_trans X3.out x4)
  have h3 := (K1.out.ext x4).cell
  have h4 := (K2.out.ext x4).cell
  clear h1 h2 x4
  by_cases hE : E = 0
  · have t0 : (E != 0) = false := by simp [hE]
    have HE := Lib.hid hE
    clear hE
    go_wp2_with fail
    refine (HT.out _ X4.out HE.out).mono ?_
    rintro e w5 ⟨rfl, x5⟩
    have X5 := Lib.hid (ext_trans X4.out x5)
    clear x5 h3 h4
    go_wp2
    go_ret2
    exact ⟨.inl ⟨HE.out, rfl⟩, X5.out⟩
  · have t0 : (E != 0) = true := by simpa using hE
    have HE := Lib.hid hE
    clear hE h3 h4
    go_wp2
    go_ret2
    exact ⟨.inr ⟨HE.out, rfl⟩, X4.out⟩
def txtP : BL := [51, 47, 51, 47, 51, 32, 65, 53, 32, 65, 53, 32, 49, 32, 48]
theorem three_text : checkE threeR (beginP threeR) = 0 ∧ textT threeR (beginP threeR) = txtP ∧ rulesE threeR = 0 := by
  refine ⟨by decide +kernel, ?_, by decide +kernel⟩
  have d3 : Lib.decDigits 3 = [51] := Lib.decDigits_one (by decide)
  have d5 : Lib.itoa 5 = [53] := by rw [show (5 : Int) = ((5 : Nat) : Int) from rfl, Lib.itoa_nonneg, Lib.decDigits_one (by decide)]; rfl
  have d1 : Lib.itoa 1 = [49] := by rw [show (1 : Int) = ((1 : Nat) : Int) from rfl, Lib.itoa_nonneg, Lib.decDigits_one (by decide)]; rfl
  have d0 : Lib.itoa 0 = [48] := by rw [show (0 : Int) = ((0 : Nat) : Int) from rfl, Lib.itoa_nonneg, Lib.decDigits_one (by decide)]; rfl
  have hr : rowsT threeR (beginP threeR).cells = [[51], [51], [51]] := by
    show [flushT 3, flushT 3, flushT 3] = _
    unfold flushT
    rw [if_pos (by decide), d3]
  have hh : handS threeR.pieces [5] = [65, 53] := by
    unfold handS
    have : handT threeR.pieces [5] = [65, 53] := by
      show (if (0 : Int) < 5 then chU 65 :: Lib.itoa 5 else []) ++ [] = _
      rw [if_pos (by decide), d5]
      rfl
    rw [this]
    rfl
  have h0 : (beginP threeR).hand0 = [5] := rfl
  have h1 : (beginP threeR).hand1 = [5] := rfl
  unfold textT
  rw [hr, h0, h1, hh, show (beginP threeR).turn + 1 = 1 from rfl, d1, show (beginP threeR).quiet = 0 from rfl, d0]
  rfl
theorem three_read : readT threeR txtP = some (beginP threeR) := by
  have h := three_text
  have hv := valid_of h.2.2
  rw [← h.2.1]
  exact text_back (lets_of h.2.2) hv.pieces6 (side_facts hv).1.1 (side_facts hv).1.2 (side_facts hv).2.1 (side_facts hv).2.2 (check_zero h.1).2
end Go.Proofs.YtdoibgmmijhlfaaDoor
