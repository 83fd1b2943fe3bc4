/- What valid rules are. -/
import Derived.Test.YtdoibgmmijhlfaaDoorRulesCheck
import Derived.Test.YtdoibgmmijhlfaaDoorTurned
namespace Go.Proofs.YtdoibgmmijhlfaaDoor
open Go.ChangeShapes Go.WideShapes Go.ChangeAt Go.RowKit
set_option linter.unusedVariables false
/-- What valid rules are. -/
structure Valid (R : RulesM) : Prop where
  name : nameB R.name = true
  side : okSide R.width R.height
  pieces0 : 1 ≤ R.pieces.length
  pieces6 : R.pieces.length ≤ 6
  piece : ∀ j, j < R.pieces.length → pieceE R.pieces j = 0
  area : (R.start.length : Int) = R.width * R.height
  start : ∀ c ∈ R.start, 0 ≤ c ∧ c ≤ 2 * (R.pieces.length : Int)
  ends6 : R.ends.length ≤ 6
  ende : endsE R.pieces.length R.ends = 0
  last : lastB R = true
theorem inB_iff {n lo hi : Int} : inB n lo hi = true ↔ lo ≤ n ∧ n ≤ hi := by simp [inB]
theorem piecesE_zero {ps : List PieceM} : piecesE ps = 0 ↔ 1 ≤ ps.length ∧ ps.length ≤ 6 ∧ ∀ j, j < ps.length → pieceE ps j = 0 := by
  unfold piecesE
  by_cases h0 : ps.length = 0
  · rw [if_pos h0]; constructor
    · intro h; omega
    · intro h; omega
  · rw [if_neg h0]
    by_cases h6 : 6 < ps.length
    · rw [if_pos h6]; constructor
      · intro h; omega
      · intro h; omega
    · rw [if_neg h6, firstE_zero]
      constructor
      · intro h; exact ⟨by omega, by omega, fun j hj => h j (Nat.zero_le _) (by omega)⟩
      · intro h j _ hj; exact h.2.2 j (by omega)
theorem valid_of {R : RulesM} (h : rulesE R = 0) : Valid R := by
  unfold rulesE at h
  cases h1 : nameB R.name
  · rw [h1] at h; simp at h
  rw [h1] at h
  cases h2 : inB R.width 1 8 && inB R.height 1 8
  · rw [h2] at h; simp at h
  rw [h2] at h
  simp only [Bool.not_true, Bool.false_eq_true, if_false] at h
  by_cases h3 : piecesE R.pieces = 0
  case neg => rw [if_pos h3] at h; exact absurd h h3
  rw [if_neg (fun k => k h3)] at h
  by_cases h4 : (R.start.length : Int) = R.width * R.height
  case neg => rw [if_pos h4] at h; omega
  rw [if_neg (fun k => k h4)] at h
  cases h5 : R.start.all fun c => inB c 0 (2 * (R.pieces.length : Int))
  · rw [h5] at h; simp at h
  rw [h5] at h
  simp only [Bool.not_true, Bool.false_eq_true, if_false] at h
  by_cases h6 : endsE R.pieces.length R.ends = 0
  case neg => rw [if_pos h6] at h; exact absurd h h6
  rw [if_neg (fun k => k h6)] at h
  cases h7 : lastB R
  · rw [h7] at h; simp at h
  obtain ⟨a1, a2⟩ := Bool.and_eq_true_iff.1 h2
  rw [inB_iff] at a1 a2
  obtain ⟨p1, p2, p3⟩ := piecesE_zero.1 h3
  refine ⟨h1, ⟨a1.1, a1.2, a2.1, a2.2⟩, p1, p2, p3, h4, fun c hc => ?_, ?_, h6, h7⟩
  · rw [List.all_eq_true] at h5
    exact inB_iff.1 (h5 c hc)
  · unfold endsE at h6
    by_cases h8 : 6 < R.ends.length
    · rw [if_pos h8] at h6; omega
    · omega
theorem of_valid {R : RulesM} (h : Valid R) : rulesE R = 0 := by
  unfold rulesE
  have h3 := piecesE_zero.2 ⟨h.pieces0, h.pieces6, h.piece⟩
  have a1 : inB R.width 1 8 = true := inB_iff.2 ⟨h.side.1, h.side.2.1⟩
  have a2 : inB R.height 1 8 = true := inB_iff.2 ⟨h.side.2.2.1, h.side.2.2.2⟩
  have h5 : (R.start.all fun c => inB c 0 (2 * (R.pieces.length : Int))) = true := by
    rw [List.all_eq_true]
    intro c hc
    exact inB_iff.2 (h.start c hc)
  rw [h.name, a1, a2, h3, h5, h.ende, h.last, h.area]
  simp
theorem piece_facts {ps : List PieceM} {p : PieceM} (h : ∀ j, j < ps.length → pieceE ps j = 0) (hp : p ∈ ps) : (65 ≤ p.letter ∧ p.letter ≤ 90) ∧ (0 ≤ p.hand ∧ p.hand ≤ 64) ∧ (0 ≤ p.promote ∧ p.promote ≤ ps.length) ∧ p.ways.length ≤ 16 ∧ ∀ x ∈ p.ways, wayB x = true := by
  obtain ⟨k, hk, rfl⟩ := List.mem_iff_getElem.1 hp
  have := h k hk
  rw [pieceE_get (List.getElem?_eq_getElem hk)] at this
  generalize ps[k] = p at *
  cases h1 : inB p.letter 65 90
  · rw [h1] at this; simp at this
  cases h2 : (ps.take k).any (fun q => decide (q.letter = p.letter))
  · cases h3 : inB p.hand 0 64 && inB p.promote 0 ps.length
    · rw [h1, h2, h3] at this; simp at this
    · obtain ⟨a, b⟩ := Bool.and_eq_true_iff.1 h3
      rw [h1, h2, h3] at this
      simp only [Bool.not_true, Bool.false_eq_true, if_false] at this
      by_cases h4 : 16 < p.ways.length
      · rw [if_pos h4] at this; omega
      · rw [if_neg h4] at this
        cases h5 : p.ways.all wayB
        · rw [h5] at this; simp at this
        · rw [List.all_eq_true] at h5
          exact ⟨inB_iff.1 h1, inB_iff.1 a, inB_iff.1 b, by omega, h5⟩
  · rw [h1, h2] at this; simp at this
def mirrorR (R : RulesM) : RulesM := { R with start := turnCells R.width R.height R.start }
end Go.Proofs.YtdoibgmmijhlfaaDoor
