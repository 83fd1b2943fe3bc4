/- Plain: steps of reader.ends. No program. -/
import Derived.Test.YtdoibgmmijhlfaaDoorRtH
namespace Go.Proofs.YtdoibgmmijhlfaaDoor
open Go.Lib
set_option linter.unusedVariables false
/-- A state of the reader while conditions are read. -/
abbrev stE (r0 : RulesM) (t0 : List BL) (L : List BL) (es : List EndM) (b : Bool) : RdM := ⟨L, { r0 with ends := es }, t0, b⟩
section
variable {r0 : RulesM} {t0 L ls : List BL} {l : BL} {es : List EndM} {b : Bool}
theorem endsR_nil (f : Nat) : endsR f (stE r0 t0 [] es b) = stE r0 t0 [] es b := by
  cases f <;> rfl
theorem endsR_no (f : Nat) (h : ¬ (endPre.isPrefixOf l = true ∧ b = false)) : endsR f (stE r0 t0 (l :: ls) es b) = stE r0 t0 (l :: ls) es b := by
  cases f with
  | zero => rfl
  | succ f => rw [endsR]; exact if_neg h
theorem endsR_yes (f : Nat) (h : endPre.isPrefixOf l = true) : endsR (f + 1) (stE r0 t0 (l :: ls) es false) = endsR f (stE r0 t0 ls (es ++ [endV r0.pieces (splitL 32 l)]) (endBad r0.pieces (splitL 32 l))) := by
  rw [endsR]
  exact (if_pos ⟨h, rfl⟩).trans (by simp)
end
/-- The condition of a line, the last word apart. -/
structure EndCase (ps : List PieceM) (P : List BL) (k p c : Int) (b : Bool) : Prop where
  val : endV ps P = ⟨k, p, c, decide (max (ixW howL (P.getLastD [])) 0 = 1)⟩
  bad : endBad ps P = (b || decide (ixW howL (P.getLastD []) < 0))
theorem end_line {ps : List PieceM} {P : List BL} (h4 : P.length = 4) (h : P.getD 1 [] = wLine) : EndCase ps P 0 0 (numV (P.getD 2 [])) (numBad (P.getD 2 [])) := by
  constructor
  · unfold endV; rw [if_pos ⟨h4, h⟩]
  · unfold endBad; rw [if_pos ⟨h4, h⟩]
theorem end_reach {ps : List PieceM} {P : List BL} (h4 : P.length = 4) (h : P.getD 1 [] = wReach) : EndCase ps P 1 (max (pieceIx ps (P.getD 2 [])) 0) 0 (decide (pieceIx ps (P.getD 2 []) < 0)) := by
  have n1 : ¬ (P.length = 4 ∧ P.getD 1 [] = wLine) := fun x => absurd (h.symm.trans x.2) (by decide)
  constructor
  · unfold endV; rw [if_neg n1, if_pos ⟨h4, h⟩]
  · unfold endBad; rw [if_neg n1, if_pos ⟨h4, h⟩]
theorem end_take {ps : List PieceM} {P : List BL} (h5 : P.length = 5) (h : P.getD 1 [] = wTake) : EndCase ps P 2 (max (pieceIx ps (P.getD 2 [])) 0) (numV (P.getD 3 [])) (decide (pieceIx ps (P.getD 2 []) < 0) || numBad (P.getD 3 [])) := by
  have n4 : ¬ P.length = 4 := by omega
  constructor
  · unfold endV; rw [if_neg (fun x => n4 x.1), if_neg (fun x => n4 x.1), if_pos ⟨h5, h⟩]
  · unfold endBad; rw [if_neg (fun x => n4 x.1), if_neg (fun x => n4 x.1), if_pos ⟨h5, h⟩]
theorem end_none {ps : List PieceM} {P : List BL} (h1 : ¬ (P.length = 4 ∧ P.getD 1 [] = wLine)) (h2 : ¬ (P.length = 4 ∧ P.getD 1 [] = wReach)) (h3 : ¬ (P.length = 5 ∧ P.getD 1 [] = wTake)) : EndCase ps P 0 0 0 true := by
  constructor
  · unfold endV; rw [if_neg h1, if_neg h2, if_neg h3]
  · unfold endBad; rw [if_neg h1, if_neg h2, if_neg h3]
end Go.Proofs.YtdoibgmmijhlfaaDoor
