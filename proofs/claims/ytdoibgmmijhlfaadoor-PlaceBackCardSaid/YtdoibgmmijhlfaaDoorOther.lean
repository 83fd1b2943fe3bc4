/- What sound positions are. -/
import Derived.Test.YtdoibgmmijhlfaaDoorGPlace
import Derived.Test.YtdoibgmmijhlfaaDoorPlaceCopy
namespace Go.Proofs.YtdoibgmmijhlfaaDoor
open Go.ChangeShapes Go.WideShapes Go.ChangeAt Go.RowKit Go.Shelf
set_option linter.unusedVariables false
def otherP (R : RulesM) (P : PosM) : PosM := { cells := turnCells R.width R.height P.cells, hand0 := P.hand1, hand1 := P.hand0, turn := 1 - P.turn, quiet := P.quiet }
/-- What sound positions are. -/
structure Sound (R : RulesM) (P : PosM) : Prop where
  area : (P.cells.length : Int) = R.width * R.height
  len0 : P.hand0.length = R.pieces.length
  len1 : P.hand1.length = R.pieces.length
  cells : ∀ c ∈ P.cells, 0 ≤ c ∧ c ≤ 2 * (R.pieces.length : Int)
  held0 : ∀ c ∈ P.hand0, 0 ≤ c ∧ c ≤ 1000
  held1 : ∀ c ∈ P.hand1, 0 ≤ c ∧ c ≤ 1000
  turn : P.turn = 0 ∨ P.turn = 1
  quiet : 0 ≤ P.quiet ∧ P.quiet ≤ 200
theorem sound_of {R : RulesM} {P : PosM} (h : soundE R P = 0) : Sound R P := by
  unfold soundE at h
  cases hf : formB R P
  · rw [hf] at h; simp at h
  rw [hf, if_pos rfl] at h
  cases hr : rangeB R.pieces.length P
  · rw [hr] at h; simp at h
  unfold formB at hf
  unfold rangeB at hr
  simp only [Bool.and_eq_true, decide_eq_true_eq, List.all_eq_true, Bool.or_eq_true, inB_iff, List.mem_append] at hf hr
  exact ⟨hf.1, hf.2.1, hf.2.2, hr.1, fun c hc => hr.2.1 c (.inl hc), fun c hc => hr.2.1 c (.inr hc), hr.2.2.1, hr.2.2.2⟩
theorem of_sound {R : RulesM} {P : PosM} (h : Sound R P) : soundE R P = 0 := by
  have hf : formB R P = true := by unfold formB; simp [h.area, h.len0, h.len1]
  have hr : rangeB R.pieces.length P = true := by
    unfold rangeB
    simp only [Bool.and_eq_true, decide_eq_true_eq, List.all_eq_true, Bool.or_eq_true, inB_iff, List.mem_append]
    exact ⟨h.cells, fun c hc => hc.elim (h.held0 c) (h.held1 c), h.turn, h.quiet⟩
  unfold soundE
  rw [hf, hr]
  rfl
theorem check_iff {R : RulesM} {P : PosM} : checkE R P = 0 ↔ Valid R ∧ Sound R P := by
  unfold checkE
  by_cases h : rulesE R = 0
  · rw [if_pos h]
    exact ⟨fun k => ⟨valid_of h, sound_of k⟩, fun k => of_sound k.2⟩
  · rw [if_neg h]
    exact ⟨fun k => absurd k h, fun k => absurd (of_valid k.1) h⟩
abbrev zeroPos : Value := .agg #[.slice none 0 0, .slice none 0 0, .slice none 0 0, .int .i64 0, .int .i64 0]
end Go.Proofs.YtdoibgmmijhlfaaDoor
