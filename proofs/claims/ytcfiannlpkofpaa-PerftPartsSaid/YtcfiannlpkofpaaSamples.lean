/- Plain facts about the samples three and near, and about exchanged positions. -/
import Derived.Test.YtcfiannlpkofpaaOther
import Derived.Test.YtcfiannlpkofpaaNear
import Derived.Test.YtcfiannlpkofpaaMirrored
namespace Go.Proofs.Ytcfiannlpkofpaa
open Go.ChangeShapes Go.WideShapes Go.ChangeAt Go.RowKit Go.Shelf
set_option linter.unusedVariables false
theorem other_near : otherP threeR nearP = { cells := [0, 0, 0, 1, 1, 0, 2, 2, 0], hand0 := [3], hand1 := [3], turn := 1, quiet := 0 } := by
  have h : turnCells 3 3 [1, 1, 0, 2, 2, 0, 0, 0, 0] = [0, 0, 0, 1, 1, 0, 2, 2, 0] := by decide +kernel
  have h' : turnCells threeR.width threeR.height nearP.cells = [0, 0, 0, 1, 1, 0, 2, 2, 0] := h
  unfold otherP
  rw [h']
  rfl
theorem valid_three : Valid threeR := valid_of (by decide +kernel)
theorem sound_near : Sound threeR nearP := sound_of (by decide +kernel)
theorem sound_other {R : RulesM} {P : PosM} (hV : Valid R) (hS : Sound R P) : Sound (mirrorR R) (otherP R P) :=
  ⟨by show ((turnCells R.width R.height P.cells).length : Int) = _; rw [turnCells_length]; exact hS.area, hS.len1, hS.len0, fun c hc => turn_bd hV.side hS.area hS.cells hc, hS.held1, hS.held0, by have := hS.turn; show 1 - P.turn = 0 ∨ 1 - P.turn = 1; omega, hS.quiet⟩
theorem other_other {R : RulesM} {P : PosM} (hV : Valid R) (hS : Sound R P) : otherP (mirrorR R) (otherP R P) = P := by
  have h : turnCells R.width R.height (turnCells R.width R.height P.cells) = P.cells := turn_turn hV.side hS.area (fun c hc => (hS.cells c hc).1)
  have h' : turnCells (mirrorR R).width (mirrorR R).height (otherP R P).cells = P.cells := h
  cases P
  unfold otherP at *
  simp only at *
  rw [h']
  simp
  omega
theorem fine_ext {f : FuncId} {args : Array Value} {w : World} {v : Value} (h : Calls Try.prog f args w fun e w' => e = .returned v ∧ w = w') : Calls Try.prog f args w fun e w' => e = .returned v ∧ Ext w w' :=
  h.mono fun _ _ ⟨he, hw⟩ => ⟨he, by rw [← hw]; exact Below.refl _ _⟩
theorem blk_ints {w : World} {g : Nat} {t : TypeId} {zs : List Int} (h : Blk w g t (zs.map (Value.int .i64)).toArray) : IntsAt w (some ⟨g, 0, none⟩) zs := fun i hi => ⟨g, 0, rfl, by
  rw [Nat.zero_add, h.cell]
  simp [hi]⟩
end Go.Proofs.Ytcfiannlpkofpaa
