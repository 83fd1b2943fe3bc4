/- Walks over the package place: sound; Check. -/
import Derived.Test.YtcfiannlpkofpaaPlaceS1
import Derived.Test.YtcfiannlpkofpaaPlaceS2
import Derived.Test.YtcfiannlpkofpaaPlaceS3
import Derived.Test.YtcfiannlpkofpaaPlaceS4
import Derived.Test.YtcfiannlpkofpaaPlaceS5
import Derived.Test.YtcfiannlpkofpaaPlaceS6
import Derived.Test.YtcfiannlpkofpaaPlaceS7
import Derived.Test.YtcfiannlpkofpaaPlaceS8
import Derived.Test.YtcfiannlpkofpaaPlaceS9
namespace Go.Proofs.Ytcfiannlpkofpaa
open Go.ChangeShapes Go.WideShapes Go.ChangeAt Go.RowKit Go.Shelf
set_option linter.unusedVariables false
theorem sound_any (R : RulesM) (P : PosM) (v u : Value) (w : World) (hR : RulesAt w v R) (hP : PosAt w u P) (hs : okSide R.width R.height) (h6 : R.pieces.length ≤ 6) :
    Calls Try.prog 66 #[v, u] w (ECode (soundE R P) w) := by
  unfold soundE
  cases hf : formB R P
  · exact sound_form R P v u w hR hP hs hf
  · rw [if_pos rfl]
    unfold rangeB
    cases hc : P.cells.all fun c => inB c 0 (2 * (R.pieces.length : Int))
    · exact sound_cells R P v u w hR hP hs h6 hf hc
    cases hk : (P.hand0 ++ P.hand1).all fun c => inB c 0 1000
    · exact sound_hands R P v u w hR hP hs h6 hf hc hk
    by_cases h0 : P.turn = 0
    · by_cases hq : P.quiet < 0
      · rw [if_neg (by simp [inB, h0]; omega)]
        exact sound_low0 R P v u w hR hP hs h6 hf hc hk h0 hq
      · by_cases hq2 : P.quiet ≤ 200
        · rw [if_pos (by simp [inB, h0]; omega)]
          exact sound_ok0 R P v u w hR hP hs h6 hf hc hk h0 hq hq2
        · rw [if_neg (by simp [inB, h0]; omega)]
          exact sound_high0 R P v u w hR hP hs h6 hf hc hk h0 hq (by omega)
    · by_cases h1 : P.turn = 1
      · by_cases hq : P.quiet < 0
        · rw [if_neg (by simp [inB, h1]; omega)]
          exact sound_low1 R P v u w hR hP hs h6 hf hc hk h1 hq
        · by_cases hq2 : P.quiet ≤ 200
          · rw [if_pos (by simp [inB, h1]; omega)]
            exact sound_ok1 R P v u w hR hP hs h6 hf hc hk h1 hq hq2
          · rw [if_neg (by simp [inB, h1]; omega)]
            exact sound_high1 R P v u w hR hP hs h6 hf hc hk h1 hq (by omega)
      · rw [if_neg (by simp [h0, h1])]
        exact sound_turn R P v u w hR hP hs h6 hf hc hk h0 h1
end Go.Proofs.Ytcfiannlpkofpaa
