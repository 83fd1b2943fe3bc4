/- Facts about windows and the samples. -/
import Derived.Test.YtmofipijjokjfaaWindow
import Derived.Test.YtmofipijjokjfaaGPerft
import Derived.Test.YtmofipijjokjfaaSome
namespace Go.Proofs.Ytmofipijjokjfaa
open Go.ChangeShapes Go.WideShapes Go.ChangeAt Go.RowKit Go.Shelf
set_option linter.unusedVariables false
theorem near_win : winS threeR nearP 2 0 1 = 1 ∧ winN threeR nearP 2 0 1 = 22 ∧ winE threeR nearP 2 0 1 = 0 := by decide +kernel
theorem near_reach : wreachB threeR nearP 1 999 = true ∧ reachE threeR nearP 1 999 = 0 := by decide +kernel
theorem some_mod (a l K : Int) (h0 : 1 ≤ l) (h1 : l ≤ 100000) (h : (wrap64 (a.tmod l + l)).tmod l = K) : 0 ≤ K ∧ K < l := by
  obtain ⟨q1, q2, q3, q4⟩ := some_idx (n := a) (l := l) h0
  have hw : wrap64 (a.tmod l + l) = a.tmod l + l := by unfold wrap64; omega
  rw [hw] at h
  omega
theorem reach_ok {R : RulesM} {P : PosM} {D n : Int} (h : reachE R P D n = 0) : perftE R P D = 0 := by
  by_cases hz : perftE R P D = 0
  · exact hz
  · exact absurd h (by rw [(reach_one hz).1]; exact hz)
end Go.Proofs.Ytmofipijjokjfaa
