/- Plain facts and contracts for the laws on results: the sample that is won. -/
import Derived.Test.YthmldoffonlddaaGEnds
import Derived.Test.YthmldoffonlddaaGSamples
namespace Go.Proofs.Ythmldoffonlddaa
open Go.ChangeShapes Go.WideShapes Go.ChangeAt Go.RowKit Go.Shelf
set_option linter.unusedVariables false
def wonP : PosM := { cells := [1, 1, 1, 2, 2, 0, 0, 0, 0], hand0 := [3], hand1 := [3], turn := 1, quiet := 0 }
theorem sound_won : Sound threeR wonP := sound_of (by decide +kernel)
theorem result_won : resultM threeR wonP = 1 := by decide +kernel
theorem result_near : resultM threeR nearP = 0 := by decide +kernel
theorem won_any (v u : Value) (w : World) (hR : RulesAt w v threeR) (hP : PosAt w u wonP) : Calls Try.prog 28 #[v, u] w fun e w' => e = .returned (.tuple #[.int .i64 1, .int .i64 0]) ∧ Ext w w' := by
  have h := EOf_yes threeR wonP v u w hR hP valid_three sound_won
  rw [result_won] at h
  exact h
theorem near_open (v u : Value) (w : World) (hR : RulesAt w v threeR) (hP : PosAt w u nearP) : Calls Try.prog 28 #[v, u] w fun e w' => e = .returned (.tuple #[.int .i64 0, .int .i64 0]) ∧ Ext w w' := by
  have h := EOf_yes threeR nearP v u w hR hP valid_three sound_near
  rw [result_near] at h
  exact h
theorem open_moves {R : RulesM} {P : PosM} (h : resultM R P = 0) (ht : P.turn = 0 ∨ P.turn = 1) : 0 < (listM R P).length := by
  unfold resultM at h
  split at h
  · split at h <;> omega
  · unfold restM at h
    split at h
    · omega
    · split at h
      · assumption
      · split at h
        · omega
        · split at h <;> omega
end Go.Proofs.Ythmldoffonlddaa
