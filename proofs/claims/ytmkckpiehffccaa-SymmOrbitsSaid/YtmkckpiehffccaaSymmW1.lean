/- Walks over the package symm: checks, squares, compositions. -/
import Derived.Test.YtmkckpiehffccaaRows
import Derived.Test.YtmkckpiehffccaaMem
import Derived.Test.YtmkckpiehffccaaSymmP
import Derived.WalkKit
import Derived.ProofKit
import Derived.OpenShut
import Derived.Outline
import Derived.Deep.QuietTactic
import Derived.BigQuiet
namespace Go.Proofs.Ytmkckpiehffccaa
open Go.ChangeShapes Go.WideShapes Go.ChangeAt Go.RowKit
set_option linter.unusedVariables false
theorem Check_yes (a b : Int) (w : World) (h : okSide a b) :
    Calls Try.prog 20 #[.int .i64 a, .int .i64 b] w fun e w' => e = .returned (.int .i64 0) ∧ w = w' := by
  obtain ⟨h1, h2, h3, h4⟩ := h
  go_enter Try.func20, Try.ntmps20
  go_wp2
  go_ret
  exact ⟨rfl, rfl⟩
theorem Check_no (a b : Int) (w : World) (h : ¬ okSide a b) :
    Calls Try.prog 20 #[.int .i64 a, .int .i64 b] w fun e w' => e = .returned (.int .i64 4) ∧ w = w' := by
  have h' : a < 1 ∨ (1 ≤ a ∧ 8 < a) ∨ (1 ≤ a ∧ a ≤ 8 ∧ b < 1) ∨ (1 ≤ a ∧ a ≤ 8 ∧ 1 ≤ b ∧ 8 < b) := by unfold okSide at h; omega
  clear h
  rcases h' with h | h | h | h
  all_goals
    go_enter Try.func20, Try.ntmps20
    go_wp2
    go_ret
    exact ⟨rfl, rfl⟩
theorem count_any (a b : Int) (w : World) :
    Calls Try.prog 21 #[.int .i64 a, .int .i64 b] w fun e w' => e = .returned (.int .i64 (cnt a b)) ∧ w = w' := by
  by_cases h : a = b
  · subst h
    go_enter Try.func21, Try.ntmps21
    go_wp2
    go_ret
    exact ⟨by simp [cnt], rfl⟩
  · have h' : (a == b) = false := by simpa using h
    go_enter Try.func21, Try.ntmps21
    go_wp2
    go_ret
    exact ⟨by simp [cnt, h], rfl⟩
end Go.Proofs.Ytmkckpiehffccaa
