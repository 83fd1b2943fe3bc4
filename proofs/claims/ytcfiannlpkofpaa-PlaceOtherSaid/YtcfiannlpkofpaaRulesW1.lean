/- Walks over the package rules: within, Name, the pieces. -/
import Derived.Test.YtcfiannlpkofpaaRows
import Derived.Test.YtcfiannlpkofpaaModel
import Derived.ProofKit
import Derived.OpenShut
import Derived.Outline
import Derived.Deep.QuietTactic
import Derived.BigQuiet
namespace Go.Proofs.Ytcfiannlpkofpaa
open Go.ChangeShapes Go.WideShapes Go.ChangeAt Go.RowKit
set_option linter.unusedVariables false
theorem within_any (n lo hi : Int) (w : World) :
    Calls Try.prog 58 #[.int .i64 n, .int .i64 lo, .int .i64 hi] w fun e w' => e = .returned (.bool (inB n lo hi)) ∧ w = w' := by
  unfold inB
  by_cases h1 : lo ≤ n
  · by_cases h2 : n ≤ hi
    · go_enter Try.func58, Try.ntmps58
      go_wp2
      go_ret
      exact ⟨by simp [h1, h2], rfl⟩
    · go_enter Try.func58, Try.ntmps58
      go_wp2
      go_ret
      exact ⟨by simp; omega, rfl⟩
  · go_enter Try.func58, Try.ntmps58
    go_wp2
    go_ret
    exact ⟨by simp; omega, rfl⟩
theorem within_at (n lo hi : Int) (b : Bool) (w : World) (h : inB n lo hi = b) :
    Calls Try.prog 58 #[.int .i64 n, .int .i64 lo, .int .i64 hi] w fun e w' => e = .returned (.bool b) ∧ w = w' := by
  rw [← h]
  exact within_any n lo hi w
/-- The letter of a piece, asked by the closure in pieces. -/
theorem pieces1_any (l l0 h0 p0 : Int) (hd pr : Int) (v : Value) (a : Addr) (w : World) (hc : w.cell? a = some (.int .u8 l)) (ha : a.spot = none) :
    Calls Try.prog 82 #[.agg #[.int .u8 l0, .int .i64 h0, .int .i64 p0, v], .pointer (some a)] w fun e w' => e = .returned (.bool (l0 == l)) ∧ Ext w w' := by
  obtain ⟨b, o, s⟩ := a
  obtain rfl : s = none := ha
  have hlt := lt_of_cell hc
  go_enter Try.func82, Try.ntmps82
  go_wp2
  go_ret
  exact ⟨rfl, ext_alloc (Below.refl _ _) _⟩
end Go.Proofs.Ytcfiannlpkofpaa
