/- Walks over the package symm: the variadic check. -/
import Derived.Test.YtmkckpiehffccaaSymmW1
namespace Go.Proofs.Ytmkckpiehffccaa
open Go.ChangeShapes Go.WideShapes Go.ChangeAt Go.RowKit
set_option linter.unusedVariables false

theorem checks_side (a b : Int) (A : Option Addr) (n c : Nat) (w : World) (h : ¬ okSide a b) :
    Calls Try.prog 25 #[.int .i64 a, .int .i64 b, .slice A n c] w fun e w' => e = .returned (.int .i64 4) ∧ w = w' := by
  go_enter Try.func25, Try.ntmps25
  go_wp2_with (go_at_call 20; refine (Check_no _ _ _ h).mono ?_; rintro e w' ⟨rfl, rfl⟩)
  go_ret
  exact ⟨rfl, rfl⟩

theorem checks_yes (a b : Int) (A : Option Addr) (n c : Nat) (zs : List Int) (w : World) (h : okSide a b) (hn : zs.length = n) (hm : n ≤ 9223372036854775807)
    (hz : IntsAt w A zs) (hall : ∀ i, i < n → 0 ≤ zs.getD i 0 ∧ zs.getD i 0 < cnt a b) :
    Calls Try.prog 25 #[.int .i64 a, .int .i64 b, .slice A n c] w fun e w' => e = .returned (.int .i64 0) ∧ w = w' := by
  subst hn
  have hcb := cnt_bd a b
  go_enter Try.func25, Try.ntmps25
  go_wp2_with (go_at_call 20; refine (Check_yes _ _ _ h).mono ?_; rintro e w' ⟨rfl, rfl⟩)
  go_loop [18] (fun i => ∃ k : Nat, k ≤ zs.length ∧ i = .int .i64 k) (fun i => zs.length - (intOf i).toNat)
  case atStart => exact ⟨0, Nat.zero_le _, rfl⟩
  case round =>
    obtain ⟨k, hk, rfl⟩ := hrel
    by_cases hlt : k < zs.length
    · obtain ⟨ho, o, rfl, hc⟩ := hz k hlt
      obtain ⟨h0, h1⟩ := hall k hlt
      clear hall hz
      generalize zs.getD k 0 = z at *
      have h0' : ¬ z < 0 := by omega
      go_wp2_with (go_at_call 21; refine (count_any _ _ _).mono ?_; rintro e w' ⟨rfl, rfl⟩)
      go_round
      case rel => exact ⟨k + 1, by omega, by go_num⟩
      case measure => simp [intOf]; omega
    · clear hall hz
      go_wp2
      go_ret
      exact ⟨rfl, rfl⟩
end Go.Proofs.Ytmkckpiehffccaa
