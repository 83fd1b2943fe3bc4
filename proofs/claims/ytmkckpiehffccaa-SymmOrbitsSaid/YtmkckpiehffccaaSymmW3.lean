/- Walks over the package symm: turned, to, Map, Compose, Inverse. -/
import Derived.Test.YtmkckpiehffccaaSymmW2
namespace Go.Proofs.Ytmkckpiehffccaa
open Go.ChangeShapes Go.WideShapes Go.ChangeAt Go.RowKit
set_option linter.unusedVariables false
theorem checks_no (a b : Int) (A : Option Addr) (n c : Nat) (zs : List Int) (w : World) (h : okSide a b) (hn : zs.length = n) (hm : n ≤ 9223372036854775807)
    (hz : IntsAt w A zs) (hall : ∃ i, i < n ∧ ¬ (0 ≤ zs.getD i 0 ∧ zs.getD i 0 < cnt a b)) :
    Calls Try.prog 25 #[.int .i64 a, .int .i64 b, .slice A n c] w fun e w' => e = .returned (.int .i64 8) ∧ w = w' := by
  subst hn
  have hcb := cnt_bd a b
  obtain ⟨j, hj, hbad⟩ := hall
  have HB := hide hbad
  clear hbad
  go_enter Try.func25, Try.ntmps25
  go_wp2_with (go_at_call 20; refine (Check_yes _ _ _ h).mono ?_; rintro e w' ⟨rfl, rfl⟩)
  go_loop [18] (fun i => ∃ k : Nat, k ≤ j ∧ i = .int .i64 k) (fun i => zs.length - (intOf i).toNat)
  case atStart => exact ⟨0, Nat.zero_le _, rfl⟩
  case round =>
    obtain ⟨k, hk, rfl⟩ := hrel
    obtain ⟨ho, o, rfl, hc⟩ := hz k (by omega)
    clear hz
    by_cases hg : 0 ≤ zs.getD k 0 ∧ zs.getD k 0 < cnt a b
    · have hkj : k < j := by
        rcases Nat.lt_or_ge k j with hlt | hge
        · exact hlt
        · obtain rfl : k = j := by omega
          exact absurd hg HB.out
      obtain ⟨h0, h1⟩ := hg
      clear HB
      generalize zs.getD k 0 = z at *
      go_wp2_with (go_at_call 21; refine (count_any _ _ _).mono ?_; rintro e w' ⟨rfl, rfl⟩)
      go_round
      case rel => exact ⟨k + 1, by omega, by go_num⟩
      case measure => simp [intOf]; omega
    · clear HB
      generalize zs.getD k 0 = z at *
      have hz' : z < 0 ∨ (0 ≤ z ∧ cnt a b ≤ z) := by omega
      clear hg
      rcases hz' with hz' | hz'
      all_goals
        go_wp2_with (go_at_call 21; refine (count_any _ _ _).mono ?_; rintro e w' ⟨rfl, rfl⟩)
        go_ret
        exact ⟨rfl, rfl⟩
theorem to_any (a b s q : Int) (w : World) (h : okSide a b) (hs0 : 0 ≤ s) (hs1 : s < cnt a b) (h0 : 0 ≤ q) (h1 : q < a * b) :
    Calls Try.prog 27 #[.int .i64 a, .int .i64 b, .int .i64 s, .int .i64 q] w fun e w' => e = .returned (.int .i64 (toL a b s q)) ∧ ∃ n, w' = w.drewN n := by
  obtain ⟨hx0, hx1, hy0, hy1⟩ := sq_bd a b q h h0 h1
  obtain ⟨ha, ha', hb, hb'⟩ := h
  have hc := cnt_bd a b
  have hsq : b2 s = true → a = b := by
    intro h2; unfold b2 at h2; unfold cnt at hs1; simp at h2; split at hs1 <;> omega
  obtain ⟨t4, t1, t2⟩ := bit_tests s hs0 (by omega)
  have hX : 0 ≤ toX a s (q % a) (q / a) ∧ toX a s (q % a) (q / a) < 8 := by
    unfold toX; cases h2 : b2 s <;> cases b0 s <;> simp <;> (try have := hsq h2) <;> omega
  have hY : 0 ≤ toY b s (q % a) (q / a) ∧ toY b s (q % a) (q / a) < 8 := by
    unfold toY; cases h2 : b2 s <;> cases b1 s <;> simp <;> (try have := hsq h2) <;> omega
  have hq : q < 9223372036854775807 := by
    have : a * b ≤ 8 * 8 := Int.mul_le_mul (by omega) (by omega) (by omega) (by omega)
    omega
  have hm : 0 ≤ toY b s (q % a) (q / a) * a ∧ toY b s (q % a) (q / a) * a ≤ 64 := by
    refine ⟨Int.mul_nonneg hY.1 (by omega), ?_⟩
    have : toY b s (q % a) (q / a) * a ≤ 8 * 8 := Int.mul_le_mul (by omega) (by omega) (by omega) (by omega)
    omega
  clear hs1 h1 hsq hc
  unfold toL
  unfold toX toY at *
  obtain ⟨hX0, hX1⟩ := hX
  obtain ⟨hY0, hY1⟩ := hY
  obtain ⟨hm0, hm1⟩ := hm
  cases h2 : b2 s <;> cases h3 : b0 s <;> cases h4 : b1 s
  all_goals
    rw [h2] at t4 
    rw [h3] at t1
    rw [h4] at t2
    simp only [h2, h3, h4, cond_true, cond_false] at *
    clear h2 h3 h4
    go_enter Try.func27, Try.ntmps27
    go_wp2
    go_quiet (fail)
    go_wp2
    go_ret
    exact ⟨rfl, _, rfl⟩
end Go.Proofs.Ytmkckpiehffccaa
