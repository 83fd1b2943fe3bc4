/- Walks: cmp.Compare over int, slices.Compare over []int. -/
import Derived.Test.YtmkckpiehffccaaRows
import Derived.Test.YtmkckpiehffccaaMem2
import Derived.Test.YtmkckpiehffccaaSymmQ
import Derived.ProofKit
import Derived.OpenShut
import Derived.Outline
namespace Go.Proofs.Ytmkckpiehffccaa
open Go.ChangeShapes Go.WideShapes Go.ChangeAt Go.RowKit
set_option linter.unusedVariables false
theorem cmp_less (x y : Int) (w : World) (h : x < y) : Calls Try.prog 35 #[.int .i64 x, .int .i64 y] w fun e w' => e = .returned (.int .i64 (-1)) ∧ w = w' := by
  go_enter Try.func35, Try.ntmps35
  go_wp2
  go_ret
  exact ⟨rfl, rfl⟩
theorem cmp_more (x y : Int) (w : World) (h : y < x) : Calls Try.prog 35 #[.int .i64 x, .int .i64 y] w fun e w' => e = .returned (.int .i64 1) ∧ w = w' := by
  go_enter Try.func35, Try.ntmps35
  go_wp2
  go_ret
  exact ⟨rfl, rfl⟩
theorem cmp_same (x : Int) (w : World) : Calls Try.prog 35 #[.int .i64 x, .int .i64 x] w fun e w' => e = .returned (.int .i64 0) ∧ w = w' := by
  go_enter Try.func35, Try.ntmps35
  go_wp2
  go_ret
  exact ⟨rfl, rfl⟩
/-- slices.Compare of two lists of one length: below 0 just where the first is less. -/
theorem cmpInts_any (A B : Option Addr) (n c d : Nat) (xs ys : List Int) (w : World) (hx : xs.length = n) (hy : ys.length = n) (hm : n ≤ 9223372036854775807)
    (hA : IntsAt w A xs) (hB : IntsAt w B ys) :
    Calls Try.prog 30 #[.slice A n c, .slice B n d] w fun e w' => (∃ r : Int, (r < 0 ↔ xs < ys) ∧ e = .returned (.int .i64 r)) ∧ w = w' := by
  have HX := hide hx
  have HY := hide hy
  have hx' : n ≤ xs.length := by omega
  have hy' : n ≤ ys.length := by omega
  clear hx hy
  go_enter Try.func30, Try.ntmps30
  go_wp2
  go_loop [5, 6, 7, 8, 11] (fun _ _ _ _ i => ∃ k : Nat, k ≤ n ∧ i = .int .i64 k ∧ Hid (∀ j, j < k → xs.getD j 0 = ys.getD j 0)) (fun _ _ _ _ i => n - (intOf i).toNat)
  case atStart => exact ⟨0, Nat.zero_le _, rfl, hide (fun j hj => by omega)⟩
  case round =>
    obtain ⟨k, hk, rfl, hp⟩ := hrel
    by_cases hlt : k < n
    · obtain ⟨b, o, rfl, hc⟩ := hA k (by omega)
      obtain ⟨b', o', rfl, hc'⟩ := hB k (by omega)
      clear hA hB
      rcases (by omega : xs.getD k 0 < ys.getD k 0 ∨ ys.getD k 0 < xs.getD k 0 ∨ xs.getD k 0 = ys.getD k 0) with h0 | h0 | h0
      · have HR := hide (lex_less (by omega) (by omega) hp.out h0)
        generalize xs.getD k 0 = z at *
        generalize ys.getD k 0 = z' at *
        go_wp2_with (go_at_call 35; refine (cmp_less _ _ _ h0).mono ?_; rintro e w' ⟨rfl, rfl⟩)
        go_ret
        exact ⟨⟨-1, by simp [HR.out], rfl⟩, rfl⟩
      · have HR := hide (lex_more (by omega) (by omega) hp.out h0)
        generalize xs.getD k 0 = z at *
        generalize ys.getD k 0 = z' at *
        go_wp2_with (go_at_call 35; refine (cmp_more _ _ _ h0).mono ?_; rintro e w' ⟨rfl, rfl⟩)
        go_ret
        exact ⟨⟨1, by simp [HR.out], rfl⟩, rfl⟩
      · have HP : Hid (∀ j, j < k + 1 → xs.getD j 0 = ys.getD j 0) := hide (fun j hj => by
          by_cases e : j = k
          · subst e; exact h0
          · exact hp.out j (by omega))
        rw [← h0] at hc'
        clear h0
        generalize xs.getD k 0 = z at *
        go_wp2_with (go_at_call 35; refine (cmp_same _ _).mono ?_; rintro e w' ⟨rfl, rfl⟩)
        go_round
        case rel => exact ⟨k + 1, by omega, by go_num, HP⟩
        case measure => simp [intOf]; omega
    · obtain rfl : k = n := by omega
      have he : xs = ys := all_alike (by rw [HX.out, HY.out]) (fun i hi => hp.out i (by rw [HX.out] at hi; exact hi))
      have HE : Hid (¬ xs < ys) := hide (by rw [he]; exact List.lt_irrefl _)
      clear he hA hB
      go_wp2
      go_ret
      exact ⟨⟨0, by simp [HE.out], rfl⟩, rfl⟩
end Go.Proofs.Ytmkckpiehffccaa
