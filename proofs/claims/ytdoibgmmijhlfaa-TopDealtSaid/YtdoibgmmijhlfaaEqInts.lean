/- Walk: slices.Equal over []int. -/
import Derived.Test.YtdoibgmmijhlfaaRows
import Derived.Test.YtdoibgmmijhlfaaMem
import Derived.WalkKit
import Derived.ProofKit
import Derived.OpenShut
import Derived.Outline
import Derived.Deep.QuietTactic
import Derived.BigQuiet
namespace Go.Proofs.Ytdoibgmmijhlfaa
open Go.ChangeShapes Go.WideShapes Go.ChangeAt Go.RowKit
set_option linter.unusedVariables false
theorem EqInts_len (A B : Option Addr) (n m c d : Nat) (w : World) (h : n ≠ m) (hn : n ≤ 9223372036854775807) (hm : m ≤ 9223372036854775807) :
    Calls Try.prog 18 #[.slice A n c, .slice B m d] w fun e w' => e = .returned (.bool false) ∧ ∃ q, w' = w.drewN q := by
  have h' : ¬ (n : Int) = (m : Int) := by omega
  go_enter Try.func18, Try.ntmps18
  go_wp2
  go_ret
  exact ⟨rfl, 0, rfl⟩
theorem EqInts_no (A B : Option Addr) (n c d j : Nat) (xs ys : List Int) (w : World) (hx : xs.length = n) (hy : ys.length = n) (hm : n ≤ 9223372036854775807)
    (hA : IntsAt w A xs) (hB : IntsAt w B ys) (hj : j < n) (hbad : xs.getD j 0 ≠ ys.getD j 0) :
    Calls Try.prog 18 #[.slice A n c, .slice B n d] w fun e w' => e = .returned (.bool false) ∧ ∃ q, w' = w.drewN q := by
  have HB := hide hbad
  clear hbad
  have HX := hide hx
  have HY := hide hy
  have hx' : n ≤ xs.length := by omega
  have hy' : n ≤ ys.length := by omega
  clear hx hy
  go_enter Try.func18, Try.ntmps18
  go_wp2
  go_loopw [13] (fun i wr => ∃ k q : Nat, k ≤ j ∧ i = .int .i64 k ∧ wr = w.drewN q) (fun i _ => n - (intOf i).toNat)
  case atStart => exact ⟨0, 0, Nat.zero_le _, rfl, rfl⟩
  case round =>
    obtain ⟨k, q, hk, rfl, rfl⟩ := hrel
    have hlt : k < n := by omega
    obtain ⟨b, o, rfl, hc⟩ := hA k (by omega)
    obtain ⟨b', o', rfl, hc'⟩ := hB k (by omega)
    clear hA hB
    by_cases h0 : xs.getD k 0 = ys.getD k 0
    · have hkj : k < j := by
        rcases Nat.lt_or_ge k j with hlt | hge
        · exact hlt
        · obtain rfl : k = j := by omega
          exact absurd h0 HB.out
      rw [← h0] at hc'
      clear h0 HB
      generalize xs.getD k 0 = z at *
      go_wp2
      go_quiet (fail)
      go_wp2
      go_roundw
      case rel => exact ⟨k + 1, _, by omega, by go_num, rfl⟩
      case measure => simp [intOf]; omega
    · have h0' : (xs.getD k 0 != ys.getD k 0) = true := by simpa using h0
      clear h0 HB
      generalize xs.getD k 0 = z at *
      generalize ys.getD k 0 = z' at *
      go_wp2
      go_quiet (fail)
      go_wp2
      go_ret
      exact ⟨rfl, _, World.drewN_drewN _ _ _⟩
theorem EqInts_yes (A B : Option Addr) (n c d : Nat) (xs : List Int) (w : World) (hx : xs.length = n) (hm : n ≤ 9223372036854775807)
    (hA : IntsAt w A xs) (hB : IntsAt w B xs) :
    Calls Try.prog 18 #[.slice A n c, .slice B n d] w fun e w' => e = .returned (.bool true) ∧ ∃ q, w' = w.drewN q := by
  have HX := hide hx
  have hx' : n ≤ xs.length := by omega
  clear hx
  go_enter Try.func18, Try.ntmps18
  go_wp2
  go_loopw [13] (fun i wr => ∃ k q : Nat, k ≤ n ∧ i = .int .i64 k ∧ wr = w.drewN q) (fun i _ => n - (intOf i).toNat)
  case atStart => exact ⟨0, 0, Nat.zero_le _, rfl, rfl⟩
  case round =>
    obtain ⟨k, q, hk, rfl, rfl⟩ := hrel
    by_cases hlt : k < n
    · obtain ⟨b, o, rfl, hc⟩ := hA k (by omega)
      obtain ⟨b', o', rfl, hc'⟩ := hB k (by omega)
      clear hA hB
      generalize xs.getD k 0 = z at *
      go_wp2
      go_quiet (fail)
      go_wp2
      go_roundw
      case rel => exact ⟨k + 1, _, by omega, by go_num, rfl⟩
      case measure => simp [intOf]; omega
    · clear hA hB
      go_wp2
      go_ret
      exact ⟨rfl, _, rfl⟩
theorem EqInts_any (A B : Option Addr) (n m c d : Nat) (xs ys : List Int) (w : World) (hx : xs.length = n) (hy : ys.length = m) (hn : n ≤ 9223372036854775807) (hm : m ≤ 9223372036854775807)
    (hA : IntsAt w A xs) (hB : IntsAt w B ys) :
    Calls Try.prog 18 #[.slice A n c, .slice B m d] w fun e w' => e = .returned (.bool (decide (xs = ys))) ∧ ∃ q, w' = w.drewN q := by
  by_cases hnm : n = m
  · subst hnm
    by_cases hxy : xs = ys
    · subst hxy
      rw [decide_eq_true rfl]
      exact EqInts_yes A B n c d xs w hx hn hA hB
    · rw [decide_eq_false hxy]
      have : ∃ j, j < n ∧ xs.getD j 0 ≠ ys.getD j 0 := by
        by_cases hall : ∀ j, j < n → xs.getD j 0 = ys.getD j 0
        · exfalso
          apply hxy
          apply List.ext_getElem (by omega)
          intro j h1 h2
          have := hall j (by omega)
          simpa [h1, h2] using this
        · simpa using hall
      obtain ⟨j, hj, hbad⟩ := this
      exact EqInts_no A B n c d j xs ys w hx hy hn hA hB hj hbad
  · have : xs ≠ ys := fun e => hnm (by rw [← hx, ← hy, e])
    rw [decide_eq_false this]
    exact EqInts_len A B n m c d w hnm hn hm
end Go.Proofs.Ytdoibgmmijhlfaa
