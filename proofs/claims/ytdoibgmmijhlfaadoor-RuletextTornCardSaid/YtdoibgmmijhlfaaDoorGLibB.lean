/- Walk: slices.Equal over []int. Walks: fine (all error codes are 0), slices.Equal over []int. -/
import Derived.Test.YtdoibgmmijhlfaaDoorRows
import Derived.Test.YtdoibgmmijhlfaaDoorGBase
import Derived.WalkKit
import Derived.ProofKit
import Derived.OpenShut
import Derived.Outline
import Derived.Deep.QuietTactic
import Derived.BigQuiet
namespace Go.Proofs.YtdoibgmmijhlfaaDoor
open Go.ChangeShapes Go.WideShapes Go.ChangeAt Go.RowKit
set_option linter.unusedVariables false
theorem EqInts_len (A B : Option Addr) (n m c d : Nat) (w : World) (h : n ≠ m) (hn : n ≤ 9223372036854775807) (hm : m ≤ 9223372036854775807) :
    Calls Tryd.prog 30 #[.slice A n c, .slice B m d] w fun e w' => e = .returned (.bool false) ∧ ∃ q, w' = w.drewN q := by
  have h' : ¬ (n : Int) = (m : Int) := by omega
  go_enter Tryd.func30, Tryd.ntmps30
  go_wp2
  go_ret
  exact ⟨rfl, 0, rfl⟩
theorem EqInts_no (A B : Option Addr) (n c d j : Nat) (xs ys : List Int) (w : World) (hx : xs.length = n) (hy : ys.length = n) (hm : n ≤ 9223372036854775807)
    (hA : IntsAt w A xs) (hB : IntsAt w B ys) (hj : j < n) (hbad : xs.getD j 0 ≠ ys.getD j 0) :
    Calls Tryd.prog 30 #[.slice A n c, .slice B n d] w fun e w' => e = .returned (.bool false) ∧ ∃ q, w' = w.drewN q := by
  have HB := hide hbad
  clear hbad
  have HX := hide hx
  have HY := hide hy
  have hx' : n ≤ xs.length := by omega
  have hy' : n ≤ ys.length := by omega
  clear hx hy
  go_enter Tryd.func30, Tryd.ntmps30
  go_wp2
  go_loopw [13] (fun i wr => ∃ k q : Nat, k ≤ j ∧ i = .int .i64 k ∧ wr = w.drewN q) (fun i _ => n - (intOf i).toNat)
  case atStart => exact ⟨0, 0, Nat.zero_le _, rfl, rfl⟩
  case round =>
    obtain ⟨k, q, hk, rfl, rfl⟩ := hrel
    have hlt : k < n := by omega
    obtain ⟨b, o, rfl, hc⟩ := hA k (by omega)
    obtain ⟨b', o', rfl, hc'⟩ := hB k (by omega)
    clear hA hB
    by_cases h0 : xs.getD k 0 = ys.getD k 0
    · have hkj : k < j := by
        rcases Nat.lt_or_ge k j with hlt | hge
        · exact hlt
        · obtain rfl : k = j := by omega
          exact absurd h0 HB.out
      rw [← h0] at hc'
      clear h0 HB
      generalize xs.getD k 0 = z at *
      go_wp2
      go_quiet (fail)
      go_wp2
      go_roundw
      case rel => exact ⟨k + 1, _, by omega, by go_num, rfl⟩
      case measure => simp [intOf]; omega
    · have h0' : (xs.getD k 0 != ys.getD k 0) = true := by simpa using h0
      clear h0 HB
      generalize xs.getD k 0 = z at *
      generalize ys.getD k 0 = z' at *
      go_wp2
      go_quiet (fail)
      go_wp2
      go_ret
      exact ⟨rfl, _, World.drewN_drewN _ _ _⟩
theorem EqInts_yes (A B : Option Addr) (n c d : Nat) (xs : List Int) (w : World) (hx : xs.length = n) (hm : n ≤ 9223372036854775807)
    (hA : IntsAt w A xs) (hB : IntsAt w B xs) :
    Calls Tryd.prog 30 #[.slice A n c, .slice B n d] w fun e w' => e = .returned (.bool true) ∧ ∃ q, w' = w.drewN q := by
  have HX := hide hx
  have hx' : n ≤ xs.length := by omega
  clear hx
  go_enter Tryd.func30, Tryd.ntmps30
  go_wp2
  go_loopw [13] (fun i wr => ∃ k q : Nat, k ≤ n ∧ i = .int .i64 k ∧ wr = w.drewN q) (fun i _ => n - (intOf i).toNat)
  case atStart => exact ⟨0, 0, Nat.zero_le _, rfl, rfl⟩
  case round =>
    obtain ⟨k, q, hk, rfl, rfl⟩ := hrel
    by_cases hlt : k < n
    · obtain ⟨b, o, rfl, hc⟩ := hA k (by omega)
      obtain ⟨b', o', rfl, hc'⟩ := hB k (by omega)
      clear hA hB
      generalize xs.getD k 0 = z at *
      go_wp2
      go_quiet (fail)
      go_wp2
      go_roundw
      case rel => exact ⟨k + 1, _, by omega, by go_num, rfl⟩
      case measure => simp [intOf]; omega
    · clear hA hB
      go_wp2
      go_ret
      exact ⟨rfl, _, rfl⟩
theorem EqInts_any (A B : Option Addr) (n m c d : Nat) (xs ys : List Int) (w : World) (hx : xs.length = n) (hy : ys.length = m) (hn : n ≤ 9223372036854775807) (hm : m ≤ 9223372036854775807)
    (hA : IntsAt w A xs) (hB : IntsAt w B ys) :
    Calls Tryd.prog 30 #[.slice A n c, .slice B m d] w fun e w' => e = .returned (.bool (decide (xs = ys))) ∧ ∃ q, w' = w.drewN q := by
  by_cases hnm : n = m
  · subst hnm
    by_cases hxy : xs = ys
    · subst hxy
      rw [decide_eq_true rfl]
      exact EqInts_yes A B n c d xs w hx hn hA hB
    · rw [decide_eq_false hxy]
      have : ∃ j, j < n ∧ xs.getD j 0 ≠ ys.getD j 0 := by
        by_cases hall : ∀ j, j < n → xs.getD j 0 = ys.getD j 0
        · exfalso
          apply hxy
          apply List.ext_getElem (by omega)
          intro j h1 h2
          have := hall j (by omega)
          simpa [h1, h2] using this
        · simpa using hall
      obtain ⟨j, hj, hbad⟩ := this
      exact EqInts_no A B n c d j xs ys w hx hy hn hA hB hj hbad
  · have : xs ≠ ys := fun e => hnm (by rw [← hx, ← hy, e])
    rw [decide_eq_false this]
    exact EqInts_len A B n m c d w hnm hn hm
end Go.Proofs.YtdoibgmmijhlfaaDoor
namespace Go.Proofs.YtdoibgmmijhlfaaDoor
open Go.ChangeShapes Go.WideShapes Go.ChangeAt Go.RowKit
theorem fine1_any (z : Int) (w : World) :
    Calls Tryd.prog 47 #[.int .i64 z] w fun e w' => e = .returned (.bool (z != 0)) ∧ w = w' := by
  go_enter Tryd.func47, Tryd.ntmps47
  go_wp2
  go_ret
  exact ⟨rfl, rfl⟩
theorem fineIdx_no (A : Option Addr) (n c : Nat) (zs : List Int) (w : World) (hn : zs.length = n) (hm : n ≤ 9223372036854775807)
    (hz : IntsAt w A zs) (hall : ∀ i, i < n → zs.getD i 0 = 0) :
    Calls Tryd.prog 73 #[.slice A n c, .func (.func 47) #[] #[]] w fun e w' => e = .returned (.int .i64 (-1)) ∧ w = w' := by
  subst hn
  go_enter Tryd.func73, Tryd.ntmps73
  go_wp2
  go_loop [8] (fun i => ∃ k : Nat, k ≤ zs.length ∧ i = .int .i64 k) (fun i => zs.length - (intOf i).toNat)
  case atStart => exact ⟨0, Nat.zero_le _, rfl⟩
  case round =>
    obtain ⟨k, hk, rfl⟩ := hrel
    by_cases hlt : k < zs.length
    · obtain ⟨b, o, rfl, hc⟩ := hz k hlt
      rw [hall k hlt] at hc
      clear hall hz
      go_wp2_with (go_at_call 47; refine (fine1_any _ _).mono ?_; rintro e w' ⟨rfl, rfl⟩)
      go_round
      case rel => exact ⟨k + 1, by omega, by go_num⟩
      case measure => simp [intOf]; omega
    · clear hall hz
      go_wp2
      go_ret
      exact ⟨rfl, rfl⟩
theorem fineIdx_yes (A : Option Addr) (n c j : Nat) (zs : List Int) (w : World) (hn : zs.length = n) (hm : n ≤ 9223372036854775807)
    (hz : IntsAt w A zs) (hj : j < n) (hbad : zs.getD j 0 ≠ 0) :
    Calls Tryd.prog 73 #[.slice A n c, .func (.func 47) #[] #[]] w fun e w' => (∃ i : Nat, e = .returned (.int .i64 i)) ∧ w = w' := by
  subst hn
  have HB := hide hbad
  clear hbad
  go_enter Tryd.func73, Tryd.ntmps73
  go_wp2
  go_loop [8] (fun i => ∃ k : Nat, k ≤ j ∧ i = .int .i64 k) (fun i => zs.length - (intOf i).toNat)
  case atStart => exact ⟨0, Nat.zero_le _, rfl⟩
  case round =>
    obtain ⟨k, hk, rfl⟩ := hrel
    have hlt : k < zs.length := by omega
    obtain ⟨b, o, rfl, hc⟩ := hz k hlt
    clear hz
    by_cases h0 : zs.getD k 0 = 0
    · have hkj : k < j := by
        rcases Nat.lt_or_ge k j with hlt | hge
        · exact hlt
        · obtain rfl : k = j := by omega
          exact absurd h0 HB.out
      rw [h0] at hc
      clear h0 HB
      go_wp2_with (go_at_call 47; refine (fine1_any _ _).mono ?_; rintro e w' ⟨rfl, rfl⟩)
      go_round
      case rel => exact ⟨k + 1, by omega, by go_num⟩
      case measure => simp [intOf]; omega
    · have h0' : (zs.getD k 0 != 0) = true := by simpa using h0
      clear h0 HB
      generalize zs.getD k 0 = z at *
      go_wp2_with (go_at_call 47; refine (fine1_any _ _).mono ?_; rintro e w' ⟨rfl, rfl⟩)
      go_ret
      exact ⟨⟨k, rfl⟩, rfl⟩
def allZero (zs : List Int) : Bool := zs.all (· == 0)
theorem fine_any (A : Option Addr) (n c : Nat) (zs : List Int) (w : World) (hn : zs.length = n) (hm : n ≤ 9223372036854775807) (hz : IntsAt w A zs) :
    Calls Tryd.prog 13 #[.slice A n c] w fun e w' => e = .returned (.bool (allZero zs)) ∧ w = w' := by
  cases h : allZero zs
  · obtain ⟨z, hz1, hz2⟩ : ∃ z ∈ zs, z ≠ 0 := by
      unfold allZero at h
      rw [List.all_eq_false] at h
      obtain ⟨z, h1, h2⟩ := h
      exact ⟨z, h1, by simpa using h2⟩
    obtain ⟨j, hj, rfl⟩ := List.mem_iff_getElem.1 hz1
    have hbad : zs.getD j 0 ≠ 0 := by simpa [hj] using hz2
    clear h hz1 hz2
    go_enter Tryd.func13, Tryd.ntmps13
    go_wp2_with (first | (go_at_call 73; refine (fineIdx_yes A n c j zs _ hn hm hz (by omega) hbad).mono ?_; rintro e w' ⟨⟨i, rfl⟩, rfl⟩) | (go_at_call 46; go_in))
    go_ret
    exact ⟨rfl, rfl⟩
  · have hall : ∀ i, i < n → zs.getD i 0 = 0 := by
      intro i hi
      unfold allZero at h
      rw [List.all_eq_true] at h
      have := h (zs[i]'(by omega)) (List.getElem_mem _)
      simpa [hn, hi] using this
    clear h
    go_enter Tryd.func13, Tryd.ntmps13
    go_wp2_with (first | (go_at_call 73; refine (fineIdx_no A n c zs _ hn hm hz hall).mono ?_; rintro e w' ⟨rfl, rfl⟩) | (go_at_call 46; go_in))
    go_ret
    exact ⟨rfl, rfl⟩
end Go.Proofs.YtdoibgmmijhlfaaDoor
