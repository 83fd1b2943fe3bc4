/- Walks: fine (all error codes are 0), slices.Equal over []int. -/
import Derived.Test.YtdoibgmmijhlfaaRows
import Derived.Test.YtdoibgmmijhlfaaMem
import Derived.WalkKit
import Derived.ProofKit
import Derived.OpenShut
import Derived.Outline
import Derived.Deep.QuietTactic
import Derived.BigQuiet
namespace Go.Proofs.Ytdoibgmmijhlfaa
open Go.ChangeShapes Go.WideShapes Go.ChangeAt Go.RowKit
theorem fineS1_any (z : Int) (w : World) :
    Calls Try.prog 55 #[.int .i64 z] w fun e w' => e = .returned (.bool (z != 0)) ∧ w = w' := by
  go_enter Try.func55, Try.ntmps55
  go_wp2
  go_ret
  exact ⟨rfl, rfl⟩
theorem fineSIdx_no (A : Option Addr) (n c : Nat) (zs : List Int) (w : World) (hn : zs.length = n) (hm : n ≤ 9223372036854775807)
    (hz : IntsAt w A zs) (hall : ∀ i, i < n → zs.getD i 0 = 0) :
    Calls Try.prog 81 #[.slice A n c, .func (.func 55) #[] #[]] w fun e w' => e = .returned (.int .i64 (-1)) ∧ w = w' := by
  subst hn
  go_enter Try.func81, Try.ntmps81
  go_wp2
  go_loop [8] (fun i => ∃ k : Nat, k ≤ zs.length ∧ i = .int .i64 k) (fun i => zs.length - (intOf i).toNat)
  case atStart => exact ⟨0, Nat.zero_le _, rfl⟩
  case round =>
    obtain ⟨k, hk, rfl⟩ := hrel
    by_cases hlt : k < zs.length
    · obtain ⟨b, o, rfl, hc⟩ := hz k hlt
      rw [hall k hlt] at hc
      clear hall hz
      go_wp2_with (go_at_call 55; refine (fineS1_any _ _).mono ?_; rintro e w' ⟨rfl, rfl⟩)
      go_round
      case rel => exact ⟨k + 1, by omega, by go_num⟩
      case measure => simp [intOf]; omega
    · clear hall hz
      go_wp2
      go_ret
      exact ⟨rfl, rfl⟩
theorem fineSIdx_yes (A : Option Addr) (n c j : Nat) (zs : List Int) (w : World) (hn : zs.length = n) (hm : n ≤ 9223372036854775807)
    (hz : IntsAt w A zs) (hj : j < n) (hbad : zs.getD j 0 ≠ 0) :
    Calls Try.prog 81 #[.slice A n c, .func (.func 55) #[] #[]] w fun e w' => (∃ i : Nat, e = .returned (.int .i64 i)) ∧ w = w' := by
  subst hn
  have HB := hide hbad
  clear hbad
  go_enter Try.func81, Try.ntmps81
  go_wp2
  go_loop [8] (fun i => ∃ k : Nat, k ≤ j ∧ i = .int .i64 k) (fun i => zs.length - (intOf i).toNat)
  case atStart => exact ⟨0, Nat.zero_le _, rfl⟩
  case round =>
    obtain ⟨k, hk, rfl⟩ := hrel
    have hlt : k < zs.length := by omega
    obtain ⟨b, o, rfl, hc⟩ := hz k hlt
    clear hz
    by_cases h0 : zs.getD k 0 = 0
    · have hkj : k < j := by
        rcases Nat.lt_or_ge k j with hlt | hge
        · exact hlt
        · obtain rfl : k = j := by omega
          exact absurd h0 HB.out
      rw [h0] at hc
      clear h0 HB
      go_wp2_with (go_at_call 55; refine (fineS1_any _ _).mono ?_; rintro e w' ⟨rfl, rfl⟩)
      go_round
      case rel => exact ⟨k + 1, by omega, by go_num⟩
      case measure => simp [intOf]; omega
    · have h0' : (zs.getD k 0 != 0) = true := by simpa using h0
      clear h0 HB
      generalize zs.getD k 0 = z at *
      go_wp2_with (go_at_call 55; refine (fineS1_any _ _).mono ?_; rintro e w' ⟨rfl, rfl⟩)
      go_ret
      exact ⟨⟨k, rfl⟩, rfl⟩
def allZeroS (zs : List Int) : Bool := zs.all (· == 0)
theorem fineS_any (A : Option Addr) (n c : Nat) (zs : List Int) (w : World) (hn : zs.length = n) (hm : n ≤ 9223372036854775807) (hz : IntsAt w A zs) :
    Calls Try.prog 29 #[.slice A n c] w fun e w' => e = .returned (.bool (allZeroS zs)) ∧ w = w' := by
  cases h : allZeroS zs
  · obtain ⟨z, hz1, hz2⟩ : ∃ z ∈ zs, z ≠ 0 := by
      unfold allZeroS at h
      rw [List.all_eq_false] at h
      obtain ⟨z, h1, h2⟩ := h
      exact ⟨z, h1, by simpa using h2⟩
    obtain ⟨j, hj, rfl⟩ := List.mem_iff_getElem.1 hz1
    have hbad : zs.getD j 0 ≠ 0 := by simpa [hj] using hz2
    clear h hz1 hz2
    go_enter Try.func29, Try.ntmps29
    go_wp2_with (first | (go_at_call 81; refine (fineSIdx_yes A n c j zs _ hn hm hz (by omega) hbad).mono ?_; rintro e w' ⟨⟨i, rfl⟩, rfl⟩) | (go_at_call 44; go_in))
    go_ret
    exact ⟨rfl, rfl⟩
  · have hall : ∀ i, i < n → zs.getD i 0 = 0 := by
      intro i hi
      unfold allZeroS at h
      rw [List.all_eq_true] at h
      have := h (zs[i]'(by omega)) (List.getElem_mem _)
      simpa [hn, hi] using this
    clear h
    go_enter Try.func29, Try.ntmps29
    go_wp2_with (first | (go_at_call 81; refine (fineSIdx_no A n c zs _ hn hm hz hall).mono ?_; rintro e w' ⟨rfl, rfl⟩) | (go_at_call 44; go_in))
    go_ret
    exact ⟨rfl, rfl⟩
end Go.Proofs.Ytdoibgmmijhlfaa
