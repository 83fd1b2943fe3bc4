/- Walks: slices.Contains at integers (not there), cards.Check of a fine deck, cards.Fits, cards.Fresh. -/
import Derived.Test.YtdoibgmmijhlfaaOwnZ
import Derived.Test.YtdoibgmmijhlfaaDealQ
import Derived.BigFrame
namespace Go.Proofs.Ytdoibgmmijhlfaa
open Go.ChangeShapes Go.WideShapes Go.ChangeAt Go.RowKit Go.Shelf
set_option linter.unusedVariables false
set_option linter.unusedSimpArgs false
theorem getD_mem {zs : List Int} {k : Nat} (h : k < zs.length) : zs.getD k 0 ∈ zs := by
  rw [List.getD_eq_getElem?_getD, List.getElem?_eq_getElem h]
  exact List.getElem_mem h
set_option maxHeartbeats 1000000 in
theorem Index_not (A : Option Addr) (n c : Nat) (zs : List Int) (x : Int) (w : World) (hn : zs.length = n) (hm : n ≤ 1000000) (hz : IntsAt w A zs) (hx : x ∉ zs) :
    Calls Try.prog 118 #[.slice A n c, .int .i64 x] w fun e w' => e = .returned (.int .i64 (-1)) ∧ w' = w := by
  subst hn
  have HX := hide (fun k (hk : k < zs.length) => (fun (h : x = zs.getD k 0) => hx (h ▸ getD_mem hk) : ¬ x = zs.getD k 0))
  clear hx
  go_enter Try.func118, Try.ntmps118
  go_wp2
  go_loop [5, 8] (fun _ i => ∃ k : Nat, k ≤ zs.length ∧ i = .int .i64 k) (fun _ i => zs.length - (intOf i).toNat)
  case atStart => exact ⟨0, Nat.zero_le _, rfl⟩
  case round =>
    obtain ⟨k, hk, rfl⟩ := hrel
    by_cases hlt : k < zs.length
    · obtain ⟨b, o, rfl, hc⟩ := hz k hlt
      have t0 : (x == zs.getD k 0) = false := by simpa using HX.out k hlt
      have i0 : (0 : Int) ≤ (k : Int) := by omega
      have i1 : (k : Int) < (zs.length : Int) := by omega
      have HM := hide (show k + 1 ≤ zs.length from hlt)
      clear hz hlt hk
      generalize zs.getD k 0 = y at *
      go_wp2
      go_round
      case rel => exact ⟨k + 1, HM.out, by go_num⟩
      case measure => have := HM.out; simp [intOf]; omega
    · obtain rfl : k = zs.length := by omega
      clear hz hk hlt
      go_wp2
      go_ret
      exact ⟨rfl, rfl⟩
theorem Contains_not (A : Option Addr) (n c : Nat) (zs : List Int) (x : Int) (w : World) (hn : zs.length = n) (hm : n ≤ 1000000) (hz : IntsAt w A zs) (hx : x ∉ zs) :
    Calls Try.prog 82 #[.slice A n c, .int .i64 x] w fun e w' => e = .returned (.bool false) ∧ w' = w := by
  have H := hide (Index_not A n c zs x w hn hm hz hx)
  clear hz hx hn
  go_enter Try.func82, Try.ntmps82
  go_wp2_with fail
  refine H.out.mono ?_
  rintro e w1 ⟨rfl, rfl⟩
  go_wp2
  go_ret
  exact ⟨rfl, rfl⟩
theorem not_before {zs : List Int} (h : zs.Nodup) {k : Nat} (hk : k < zs.length) : zs.getD k 0 ∉ zs.take k := by
  intro hm
  rw [List.mem_iff_getElem?] at hm
  obtain ⟨i, hi⟩ := hm
  rw [List.getElem?_take] at hi
  split at hi
  · rename_i hik
    rw [List.getD_eq_getElem?_getD, List.getElem?_eq_getElem hk, List.getElem?_eq_getElem (by omega)] at hi
    simp only [Option.getD_some, Option.some.injEq] at hi
    have := (List.nodup_iff_pairwise_ne.1 h)
    exact (List.pairwise_iff_getElem.1 this i k (by omega) hk hik) hi
  · cases hi
set_option maxHeartbeats 1000000 in
set_option maxRecDepth 100000 in
theorem Check_ok (A : Option Addr) (n c : Nat) (zs : List Int) (w : World) (hn : zs.length = n) (hnc : n ≤ c) (hcm : c ≤ maxLen) (hz : IntsAt w A zs) (hok : OkD zs) :
    Calls Try.prog 48 #[.slice A n c] w fun e w' => e = .returned (.int .i64 0) ∧ w' = w := by
  subst hn
  have hm := hok.1
  have HOK := hide (fun k (hk : k < zs.length) => hok.2.1 _ (getD_mem hk))
  have HC := hide (fun k (hk : k < zs.length) => Contains_not A k c (zs.take k) (zs.getD k 0) w (by rw [List.length_take]; omega) (by omega) (fun i hi => by
    have hi' : i < k := by rw [List.length_take] at hi; omega
    obtain ⟨b, o, e, h⟩ := hz i (by omega)
    refine ⟨b, o, e, ?_⟩
    rw [h]
    simp [List.getD_eq_getElem?_getD, List.getElem?_take, hi']) (not_before hok.2.2 hk))
  have hcm' : c ≤ 9223372036854775807 := by simp only [maxLen] at hcm; omega
  clear hok hcm
  go_enter Try.func48, Try.ntmps48
  go_wp2
  go_loop [3, 4, 10] (fun _ _ i => ∃ k : Nat, k ≤ zs.length ∧ i = .int .i64 k) (fun _ _ i => zs.length - (intOf i).toNat)
  case atStart => exact ⟨0, Nat.zero_le _, rfl⟩
  case round =>
    obtain ⟨k, hk, rfl⟩ := hrel
    by_cases hlt : k < zs.length
    · have HCK := hide (HC.out k hlt)
      obtain ⟨b, o, rfl, hc⟩ := hz k hlt
      obtain ⟨r0, r1⟩ := HOK.out k hlt
      have i0 : (0 : Int) ≤ (k : Int) := by omega
      have i1 : (k : Int) < (zs.length : Int) := by omega
      have i2 : (k : Int) ≤ (c : Int) := by omega
      have HM := hide (show k + 1 ≤ zs.length from hlt)
      clear hz hlt hk
      generalize zs.getD k 0 = y at *
      have t0 : decide (y < 0) = false := by simpa using r0
      have t1 : decide (52 ≤ y) = false := by simpa using r1
      clear r0 r1
      go_wp2_with fail
      refine HCK.out.mono ?_
      rintro e w1 ⟨rfl, rfl⟩
      go_wp2
      go_round
      case rel => exact ⟨k + 1, HM.out, by go_num⟩
      case measure => have := HM.out; simp [intOf]; omega
    · obtain rfl : k = zs.length := by omega
      clear hz hk hlt
      go_wp2
      go_ret
      exact ⟨rfl, rfl⟩
end Go.Proofs.Ytdoibgmmijhlfaa
