/- Walks: cards.Fits, cards.Fresh, cards.Shuffle. -/
import Derived.Test.YtdoibgmmijhlfaaDealA
namespace Go.Proofs.Ytdoibgmmijhlfaa
open Go.ChangeShapes Go.WideShapes Go.ChangeAt Go.RowKit Go.Shelf
set_option linter.unusedVariables false
set_option linter.unusedSimpArgs false
theorem run_max2 (W : World) (ats : Array TypeId) (ty : TypeId) (a b : Int) : (Builtin.max_ ats ty #[.int .i64 a, .int .i64 b]).run Try.prog W = .ok (.int .i64 (max a b)) W := by
  have e : max a b = if a < b then b else a := by split <;> omega
  rw [e]
  simp [Builtin.max_, Builtin.max2]
theorem fits_step {n : Int} {zs : List Int} {k : Nat} (h : ∀ j, j < k → 0 ≤ zs.getD j 0 ∧ zs.getD j 0 ≤ n - 1 - j) (h2 : 0 ≤ zs.getD k 0 ∧ zs.getD k 0 ≤ n - 1 - k) : ∀ j, j < k + 1 → 0 ≤ zs.getD j 0 ∧ zs.getD j 0 ≤ n - 1 - j := fun j hj => by
  rcases (by omega : j < k ∨ j = k) with h' | rfl
  · exact h j h'
  · exact h2
/-- What Fits answers. -/
def FitsPost (n : Int) (zs : List Int) (e : Ending) : Prop := (e = .returned (.int .i64 0) ∧ FitsL n zs) ∨ (∃ c, c ≠ 0 ∧ e = .returned (.int .i64 c) ∧ ¬ FitsL n zs)
set_option maxHeartbeats 2000000 in
set_option maxRecDepth 100000 in
theorem Fits_any (m : Int) (A : Option Addr) (n c : Nat) (zs : List Int) (w : World) (hm0 : 0 ≤ m) (hm1 : m ≤ 1000) (hn : zs.length = n) (hnm : n ≤ maxLen) (hz : IntsAt w A zs) :
    Calls Try.prog 22 #[.int .i64 m, .slice A n c] w fun e w' => FitsPost m zs e ∧ w' = w := by
  subst hn
  obtain ⟨q, hq⟩ : ∃ q : Int, max m 1 = q := ⟨_, rfl⟩
  have hmax : ∀ W ats ty, (Builtin.max_ ats ty #[.int .i64 m, .int .i64 1]).run Try.prog W = .ok (.int .i64 q) W := fun W ats ty => by rw [← hq]; exact run_max2 W ats ty m 1
  have hq1 : IntKind.i64.wrap (q - 1) = q - 1 := by rw [IntKind.wrap_i64]; omega
  have HQ := hide hq
  have hnm' : zs.length ≤ 9223372036854775807 := by simp only [maxLen] at hnm; omega
  clear hq hnm
  by_cases hlen : (zs.length : Int) = q - 1
  · have t0 : ((zs.length : Int) != q - 1) = false := by simpa using hlen
    have HL := hide hlen
    have hm2 : IntKind.i64.wrap (m - 1) = m - 1 := by rw [IntKind.wrap_i64]; omega
    clear hlen
    go_enter Try.func22, Try.ntmps22
    go_wp2
    go_loop [5, 6, 15] (fun _ _ i => ∃ k : Nat, k ≤ zs.length ∧ i = .int .i64 k ∧ Hid (∀ j, j < k → 0 ≤ zs.getD j 0 ∧ zs.getD j 0 ≤ m - 1 - j)) (fun _ _ i => zs.length - (intOf i).toNat)
    case atStart => exact ⟨0, Nat.zero_le _, rfl, hide (fun j hj => by omega)⟩
    case round =>
      obtain ⟨k, hk, rfl, hall⟩ := hrel
      by_cases hlt : k < zs.length
      · obtain ⟨b, o, rfl, hc⟩ := hz k hlt
        have i0 : (0 : Int) ≤ (k : Int) := by omega
        have i1 : (k : Int) < (zs.length : Int) := by omega
        have HM := hide (show k + 1 ≤ zs.length from hlt)
        have HS := hide (fun h => fits_step hall.out h)
        have hk2 : IntKind.i64.wrap (m - 1 - (k : Int)) = m - 1 - (k : Int) := by rw [IntKind.wrap_i64]; have := HL.out; have := HQ.out; omega
        have HN := hide (fun (h : FitsL m zs) => h.2 k hlt)
        clear hz hlt hk hall
        generalize zs.getD k 0 = y at *
        by_cases h0 : y < 0
        · have t1 : decide (y < 0) = true := by simpa using h0
          go_wp2
          go_ret
          exact ⟨.inr ⟨4, by decide, rfl, fun h => by have := HN.out h; omega⟩, rfl⟩
        · have t1 : decide (y < 0) = false := by simpa using h0
          by_cases h1 : m - 1 - (k : Int) < y
          · have t2 : decide (m - 1 - (k : Int) < y) = true := by simpa using h1
            clear h0 h1
            go_wp2
            go_ret
            exact ⟨.inr ⟨4, by decide, rfl, fun h => by have := HN.out h; simp at t2; omega⟩, rfl⟩
          · have t2 : decide (m - 1 - (k : Int) < y) = false := by simpa using h1
            have HS2 := hide (HS.out ⟨by omega, by omega⟩)
            clear h0 h1 HS HN
            go_wp2
            go_round
            case rel => exact ⟨k + 1, HM.out, by go_num, HS2⟩
            case measure => have := HM.out; simp [intOf]; omega
      · obtain rfl : k = zs.length := by omega
        clear hz hk hlt
        go_wp2
        go_ret
        exact ⟨.inl ⟨rfl, by rw [HQ.out]; exact HL.out, hall.out⟩, rfl⟩
  · have t0 : ((zs.length : Int) != q - 1) = true := by simpa using hlen
    have HL := hide hlen
    clear hz hlen
    go_enter Try.func22, Try.ntmps22
    go_wp2
    go_ret
    exact ⟨.inr ⟨3, by decide, rfl, fun h => HL.out (by rw [← HQ.out]; exact h.1)⟩, rfl⟩
set_option maxHeartbeats 2000000 in
set_option maxRecDepth 100000 in
theorem Fresh_any (w : World) :
    Calls Try.prog 32 #[.int .i64 52] w fun e w' => ∃ v, e = .returned (.tuple #[v, .int .i64 0]) ∧ OwnZ w w' v (freshL 52) ∧ Ext w w' := by
  go_enter Try.func32, Try.ntmps32
  go_wp2
  go_loopw [4, 5, 13] (fun v _ i wr => ∃ k : Nat, k ≤ 52 ∧ i = .int .i64 k ∧ OwnZ w wr v (freshL k) ∧ Ext w wr) (fun _ _ i _ => 52 - (intOf i).toNat)
  case atStart => exact ⟨0, by omega, rfl, OwnZ.nil w w, Below.refl _ _⟩
  case round =>
    obtain ⟨k, hk, rfl, hO, hx⟩ := hrel
    by_cases hlt : k < 52
    · have HO := hide hO
      have HX := hide hx
      have HM := hide hlt
      have i1 : (k : Int) < 52 := by omega
      clear hO hx hk hlt
      rename_i v0 _ _
      go_wp2_with (at_builtin; go_must (refine wp_append_z (.tmp 16) (.tmp 18) rfl rfl w wr _ (freshL k) k rfl HO.out rfl HX.out (by rw [freshL_len]; have := HM.out; omega) ?_))
      intro v4 w4 hO4 hx4 hg4
      rw [← freshL_succ] at hO4
      have HO4 := hide hO4
      have HX4 := hide hx4
      clear hO4 hx4 hg4
      go_wp2
      go_roundw
      case rel => exact ⟨k + 1, HM.out, by go_num, HO4.out, HX4.out⟩
      case measure => have := HM.out; simp [intOf]; omega
    · obtain rfl : k = 52 := by omega
      have HO := hide hO
      have HX := hide hx
      clear hO hx hk hlt
      go_wp2
      go_ret2
      exact ⟨_, rfl, HO.out, HX.out⟩
end Go.Proofs.Ytdoibgmmijhlfaa
