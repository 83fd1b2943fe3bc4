/- Walks over the package symm: Colours. -/
import Derived.Test.YtmkckpiehffccaaTurnW1
namespace Go.Proofs.Ytmkckpiehffccaa
open Go.ChangeShapes Go.WideShapes Go.ChangeAt Go.RowKit
set_option linter.unusedVariables false
def Cols (v e : Int) (w : World) (x : Ending) (w' : World) : Prop := x = .returned (.tuple #[.int .i64 v, .int .i64 e]) ∧ Ext w w'
theorem Colours_side (a b c : Int) (w : World) (h : ¬ okSide a b) : Calls Try.prog 7 #[.int .i64 a, .int .i64 b, .int .i64 c] w (Cols 0 4 w) := by
  go_enter Try.func7, Try.ntmps7
  go_wp2_with (go_at_call 20; refine (Check_no _ _ _ h).mono ?_; rintro e w' ⟨rfl, rfl⟩)
  go_ret2
  exact ⟨rfl, Below.refl _ _⟩
theorem Colours_arg (a b c : Int) (w : World) (h : okSide a b) (hc : c < 0 ∨ (0 ≤ c ∧ 16 < c)) : Calls Try.prog 7 #[.int .i64 a, .int .i64 b, .int .i64 c] w (Cols 0 1 w) := by
  rcases hc with hc | ⟨hc, hc'⟩
  all_goals
    go_enter Try.func7, Try.ntmps7
    go_wp2_with (go_at_call 20; refine (Check_yes _ _ _ h).mono ?_; rintro e w' ⟨rfl, rfl⟩)
    go_ret2
    exact ⟨rfl, Below.refl _ _⟩
theorem big_mem {a b c : Int} {k n : Nat} (hk : k < n) (h : 281474976710656 < c ^ cyc a b k) : colBig c (cycs a b n) = true := by
  unfold colBig cycs
  rw [List.any_map, List.any_eq_true]
  exact ⟨k, List.mem_range.2 hk, by simpa [big] using h⟩
theorem big_snoc {a b c : Int} {k : Nat} (h : colBig c (cycs a b k) = false) (hk : c ^ cyc a b k ≤ 281474976710656) : colBig c (cycs a b (k + 1)) = false := by
  rw [cycs_succ]
  unfold colBig at *
  rw [List.any_append, h]
  simp [big]
  omega
theorem Colours_in (a b c : Int) (w : World) (h : okSide a b) (hc0 : 0 ≤ c) (hc1 : c ≤ 16) : Calls Try.prog 7 #[.int .i64 a, .int .i64 b, .int .i64 c] w fun e w' => ∃ v e1, Cols v e1 w e w' ∧
    ((e1 = 2 ∧ v = 0 ∧ colBig c (cycs a b (cnt a b).toNat) = true) ∨ (e1 = 0 ∧ v = colSum c (cycs a b (cnt a b).toNat) / cnt a b ∧ colBig c (cycs a b (cnt a b).toNat) = false)) := by
  obtain ⟨M, hM⟩ : ∃ M : Nat, cnt a b = M := ⟨(cnt a b).toNat, by have := cnt_bd a b; omega⟩
  have hcb := cnt_bd a b
  have HCY := hide (fun (k : Nat) W (hk : k < M) => cycles_any a b k W h ⟨by omega, by rw [hM]; omega⟩)
  have HC64 := hide (fun (k : Nat) => cyc_le (s := (k : Int)) h)
  have HCN := hide (fun W => hM ▸ count_any a b W)
  have HBD := hide (fun (k : Nat) => colSum_bd c hc0 (cycs a b k))
  have HPN := hide (pow_nonneg c hc0)
  rw [hM]
  rw [hM] at hcb
  clear hM
  rw [show ((M : Int)).toNat = M from by omega]
  go_enter Try.func7, Try.ntmps7
  go_wp2_with (first | (go_at_call 20; refine (Check_yes _ _ _ h).mono ?_; rintro e w' ⟨rfl, rfl⟩) | (go_at_call 21; refine (HCN.out _).mono ?_; rintro e w' ⟨rfl, rfl⟩))
  go_loopw [9, 10, 11, 27] (fun s _ _ i wr => ∃ k : Nat, k ≤ M ∧ i = .int .i64 k ∧ s = .int .i64 (colSum c (cycs a b k)) ∧ Hid (colBig c (cycs a b k) = false) ∧ Ext w wr) (fun _ _ _ i _ => M - (intOf i).toNat)
  case atStart => exact ⟨0, Nat.zero_le _, rfl, rfl, hide rfl, Below.refl _ _⟩
  case round =>
    obtain ⟨k, hk, rfl, rfl, hb, hext⟩ := hrel
    obtain ⟨s0, s1⟩ := HBD.out k hb.out
    have hlen : (cycs a b k).length = k := by simp [cycs]
    rw [hlen] at s1
    have HSN := hide (show colSum c (cycs a b (k + 1)) = colSum c (cycs a b k) + c ^ cyc a b k from by rw [cycs_succ, colSum_snoc])
    clear hlen
    generalize hSS : colSum c (cycs a b k) = S at *
    have HSS := hide hSS
    clear hSS
    by_cases hlt : k < M
    · have hm64 := HC64.out k
      have HT := hide (fun W => HCY.out k W hlt)
      have HBM := hide (fun h => big_mem (a := a) (b := b) (c := c) hlt h)
      have HBS := hide (fun h => big_snoc (a := a) (b := b) (c := c) (k := k) hb.out h)
      clear hb
      generalize cyc a b k = m at *
      go_wp2_with (go_at_call 22; refine (HT.out _).mono ?_; rintro e w2 ⟨rfl, x2⟩)
      have hext2 := ext_trans hext x2
      clear hext x2 HT
      go_loopw [11, 34] (fun p i wr => ∃ j : Nat, j ≤ m ∧ i = .int .i64 j ∧ p = .int .i64 (c ^ j) ∧ c ^ j ≤ 281474976710656 ∧ wr = w2) (fun _ i _ => m - (intOf i).toNat)
      case atStart => exact ⟨0, Nat.zero_le _, rfl, by rw [Int.pow_zero], by rw [Int.pow_zero]; omega, rfl⟩
      case round =>
        obtain ⟨j, hj, rfl, rfl, hp, rfl⟩ := hrel
        have hp0 := HPN.out j
        have HPS := hide (Int.pow_succ c j)
        by_cases hjm : j < m
        · have HP1 := hide (fun h : 281474976710656 < c ^ (j + 1) => big_up (c := c) (m := m) hc0 (by omega) h)
          generalize c ^ j = p at *
          have q0 : 0 ≤ p * c := Int.mul_nonneg hp0 hc0
          have q1 : p * c ≤ 281474976710656 * 16 := Int.mul_le_mul hp hc1 hc0 (by omega)
          by_cases hbig : 281474976710656 < p * c
          · have HB := hide (HBM.out (HP1.out (by rw [HPS.out]; exact hbig)))
            clear HBM HBS HP1 HPS HSN
            go_wp2
            go_ret2
            exact ⟨0, 2, ⟨rfl, hext2⟩, .inl ⟨rfl, rfl, HB.out⟩⟩
          · clear HBM HBS HP1 HSN
            go_wp2
            go_roundw
            case rel => exact ⟨j + 1, by omega, by go_num, by rw [HPS.out], by rw [HPS.out]; omega, trivial⟩
            case measure => simp [intOf]; omega
        · obtain rfl : j = m := by omega
          have HB := hide (HBS.out hp)
          have HP := hide hp
          generalize c ^ j = p at *
          clear HBM HBS HPS
          go_wp2
          go_roundw
          case rel => exact ⟨k + 1, by omega, by go_num, by rw [HSN.out], HB, hext2⟩
          case measure => simp [intOf]; omega
    · obtain rfl : k = M := by omega
      have HB := hide hb
      clear hb HSN
      go_wp2_with (go_at_call 21; refine (HCN.out _).mono ?_; rintro e w' ⟨rfl, rfl⟩)
      go_ret2
      exact ⟨_, 0, ⟨rfl, hext⟩, .inr ⟨rfl, by rw [HSS.out], HB.out.out⟩⟩
theorem Colours_any (a b c : Int) (w : World) : Calls Try.prog 7 #[.int .i64 a, .int .i64 b, .int .i64 c] w (Cols (colV a b c) (colE a b c) w) := by
  by_cases h : okSide a b
  · by_cases hc : c < 0 ∨ 16 < c
    · have e : colE a b c = 1 := by unfold colE; simp only [h, not_true_eq_false, if_false]; rw [if_pos hc]
      have e2 : colV a b c = 0 := by unfold colV; rw [e]; rfl
      rw [e, e2]
      exact Colours_arg a b c w h (by omega)
    · refine (Colours_in a b c w h (by omega) (by omega)).mono ?_
      rintro x w' ⟨v, e1, hx, ⟨rfl, rfl, hb⟩ | ⟨rfl, rfl, hb⟩⟩
      · have e : colE a b c = 2 := by unfold colE; simp only [h, not_true_eq_false, if_false]; rw [if_neg hc, hb]; rfl
        have e2 : colV a b c = 0 := by unfold colV; rw [e]; rfl
        rw [e, e2]
        exact hx
      · have e : colE a b c = 0 := by unfold colE; simp only [h, not_true_eq_false, if_false]; rw [if_neg hc, hb]; rfl
        have e2 : colV a b c = colSum c (cycs a b (cnt a b).toNat) / cnt a b := by unfold colV; rw [e]; rfl
        rw [e, e2]
        exact hx
  · have e : colE a b c = 4 := by unfold colE; rw [if_pos h]
    have e2 : colV a b c = 0 := by unfold colV; rw [e]; rfl
    rw [e, e2]
    exact Colours_side a b c w h
end Go.Proofs.Ytmkckpiehffccaa
