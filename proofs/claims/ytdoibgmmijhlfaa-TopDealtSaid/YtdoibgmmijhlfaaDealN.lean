/- Walks: ranks.valueOf, ranks.Check. -/
import Derived.Test.YtdoibgmmijhlfaaDealZ
namespace Go.Proofs.Ytdoibgmmijhlfaa
open Go.ChangeShapes Go.WideShapes Go.ChangeAt Go.RowKit Go.Shelf
set_option linter.unusedVariables false
set_option linter.unusedSimpArgs false
set_option maxHeartbeats 4000000 in
set_option maxRecDepth 100000 in
theorem valueOf_any (A : Option Addr) (c : Nat) (h : List Int) (w : World) (h5 : h.length = 5) (hz : IntsAt w A h) (h0 : ∀ z ∈ h, 0 ≤ z ∧ z < 52) :
    Calls Try.prog 49 #[.slice A 5 c] w fun e w' => e = .returned (.int .i64 (valR h)) ∧ Ext w w' := by
  have HOR := hide (Order_any A 5 c h w h5 (by omega) hz h0)
  have HCL := hide (fun W (x : Ext w W) => classOf_any A c h W h5 (hz.ext x) h0)
  have HST := hide (fun W v n (hz : IntsAt W v (ordR h)) (hn : (ordR h).length = n) (c : Nat) => straight_any v n c (ordR h) W hn (by rw [← hn]; exact ordR_len h) hz (fun i => ordR_bd))
  have HUS : Hid (useR h = if classR h = 8 ∨ classR h = 4 then [straightR (ordR h)] else ordR h) := hide rfl
  have HV0 : Hid (valF h 0 = classR h) := hide rfl
  clear hz h0 h5
  go_enter Try.func49, Try.ntmps49
  go_wp2_with fail
  refine HOR.out.mono ?_
  rintro e w2 ⟨v, u, rfl, o2, o3, x2⟩
  have X2 := hide x2
  obtain ⟨Av, cv, rfl, iv⟩ := o2.ints
  obtain ⟨Au, cu, rfl, -⟩ := o3.ints
  have HIV := hide iv
  clear o2 o3 x2 iv HOR
  go_wp2_with fail
  refine (HCL.out _ X2.out).mono ?_
  rintro e w3 ⟨rfl, x3⟩
  have X3 := hide (ext_trans X2.out x3)
  have HIV3 := hide (HIV.out.ext x3)
  clear x3 X2 HIV HCL
  rw [← HV0.out]
  by_cases h8 : classR h = 8 ∨ classR h = 4
  · rw [if_pos h8] at HUS
    have HSS := hide (HST.out _ _ _ HIV3.out rfl cv)
    rcases h8 with e8 | e4
    · have e0 : valF h 0 = 8 := by rw [HV0.out]; exact e8
      rw [e0]
      have HE0 := hide e0
      clear e0 e8
      go_wp2_with fail
      refine HSS.out.mono ?_
      rintro e w4 ⟨rfl, x4⟩
      generalize straightR (ordR h) = st at *
      have HU : Hid (IntsAt (w4.alloc (.cells #[.int .i64 st] 3)) (some ⟨w4.heap.size, 0, none⟩) (useR h)) := hide (by rw [HUS.out]; exact intsAt_new w4 3 [st])
      have X5 := hide (ext_alloc (ext_trans X3.out x4) (.cells #[.int .i64 st] 3))
      have HLEN : Hid ((useR h).length = 1) := hide (by rw [HUS.out]; rfl)
      go_upto_region 5 with fail
      generalize w4.alloc _ = w5 at *
      generalize w4.heap.size = BN at *
      clear x4 HSS HST HIV3
      have hul := useR_len h
      have HUB := hide (fun i => useR_bd (h := h) (i := i))
      have HVF := hide (fun i (hi : i ≤ 5) => valF_lt h hi)
      go_wp2
      go_loopw [5, 6, 23] (fun v _ i ws => ∃ k : Nat, k ≤ 5 ∧ i = .int .i64 k ∧ v = .int .i64 (valF h k) ∧ Ext w5 ws) (fun _ _ i _ => 5 - (intOf i).toNat)
      case atStart => exact ⟨0, by omega, rfl, (by rw [HE0.out]), Below.refl _ _⟩
      case round =>
        obtain ⟨k, hk, rfl, rfl, hX⟩ := hrel
        by_cases hlt : k < 5
        · obtain ⟨v0, v1⟩ := HVF.out k hk
          have HS : Hid (valF h (k + 1) = valF h k * 13 + (if k < (useR h).length then (useR h).getD k 0 else 0)) := hide rfl
          obtain ⟨s0, s1⟩ := HVF.out (k + 1) (by omega)
          have HK := hide hlt
          have HXX := hide hX
          have i1 : (k : Int) < 5 := by omega
          have i0 : (0 : Int) ≤ (k : Int) := by omega
          generalize hvn : valF h (k + 1) = vn at *
          have HVN := hide hvn
          clear hvn
          generalize valF h k = vk at *
          have hw1 : IntKind.i64.wrap (vk * 13) = vk * 13 := by rw [IntKind.wrap_i64]; omega
          by_cases hl : k < (useR h).length
          · rw [if_pos hl] at HS
            obtain ⟨b, o, eA, hc⟩ := (HU.out.ext hX) k hl
            first | subst eA | (simp only [Option.some.injEq, Addr.mk.injEq, and_true] at eA; obtain ⟨rfl, rfl⟩ := eA)
            try rw [Nat.zero_add] at hc
            obtain ⟨u0, u1⟩ := HUB.out k
            have l1 : (k : Int) < (1 : Int) := by have := HLEN.out; omega
            have l1n : k < 1 := by have := HLEN.out; omega
            clear hX hk hlt hl
            generalize (useR h).getD k 0 = uk at *
            have hw2 : IntKind.i64.wrap (vk * 13 + uk) = vk * 13 + uk := by rw [IntKind.wrap_i64]; omega
            go_wp2
            go_roundw
            case rel => exact ⟨k + 1, HK.out, by go_num, by rw [HVN.out, HS.out], HXX.out⟩
            case measure => have := HK.out; simp only [intOf, wrap64]; omega
          · rw [if_neg hl, Int.add_zero] at HS
            have l1 : decide ((k : Int) < (1 : Int)) = false := by have := HLEN.out; simp; omega
            have l2 : ¬ k < 1 := by have := HLEN.out; omega
            have l3 : ¬ (k : Int) < (1 : Int) := by have := HLEN.out; omega
            clear hX hk hlt hl
            go_wp2
            go_roundw
            case rel => exact ⟨k + 1, HK.out, by go_num, by rw [HVN.out, HS.out], HXX.out⟩
            case measure => have := HK.out; simp only [intOf, wrap64]; omega
        · obtain rfl : k = 5 := by omega
          have HXX := hide hX
          have HVR : Hid (valF h 5 = valR h) := hide rfl
          clear hX hk hlt
          go_wp2
          go_ret
          exact ⟨by rw [← HVR.out]; rfl, ext_trans X5.out HXX.out⟩
    · have e0 : valF h 0 = 4 := by rw [HV0.out]; exact e4
      rw [e0]
      have HE0 := hide e0
      clear e0 e4
      go_wp2_with fail
      refine HSS.out.mono ?_
      rintro e w4 ⟨rfl, x4⟩
      generalize straightR (ordR h) = st at *
      have HU : Hid (IntsAt (w4.alloc (.cells #[.int .i64 st] 3)) (some ⟨w4.heap.size, 0, none⟩) (useR h)) := hide (by rw [HUS.out]; exact intsAt_new w4 3 [st])
      have X5 := hide (ext_alloc (ext_trans X3.out x4) (.cells #[.int .i64 st] 3))
      have HLEN : Hid ((useR h).length = 1) := hide (by rw [HUS.out]; rfl)
      go_upto_region 5 with fail
      generalize w4.alloc _ = w5 at *
      generalize w4.heap.size = BN at *
      clear x4 HSS HST HIV3
      have hul := useR_len h
      have HUB := hide (fun i => useR_bd (h := h) (i := i))
      have HVF := hide (fun i (hi : i ≤ 5) => valF_lt h hi)
      go_wp2
      go_loopw [5, 6, 23] (fun v _ i ws => ∃ k : Nat, k ≤ 5 ∧ i = .int .i64 k ∧ v = .int .i64 (valF h k) ∧ Ext w5 ws) (fun _ _ i _ => 5 - (intOf i).toNat)
      case atStart => exact ⟨0, by omega, rfl, (by rw [HE0.out]), Below.refl _ _⟩
      case round =>
        obtain ⟨k, hk, rfl, rfl, hX⟩ := hrel
        by_cases hlt : k < 5
        · obtain ⟨v0, v1⟩ := HVF.out k hk
          have HS : Hid (valF h (k + 1) = valF h k * 13 + (if k < (useR h).length then (useR h).getD k 0 else 0)) := hide rfl
          obtain ⟨s0, s1⟩ := HVF.out (k + 1) (by omega)
          have HK := hide hlt
          have HXX := hide hX
          have i1 : (k : Int) < 5 := by omega
          have i0 : (0 : Int) ≤ (k : Int) := by omega
          generalize hvn : valF h (k + 1) = vn at *
          have HVN := hide hvn
          clear hvn
          generalize valF h k = vk at *
          have hw1 : IntKind.i64.wrap (vk * 13) = vk * 13 := by rw [IntKind.wrap_i64]; omega
          by_cases hl : k < (useR h).length
          · rw [if_pos hl] at HS
            obtain ⟨b, o, eA, hc⟩ := (HU.out.ext hX) k hl
            first | subst eA | (simp only [Option.some.injEq, Addr.mk.injEq, and_true] at eA; obtain ⟨rfl, rfl⟩ := eA)
            try rw [Nat.zero_add] at hc
            obtain ⟨u0, u1⟩ := HUB.out k
            have l1 : (k : Int) < (1 : Int) := by have := HLEN.out; omega
            have l1n : k < 1 := by have := HLEN.out; omega
            clear hX hk hlt hl
            generalize (useR h).getD k 0 = uk at *
            have hw2 : IntKind.i64.wrap (vk * 13 + uk) = vk * 13 + uk := by rw [IntKind.wrap_i64]; omega
            go_wp2
            go_roundw
            case rel => exact ⟨k + 1, HK.out, by go_num, by rw [HVN.out, HS.out], HXX.out⟩
            case measure => have := HK.out; simp only [intOf, wrap64]; omega
          · rw [if_neg hl, Int.add_zero] at HS
            have l1 : decide ((k : Int) < (1 : Int)) = false := by have := HLEN.out; simp; omega
            have l2 : ¬ k < 1 := by have := HLEN.out; omega
            have l3 : ¬ (k : Int) < (1 : Int) := by have := HLEN.out; omega
            clear hX hk hlt hl
            go_wp2
            go_roundw
            case rel => exact ⟨k + 1, HK.out, by go_num, by rw [HVN.out, HS.out], HXX.out⟩
            case measure => have := HK.out; simp only [intOf, wrap64]; omega
        · obtain rfl : k = 5 := by omega
          have HXX := hide hX
          have HVR : Hid (valF h 5 = valR h) := hide rfl
          clear hX hk hlt
          go_wp2
          go_ret
          exact ⟨by rw [← HVR.out]; rfl, ext_trans X5.out HXX.out⟩
  · rw [if_neg h8] at HUS
    have t8 : (valF h 0 == 8) = false := by rw [HV0.out]; simp; exact fun e => h8 (.inl e)
    have t4 : (valF h 0 == 4) = false := by rw [HV0.out]; simp; exact fun e => h8 (.inr e)
    have HU : Hid (IntsAt w3 Av (useR h)) := hide (by rw [HUS.out]; exact HIV3.out)
    have HLEN : Hid ((useR h).length = (ordR h).length) := hide (by rw [HUS.out])
    clear h8
    go_upto_region 5 with fail
    clear t8 t4 HST HIV3
    have hul := useR_len h
    have HUB := hide (fun i => useR_bd (h := h) (i := i))
    have HVF := hide (fun i (hi : i ≤ 5) => valF_lt h hi)
    go_wp2
    go_loopw [5, 6, 23] (fun v _ i ws => ∃ k : Nat, k ≤ 5 ∧ i = .int .i64 k ∧ v = .int .i64 (valF h k) ∧ Ext w3 ws) (fun _ _ i _ => 5 - (intOf i).toNat)
    case atStart => exact ⟨0, by omega, rfl, rfl, Below.refl _ _⟩
    case round =>
      obtain ⟨k, hk, rfl, rfl, hX⟩ := hrel
      by_cases hlt : k < 5
      · obtain ⟨v0, v1⟩ := HVF.out k hk
        have HS : Hid (valF h (k + 1) = valF h k * 13 + (if k < (useR h).length then (useR h).getD k 0 else 0)) := hide rfl
        obtain ⟨s0, s1⟩ := HVF.out (k + 1) (by omega)
        have HK := hide hlt
        have HXX := hide hX
        have i1 : (k : Int) < 5 := by omega
        have i0 : (0 : Int) ≤ (k : Int) := by omega
        generalize hvn : valF h (k + 1) = vn at *
        have HVN := hide hvn
        clear hvn
        generalize valF h k = vk at *
        have hw1 : IntKind.i64.wrap (vk * 13) = vk * 13 := by rw [IntKind.wrap_i64]; omega
        by_cases hl : k < (useR h).length
        · rw [if_pos hl] at HS
          obtain ⟨b, o, eA, hc⟩ := (HU.out.ext hX) k hl
          first | subst eA | (simp only [Option.some.injEq, Addr.mk.injEq, and_true] at eA; obtain ⟨rfl, rfl⟩ := eA)
          try rw [Nat.zero_add] at hc
          obtain ⟨u0, u1⟩ := HUB.out k
          have l1 : (k : Int) < ((ordR h).length : Int) := by have := HLEN.out; omega
          have l1n : k < (ordR h).length := by have := HLEN.out; omega
          clear hX hk hlt hl
          generalize (useR h).getD k 0 = uk at *
          have hw2 : IntKind.i64.wrap (vk * 13 + uk) = vk * 13 + uk := by rw [IntKind.wrap_i64]; omega
          go_wp2
          go_roundw
          case rel => exact ⟨k + 1, HK.out, by go_num, by rw [HVN.out, HS.out], HXX.out⟩
          case measure => have := HK.out; simp only [intOf, wrap64]; omega
        · rw [if_neg hl, Int.add_zero] at HS
          have l1 : decide ((k : Int) < ((ordR h).length : Int)) = false := by have := HLEN.out; simp; omega
          have l2 : ¬ k < (ordR h).length := by have := HLEN.out; omega
          have l3 : ¬ (k : Int) < ((ordR h).length : Int) := by have := HLEN.out; omega
          clear hX hk hlt hl
          go_wp2
          go_roundw
          case rel => exact ⟨k + 1, HK.out, by go_num, by rw [HVN.out, HS.out], HXX.out⟩
          case measure => have := HK.out; simp only [intOf, wrap64]; omega
      · obtain rfl : k = 5 := by omega
        have HXX := hide hX
        have HVR : Hid (valF h 5 = valR h) := hide rfl
        clear hX hk hlt
        go_wp2
        go_ret
        exact ⟨by rw [← HVR.out]; rfl, ext_trans X3.out HXX.out⟩
theorem rcheck_ok (A : Option Addr) (c : Nat) (h : List Int) (w : World) (h5 : h.length = 5) (hnc : 5 ≤ c) (hcm : c ≤ maxLen) (hz : IntsAt w A h) (hok : OkD h) :
    Calls Try.prog 47 #[.slice A 5 c] w fun e w' => e = .returned (.int .i64 0) ∧ w' = w := by
  have HCK := hide (Check_ok A 5 c h w h5 hnc hcm hz hok)
  clear hz hok hnc hcm h5
  go_enter Try.func47, Try.ntmps47
  go_wp2_with fail
  refine HCK.out.mono ?_
  rintro e w1 ⟨rfl, rfl⟩
  go_wp2
  go_ret
  exact ⟨rfl, rfl⟩
end Go.Proofs.Ytdoibgmmijhlfaa
