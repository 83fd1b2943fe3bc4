/- Walk: the law NimsumWins. -/
import Derived.Test.YthgbdonjheengaaNimY
import Derived.Test.YthgbdonjheengaaLNimLimits
namespace Go.Proofs.Ythgbdonjheengaa
open Go.RowKit Go.Maps
set_option linter.unusedVariables false
theorem wins_25 (w : World) : Calls Try.prog 16 #[heapG 2, .int .i64 5, .int .i64 100] w fun e w' => e = .returned (.tuple #[.int .i64 3, .int .i64 0]) ∧ Ext w w' := by
  refine (wins_any 2 100 5 (by decide) (by decide) w).mono ?_
  have h4 : grH 2 4 = 1 := by decide +kernel
  have h3 : grH 2 3 = 0 := by decide +kernel
  have hn : nxH 2 5 = [4, 3] := by decide +kernel
  rintro e w' ⟨x, ⟨t, ht, h0, rfl⟩ | ⟨h0, rfl⟩⟩
  · rw [hn] at ht
    rcases List.mem_cons.1 ht with rfl | ht
    · rw [h4] at h0; omega
    · obtain rfl := List.mem_singleton.1 ht
      exact ⟨rfl, x⟩
  · exact absurd h3 (h0 3 (by rw [hn]; simp))
theorem gr_zero {m : Int} {n t : Nat} (ht : t ∈ nxH m n) (h : grH m t = 0) : grH m n ≠ 0 := fun h0 => by
  have := (gr_is (falls_heap m) n).1
  rw [show gr (nxH m) id n = 0 from h0] at this
  exact this (List.mem_map.2 ⟨t, ht, h⟩)
theorem gr_none {m : Int} {n : Nat} (h : ∀ t ∈ nxH m n, grH m t ≠ 0) : grH m n = 0 := by
  refine Classical.byContradiction fun hne => ?_
  have hne' : grH m n ≠ 0 := hne
  obtain ⟨t, ht, h0⟩ := List.mem_map.1 ((gr_is (falls_heap m) n).2 0 (Nat.pos_of_ne_zero hne'))
  exact h t ht h0
set_option maxHeartbeats 4000000 in
set_option maxRecDepth 100000 in
theorem wins_law (n most m : Int) (K : Nat) (hK : (wrap64 (n.tmod 60 + 60)).tmod 60 = (K : Int)) (hM : (wrap64 (most.tmod 9 + 9)).tmod 9 = m) (hk : K < 60) (w : World) :
    Calls Try.prog 6 #[.int .i64 n, .int .i64 most] w fun e w' => e = .returned (.bool true) ∧ Ext w w' := by
  have HV := Lib.hid (fun W => heap_val m 100 K (by omega) (by decide) W)
  have HW := Lib.hid (fun W => wins_any m 100 K (by omega) (by decide) W)
  have HVT := Lib.hid (fun (t : Nat) (ht : t ∈ nxH m K) W => heap_val m 100 t (by have : t < K := falls_heap m K t ht; omega) (by decide) W)
  have HNX := Lib.hid (fun W => heap_next m K (by omega) W)
  have HLN := Lib.hid (show (nxH m K).length ≤ 1000000 by rw [nxH_take]; simp [cntH]; split <;> omega)
  clear hk
  go_enter Try.func6, Try.ntmps6
  go_wp2_with fail
  refine (wins_25 _).mono ?_
  rintro e w2 ⟨rfl, x⟩
  have X := x
  clear x
  go_wp2_with fail
  refine (summed_any _).mono ?_
  rintro e w3 ⟨rfl, x⟩
  replace X := ext_trans X x
  clear x
  obtain ⟨xa, k1⟩ := blks1 w3 #[.int .i64 m] 28
  replace X := ext_trans X xa
  clear xa
  go_upto_region 6 with fail
  generalize (w3.alloc (.cells #[.int .i64 m] 28)) = w4 at *
  generalize w3.heap.size = B1 at *
  have f1 := k1.cell
  go_wp2_with fail
  refine (HV.out _).mono ?_
  rintro e w5 ⟨rfl, x⟩
  replace k1 := k1.ext x
  replace X := ext_trans X x
  replace f1 := k1.cell
  clear x
  go_wp2_with fail
  refine (HW.out _).mono ?_
  rintro e w9 ⟨x, ⟨t, ht, h0, rfl⟩ | ⟨h0, rfl⟩⟩
  · skip
    have HT := Lib.hid ht
    have HVT2 := Lib.hid (HVT.out t ht)
    rw [h0] at HVT2
    have hg := gr_zero ht h0
    have t1 : ((grH m K : Int) != 0) = true := by simp; omega
    clear ht h0 hg HVT
    replace k1 := k1.ext x
    replace X := ext_trans X x
    replace f1 := k1.cell
    clear x
    generalize grH m K = gk at *
    go_wp2_with fail
    refine (HVT2.out _).mono ?_
    rintro e w21 ⟨rfl, x⟩
    replace k1 := k1.ext x
    replace X := ext_trans X x
    replace f1 := k1.cell
    clear x
    obtain ⟨xa, k2⟩ := blks1 w21 #[.int .i64 0, .int .i64 0] 22
    replace k1 := k1.ext xa
    replace X := ext_trans X xa
    have f1' := k1.cell
    clear xa
    go_wp2_with fail
    generalize (w21.alloc (.cells #[.int .i64 0, .int .i64 0] 22)) = w22 at *
    generalize w21.heap.size = B2 at *
    replace f1 := k1.cell
    clear f1'
    refine (fine2 k2).mono ?_
    rintro e w8 ⟨rfl, rfl⟩
    clear k2
    go_wp2_with fail
    refine (HNX.out _).mono ?_
    rintro e w23 ⟨v2, rfl, own2, x⟩
    replace k1 := k1.ext x
    replace X := ext_trans X x
    replace f1 := k1.cell
    clear x
    obtain ⟨A2, d2, rfl, k2, -, -, -⟩ := own2.cells
    have HHI := Lib.hid (fun W => has_in (nxH m K) t HT.out HLN.out A2 d2 W)
    have HK2 := Lib.hid k2
    clear own2 k2
    go_wp2_with fail
    refine (HHI.out _ HK2.out).mono ?_
    rintro e w8 ⟨rfl, rfl⟩
    have XX := Lib.hid X
    clear X HHI HK2
    go_wp2
    go_ret
    exact ⟨by first | rfl | simp, XX.out⟩
  · skip
    rw [gr_none h0]
    clear h0 HVT HNX
    replace k1 := k1.ext x
    replace X := ext_trans X x
    replace f1 := k1.cell
    have XX := Lib.hid X
    clear x X
    go_wp2
    go_ret
    exact ⟨by first | rfl | simp, XX.out⟩
theorem nimsumWins_law (n most : Int) (w : World) : Calls Try.prog 6 #[.int .i64 n, .int .i64 most] w fun e w' => e = .returned (.bool true) ∧ Ext w w' := by
  obtain ⟨K0, hK0⟩ : ∃ K, (wrap64 (n.tmod 60 + 60)).tmod 60 = K := ⟨_, rfl⟩
  obtain ⟨k0, k1⟩ := some_modN 60 (by omega) (by omega) n K0 hK0
  obtain ⟨K, rfl⟩ := Int.eq_ofNat_of_zero_le k0
  obtain ⟨M, hM⟩ : ∃ K, (wrap64 (most.tmod 9 + 9)).tmod 9 = K := ⟨_, rfl⟩
  exact wins_law n most M K hK0 hM (by omega) w
end Go.Proofs.Ythgbdonjheengaa
