/- Walk: the law NimsumSums. -/
import Derived.Test.YthgbdonjheengaaNimZ
import Derived.Test.YthgbdonjheengaaLNimLimits
namespace Go.Proofs.Ythgbdonjheengaa
open Go.RowKit Go.Maps
set_option linter.unusedVariables false
def BoxP (a b : Nat) (x : Nat × Nat) : Prop := x.1 ≤ a ∧ x.2 ≤ b
theorem over_pair {a b most : Nat} (h : OverN (BoxP a b) most) : most + 1 ≤ (a + 1) * (b + 1) := by
  obtain ⟨L, h1, h2, h3⟩ := h
  have := nodup_len L ((List.range (a + 1)).flatMap fun i => (List.range (b + 1)).map fun j => (i, j)) h1 fun x hx => by
    obtain ⟨x1, x2⟩ := h3 x hx
    exact List.mem_flatMap.2 ⟨x.1, List.mem_range.2 (by omega), List.mem_map.2 ⟨x.2, List.mem_range.2 (by omega), rfl⟩⟩
  have hl := flat_len (f := fun i => (List.range (b + 1)).map fun j => (i, j)) (n := b + 1) (List.range (a + 1)) fun x _ => by simp
  rw [List.length_range] at hl
  omega
theorem boxP_closed (m n : Int) {a b : Nat} (ha : a ≤ 1000) (hb : b ≤ 1000) : ∀ x, BoxP a b x → OkP x ∧ ∀ t ∈ nxP m n x, BoxP a b t := fun x hx => ⟨⟨Nat.le_trans hx.1 ha, Nat.le_trans hx.2 hb⟩, fun t ht => by
  obtain ⟨x1, x2⟩ := x
  have hx1 : x1 ≤ a := hx.1
  have hx2 : x2 ≤ b := hx.2
  rcases List.mem_append.1 ht with ht | ht
  · obtain ⟨y, hy, rfl⟩ := List.mem_map.1 ht
    have : y < x1 := falls_heap m x1 y hy
    exact ⟨by show y ≤ a; omega, hx2⟩
  · obtain ⟨y, hy, rfl⟩ := List.mem_map.1 ht
    have : y < x2 := falls_heap n x2 y hy
    exact ⟨hx1, by show y ≤ b; omega⟩⟩
theorem pair_val (m n : Int) (a b most : Nat) (ha : a ≤ 1000) (hb : b ≤ 1000) (hm1 : (a + 1) * (b + 1) ≤ most) (hm : most ≤ 20000) (w : World) :
    Calls Try.prog 8 #[bothG m n, .agg #[.int .i64 (a : Int), .int .i64 (b : Int)], .int .i64 (most : Int)] w fun e w' => e = .returned (.tuple #[.int .i64 ((grH m a ^^^ grH n b : Nat) : Int), .int .i64 0]) ∧ Ext w w' := by
  have hpos : 1 ≤ (a + 1) * (b + 1) := Nat.mul_pos (Nat.succ_pos _) (Nat.succ_pos _)
  refine (valueP_of m n most (by omega) hm (BoxP a b) (boxP_closed m n ha hb) (a, b) ⟨Nat.le_refl _, Nat.le_refl _⟩ w).mono ?_
  rintro e w' ⟨x, ⟨he, _⟩ | ⟨_, ho⟩⟩
  · rw [grP_eq] at he
    exact ⟨he, x⟩
  · have := over_pair ho
    omega
theorem pair_12 (w : World) : Calls Try.prog 8 #[bothG 0 0, .agg #[.int .i64 1, .int .i64 2], .int .i64 100] w fun e w' => e = .returned (.tuple #[.int .i64 3, .int .i64 0]) ∧ Ext w w' := by
  have h := pair_val 0 0 1 2 100 (by decide) (by decide) (by decide) (by decide) w
  rw [show grH 0 1 ^^^ grH 0 2 = 3 by decide +kernel] at h
  exact h
set_option maxHeartbeats 4000000 in
set_option maxRecDepth 100000 in
theorem sums_law (a b m n M N : Int) (K L : Nat) (hK : (wrap64 (a.tmod 12 + 12)).tmod 12 = (K : Int)) (hL : (wrap64 (b.tmod 12 + 12)).tmod 12 = (L : Int)) (hM : (wrap64 (m.tmod 5 + 5)).tmod 5 = M) (hN : (wrap64 (n.tmod 5 + 5)).tmod 5 = N) (hk : K < 12) (hl : L < 12) (w : World) :
    Calls Try.prog 3 #[.int .i64 a, .int .i64 b, .int .i64 m, .int .i64 n] w fun e w' => e = .returned (.bool true) ∧ Ext w w' := by
  have hprod : (K + 1) * (L + 1) ≤ 12 * 12 := Nat.mul_le_mul (by omega) (by omega)
  have HP := Lib.hid (fun W => pair_val M N K L 1000 (by omega) (by omega) (by omega) (by decide) W)
  have HA := Lib.hid (fun W => heap_val M 100 K (by omega) (by decide) W)
  have HB := Lib.hid (fun W => heap_val N 100 L (by omega) (by decide) W)
  have hga := grH_le M K
  have hgb := grH_le N L
  have HS := Lib.hid (fun W (g : Nat) (h : Blk W g 3 #[.int .i64 (grH M K : Int), .int .i64 (grH N L : Int)]) => sum_any [grH M K, grH N L] (by simp) (fun x hx => by
    rcases List.mem_cons.1 hx with rfl | hx
    · omega
    · obtain rfl := List.mem_singleton.1 hx; omega) (some ⟨g, 0, none⟩) 2 W (blk_zs h))
  rw [show xorN [grH M K, grH N L] = grH M K ^^^ grH N L by rw [xorN_cons, xorN_cons]; show grH M K ^^^ (grH N L ^^^ 0) = _; rw [Nat.xor_zero]] at HS
  clear hprod hk hl hga hgb
  go_enter Try.func3, Try.ntmps3
  go_wp2_with fail
  refine (pair_12 _).mono ?_
  rintro e w2 ⟨rfl, x⟩
  have X := x
  clear x
  go_wp2_with fail
  refine (summed_any _).mono ?_
  rintro e w3 ⟨rfl, x⟩
  replace X := ext_trans X x
  clear x
  obtain ⟨xa, k1⟩ := blks1 w3 #[heapG M, heapG N] 32
  replace X := ext_trans X xa
  clear xa
  go_upto_region 6 with fail
  generalize (w3.alloc (.cells #[heapG M, heapG N] 32)) = w4 at *
  generalize w3.heap.size = B1 at *
  have f1 := k1.cell
  go_wp2_with fail
  refine (HP.out _).mono ?_
  rintro e w5 ⟨rfl, x⟩
  replace k1 := k1.ext x
  replace X := ext_trans X x
  replace f1 := k1.cell
  clear x
  clear f1
  clear k1
  go_wp2_with fail
  refine (HA.out _).mono ?_
  rintro e w6 ⟨rfl, x⟩
  replace X := ext_trans X x
  clear x
  go_wp2_with fail
  refine (HB.out _).mono ?_
  rintro e w7 ⟨rfl, x⟩
  replace X := ext_trans X x
  clear x
  clear HP HA HB
  generalize grH M K ^^^ grH N L = gx at *
  generalize grH M K = ga at *
  generalize grH N L = gb at *
  obtain ⟨xa, k2⟩ := blks1 w7 #[.int .i64 0, .int .i64 0, .int .i64 0] 22
  replace X := ext_trans X xa
  clear xa
  go_wp2_with fail
  generalize (w7.alloc (.cells #[.int .i64 0, .int .i64 0, .int .i64 0] 22)) = w8 at *
  generalize w7.heap.size = B2 at *
  refine (fine3 k2).mono ?_
  rintro e w9 ⟨rfl, rfl⟩
  clear k2
  obtain ⟨xa, k3⟩ := blks1 w8 #[.int .i64 (ga : Int), .int .i64 (gb : Int)] 3
  replace X := ext_trans X xa
  clear xa
  go_wp2_with fail
  generalize (w8.alloc (.cells #[.int .i64 (ga : Int), .int .i64 (gb : Int)] 3)) = w9 at *
  generalize w8.heap.size = B3 at *
  refine (HS.out _ _ k3).mono ?_
  rintro e w9 ⟨rfl, rfl⟩
  have t9 : ((gx : Int) == (gx : Int)) = true := beq_self_eq_true _
  clear k3
  have XX := Lib.hid X
  clear X HS
  go_wp2
  go_ret
  exact ⟨by first | rfl | simp, XX.out⟩
theorem nimsumSums_law (a b m n : Int) (w : World) : Calls Try.prog 3 #[.int .i64 a, .int .i64 b, .int .i64 m, .int .i64 n] w fun e w' => e = .returned (.bool true) ∧ Ext w w' := by
  obtain ⟨K0, hK0⟩ : ∃ K, (wrap64 (a.tmod 12 + 12)).tmod 12 = K := ⟨_, rfl⟩
  obtain ⟨k0, k1⟩ := some_modN 12 (by omega) (by omega) a K0 hK0
  obtain ⟨K, rfl⟩ := Int.eq_ofNat_of_zero_le k0
  obtain ⟨L0, hL0⟩ : ∃ K, (wrap64 (b.tmod 12 + 12)).tmod 12 = K := ⟨_, rfl⟩
  obtain ⟨l0, l1⟩ := some_modN 12 (by omega) (by omega) b L0 hL0
  obtain ⟨L, rfl⟩ := Int.eq_ofNat_of_zero_le l0
  obtain ⟨M, hM⟩ : ∃ K, (wrap64 (m.tmod 5 + 5)).tmod 5 = K := ⟨_, rfl⟩
  obtain ⟨N, hN⟩ : ∃ K, (wrap64 (n.tmod 5 + 5)).tmod 5 = K := ⟨_, rfl⟩
  exact sums_law a b m n M N K L hK0 hL0 hM hN (by omega) (by omega) w
end Go.Proofs.Ythgbdonjheengaa
