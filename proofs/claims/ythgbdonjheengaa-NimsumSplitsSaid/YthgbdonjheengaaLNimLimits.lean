/- Walk: the law NimsumLimits. -/
import Derived.Test.YthgbdonjheengaaNimX
namespace Go.Proofs.Ythgbdonjheengaa
open Go.RowKit Go.Maps
set_option linter.unusedVariables false
theorem some_modN (n : Int) (hn : 1 ≤ n) (hb : n ≤ 1000) (a K : Int) (h : (wrap64 (a.tmod n + n)).tmod n = K) : 0 ≤ K ∧ K < n := by
  have h1 : -n < a.tmod n ∧ a.tmod n < n := by
    have x := Int.tmod_lt_of_pos a (show 0 < n by omega)
    refine ⟨?_, x⟩
    have b := Int.tmod_lt_of_pos (-a) (show 0 < n by omega)
    rw [Int.neg_tmod] at b
    omega
  have e : wrap64 (a.tmod n + n) = a.tmod n + n := by unfold wrap64; omega
  rw [e] at h
  rw [← h]
  exact ⟨Int.tmod_nonneg _ (by omega), Int.tmod_lt_of_pos _ (by omega)⟩
theorem closed_all {n : Nat} {F : List Nat} (hc : ClosedN (nxH 0) F) (hn : n ∈ F) : ∀ k, k ≤ n → n - k ∈ F
  | 0, _ => hn
  | k + 1, hk => by
    have ih := closed_all hc hn k (by omega)
    refine hc _ ih _ (List.mem_map.2 ⟨0, List.mem_range.2 ?_, by omega⟩)
    rw [if_pos (by decide)]
    omega
theorem heap_bound (most n : Nat) (h1 : 1 ≤ most) (hn : most ≤ n) (hn2 : n ≤ 20000) (w : World) : Calls Try.prog 10 #[heapG 0, .int .i64 (n : Int), .int .i64 (most : Int)] w fun e w' => e = .returned (.tuple #[.int .i64 0, .int .i64 17]) ∧ Ext w w' := by
  refine (valueI_of 0 most h1 (by omega) (fun x => x ≤ n) (heapP 0 hn2) n (Nat.le_refl _) w).mono ?_
  rintro e w' ⟨x, ⟨_, F, f1, f2, f3, f4⟩ | ⟨he, _⟩⟩
  · have := nodup_len (List.range (n + 1)) F List.nodup_range fun x hx => by
      have hx := List.mem_range.1 hx
      have := closed_all f3 f4 (n - x) (by omega)
      rwa [show n - (n - x) = x by omega] at this
    rw [List.length_range] at this
    omega
  · exact ⟨he, x⟩
theorem start_bad (m s most : Int) (h : most < 1 ∨ 20000 < most) (w : World) : Calls Try.prog 22 #[heapG m, .int .i64 s, .int .i64 most] w fun e w' => e = .returned (.tuple #[.pointer none, .int .i64 0, .int .i64 1]) ∧ w = w' := by
  by_cases h1 : most < 1
  · have t1 : decide (most < 1) = true := decide_eq_true h1
    clear h h1
    go_enter Try.func22, Try.ntmps22
    go_wp2
    refine bodyPost_ret (v := .tuple #[.pointer none, .int .i64 0, .int .i64 1]) (by simp [results, Try.results22, go_sem]) rfl ?_
    exact ⟨rfl, rfl⟩
  · have t1 : decide (most < 1) = false := decide_eq_false h1
    have t2 : decide (20000 < most) = true := decide_eq_true (by omega)
    clear h h1
    go_enter Try.func22, Try.ntmps22
    go_wp2
    refine bodyPost_ret (v := .tuple #[.pointer none, .int .i64 0, .int .i64 1]) (by simp [results, Try.results22, go_sem]) rfl ?_
    exact ⟨rfl, rfl⟩
theorem value_bad (m s most : Int) (h : most < 1 ∨ 20000 < most) (w : World) : Calls Try.prog 10 #[heapG m, .int .i64 s, .int .i64 most] w fun e w' => e = .returned (.tuple #[.int .i64 0, .int .i64 1]) ∧ Ext w w' := by
  have HS := Lib.hid (start_bad m s most h w)
  clear h
  go_enter Try.func10, Try.ntmps10
  go_wp2_with fail
  refine HS.out.mono ?_
  rintro e w1 ⟨rfl, rfl⟩
  go_wp2
  go_ret2
  exact ⟨rfl, Below.refl _ _⟩
theorem bound_55 (w : World) : Calls Try.prog 10 #[heapG 0, .int .i64 5, .int .i64 5] w fun e w' => e = .returned (.tuple #[.int .i64 0, .int .i64 17]) ∧ Ext w w' := heap_bound 5 5 (by decide) (by decide) (by decide) w
set_option maxHeartbeats 2000000 in
set_option maxRecDepth 100000 in
theorem limits_big_low (n most : Int) (K : Nat) (hK : (wrap64 (n.tmod 60 + 60)).tmod 60 = (K : Int)) (hk : K < 60) (hb : 20000 < n) (hm : most < 1) (w : World) :
    Calls Try.prog 5 #[.int .i64 n, .int .i64 most] w fun e w' => e = .returned (.bool true) ∧ Ext w w' := by
  have s0 : decide ((20000 : Int) < n) = true := decide_eq_true hb
  have HNX := Lib.hid (fun W => heap_large 0 n hb W)
  have HV := Lib.hid (fun W => value_bad 0 (K : Int) most (.inl hm) W)
  have s1 : decide (most < 1) = true := decide_eq_true hm
  clear hm
  have k60 : (K : Int) < 60 := by omega
  clear hb hk
  go_enter Try.func5, Try.ntmps5
  go_wp2_with fail
  refine (bound_55 _).mono ?_
  rintro e w2 ⟨rfl, x⟩
  have X := x
  clear x
  go_wp2_with fail
  refine (summed_any _).mono ?_
  rintro e w3 ⟨rfl, x⟩
  replace X := ext_trans X x
  clear x
  go_wp2_with fail
  refine (HNX.out _).mono ?_
  rintro e w4 ⟨rfl, x⟩
  replace X := ext_trans X x
  clear x
  go_wp2_with fail
  refine (HV.out _).mono ?_
  rintro e w5 ⟨rfl, x⟩
  replace X := ext_trans X x
  clear x
  have XX := Lib.hid X
  clear X HV
  go_wp2
  all_goals go_ret
  all_goals exact ⟨by first | rfl | simp, XX.out⟩
set_option maxHeartbeats 2000000 in
set_option maxRecDepth 100000 in
theorem limits_big_high (n most : Int) (K : Nat) (hK : (wrap64 (n.tmod 60 + 60)).tmod 60 = (K : Int)) (hk : K < 60) (hb : 20000 < n) (hm : ¬ most < 1) (hm2 : 20000 < most) (w : World) :
    Calls Try.prog 5 #[.int .i64 n, .int .i64 most] w fun e w' => e = .returned (.bool true) ∧ Ext w w' := by
  have s0 : decide ((20000 : Int) < n) = true := decide_eq_true hb
  have HNX := Lib.hid (fun W => heap_large 0 n hb W)
  have HV := Lib.hid (fun W => value_bad 0 (K : Int) most (.inr hm2) W)
  have s1 : decide (most < 1) = false := decide_eq_false hm
  have s2 : decide ((20000 : Int) < most) = true := decide_eq_true hm2
  clear hm hm2
  have k60 : (K : Int) < 60 := by omega
  clear hb hk
  go_enter Try.func5, Try.ntmps5
  go_wp2_with fail
  refine (bound_55 _).mono ?_
  rintro e w2 ⟨rfl, x⟩
  have X := x
  clear x
  go_wp2_with fail
  refine (summed_any _).mono ?_
  rintro e w3 ⟨rfl, x⟩
  replace X := ext_trans X x
  clear x
  go_wp2_with fail
  refine (HNX.out _).mono ?_
  rintro e w4 ⟨rfl, x⟩
  replace X := ext_trans X x
  clear x
  go_wp2_with fail
  refine (HV.out _).mono ?_
  rintro e w5 ⟨rfl, x⟩
  replace X := ext_trans X x
  clear x
  have XX := Lib.hid X
  clear X HV
  go_wp2
  all_goals go_ret
  all_goals exact ⟨by first | rfl | simp, XX.out⟩
set_option maxHeartbeats 2000000 in
set_option maxRecDepth 100000 in
theorem limits_big_bound (n most : Int) (K : Nat) (hK : (wrap64 (n.tmod 60 + 60)).tmod 60 = (K : Int)) (hk : K < 60) (hb : 20000 < n) (q : Nat) (hq : most = (q : Int)) (hm : 1 ≤ q) (hm2 : q ≤ 20000) (hm3 : q ≤ K) (w : World) :
    Calls Try.prog 5 #[.int .i64 n, .int .i64 most] w fun e w' => e = .returned (.bool true) ∧ Ext w w' := by
  have s0 : decide ((20000 : Int) < n) = true := decide_eq_true hb
  have HNX := Lib.hid (fun W => heap_large 0 n hb W)
  subst hq
  have s1 : decide ((q : Int) < 1) = false := decide_eq_false (by omega)
  have s2 : decide ((20000 : Int) < (q : Int)) = false := decide_eq_false (by omega)
  have s3 : decide ((q : Int) < (K : Int) + 1) = true := decide_eq_true (by omega)
  have HV := Lib.hid (fun W => heap_bound q K hm hm3 (by omega) W)
  clear hm hm2 hm3
  have k60 : (K : Int) < 60 := by omega
  clear hb hk
  go_enter Try.func5, Try.ntmps5
  go_wp2_with fail
  refine (bound_55 _).mono ?_
  rintro e w2 ⟨rfl, x⟩
  have X := x
  clear x
  go_wp2_with fail
  refine (summed_any _).mono ?_
  rintro e w3 ⟨rfl, x⟩
  replace X := ext_trans X x
  clear x
  go_wp2_with fail
  refine (HNX.out _).mono ?_
  rintro e w4 ⟨rfl, x⟩
  replace X := ext_trans X x
  clear x
  go_wp2_with fail
  refine (HV.out _).mono ?_
  rintro e w5 ⟨rfl, x⟩
  replace X := ext_trans X x
  clear x
  have XX := Lib.hid X
  clear X HV
  go_wp2
  all_goals go_ret
  all_goals exact ⟨by first | rfl | simp, XX.out⟩
set_option maxHeartbeats 2000000 in
set_option maxRecDepth 100000 in
theorem limits_big_ok (n most : Int) (K : Nat) (hK : (wrap64 (n.tmod 60 + 60)).tmod 60 = (K : Int)) (hk : K < 60) (hb : 20000 < n) (q : Nat) (hq : most = (q : Int)) (hm : 1 ≤ q) (hm2 : q ≤ 20000) (hm3 : K < q) (w : World) :
    Calls Try.prog 5 #[.int .i64 n, .int .i64 most] w fun e w' => e = .returned (.bool true) ∧ Ext w w' := by
  have s0 : decide ((20000 : Int) < n) = true := decide_eq_true hb
  have HNX := Lib.hid (fun W => heap_large 0 n hb W)
  subst hq
  have s1 : decide ((q : Int) < 1) = false := decide_eq_false (by omega)
  have s2 : decide ((20000 : Int) < (q : Int)) = false := decide_eq_false (by omega)
  have s3 : decide ((q : Int) < (K : Int) + 1) = false := decide_eq_false (by omega)
  have HV := Lib.hid (fun W => heap_val 0 q K hm3 hm2 W)
  generalize grH 0 K = gv at *
  clear hm hm2 hm3
  have k60 : (K : Int) < 60 := by omega
  clear hb hk
  go_enter Try.func5, Try.ntmps5
  go_wp2_with fail
  refine (bound_55 _).mono ?_
  rintro e w2 ⟨rfl, x⟩
  have X := x
  clear x
  go_wp2_with fail
  refine (summed_any _).mono ?_
  rintro e w3 ⟨rfl, x⟩
  replace X := ext_trans X x
  clear x
  go_wp2_with fail
  refine (HNX.out _).mono ?_
  rintro e w4 ⟨rfl, x⟩
  replace X := ext_trans X x
  clear x
  go_wp2_with fail
  refine (HV.out _).mono ?_
  rintro e w5 ⟨rfl, x⟩
  replace X := ext_trans X x
  clear x
  have XX := Lib.hid X
  clear X HV
  go_wp2
  all_goals go_ret
  all_goals exact ⟨by first | rfl | simp, XX.out⟩
set_option maxHeartbeats 2000000 in
set_option maxRecDepth 100000 in
theorem limits_small_low (n most : Int) (K : Nat) (hK : (wrap64 (n.tmod 60 + 60)).tmod 60 = (K : Int)) (hk : K < 60) (hb : ¬ 20000 < n) (hm : most < 1) (w : World) :
    Calls Try.prog 5 #[.int .i64 n, .int .i64 most] w fun e w' => e = .returned (.bool true) ∧ Ext w w' := by
  have s0 : decide ((20000 : Int) < n) = false := decide_eq_false hb
  have HV := Lib.hid (fun W => value_bad 0 (K : Int) most (.inl hm) W)
  have s1 : decide (most < 1) = true := decide_eq_true hm
  clear hm
  have k60 : (K : Int) < 60 := by omega
  clear hb hk
  go_enter Try.func5, Try.ntmps5
  go_wp2_with fail
  refine (bound_55 _).mono ?_
  rintro e w2 ⟨rfl, x⟩
  have X := x
  clear x
  go_wp2_with fail
  refine (summed_any _).mono ?_
  rintro e w3 ⟨rfl, x⟩
  replace X := ext_trans X x
  clear x
  go_wp2_with fail
  refine (HV.out _).mono ?_
  rintro e w4 ⟨rfl, x⟩
  replace X := ext_trans X x
  clear x
  have XX := Lib.hid X
  clear X HV
  go_wp2
  all_goals go_ret
  all_goals exact ⟨by first | rfl | simp, XX.out⟩
set_option maxHeartbeats 2000000 in
set_option maxRecDepth 100000 in
theorem limits_small_high (n most : Int) (K : Nat) (hK : (wrap64 (n.tmod 60 + 60)).tmod 60 = (K : Int)) (hk : K < 60) (hb : ¬ 20000 < n) (hm : ¬ most < 1) (hm2 : 20000 < most) (w : World) :
    Calls Try.prog 5 #[.int .i64 n, .int .i64 most] w fun e w' => e = .returned (.bool true) ∧ Ext w w' := by
  have s0 : decide ((20000 : Int) < n) = false := decide_eq_false hb
  have HV := Lib.hid (fun W => value_bad 0 (K : Int) most (.inr hm2) W)
  have s1 : decide (most < 1) = false := decide_eq_false hm
  have s2 : decide ((20000 : Int) < most) = true := decide_eq_true hm2
  clear hm hm2
  have k60 : (K : Int) < 60 := by omega
  clear hb hk
  go_enter Try.func5, Try.ntmps5
  go_wp2_with fail
  refine (bound_55 _).mono ?_
  rintro e w2 ⟨rfl, x⟩
  have X := x
  clear x
  go_wp2_with fail
  refine (summed_any _).mono ?_
  rintro e w3 ⟨rfl, x⟩
  replace X := ext_trans X x
  clear x
  go_wp2_with fail
  refine (HV.out _).mono ?_
  rintro e w4 ⟨rfl, x⟩
  replace X := ext_trans X x
  clear x
  have XX := Lib.hid X
  clear X HV
  go_wp2
  all_goals go_ret
  all_goals exact ⟨by first | rfl | simp, XX.out⟩
set_option maxHeartbeats 2000000 in
set_option maxRecDepth 100000 in
theorem limits_small_bound (n most : Int) (K : Nat) (hK : (wrap64 (n.tmod 60 + 60)).tmod 60 = (K : Int)) (hk : K < 60) (hb : ¬ 20000 < n) (q : Nat) (hq : most = (q : Int)) (hm : 1 ≤ q) (hm2 : q ≤ 20000) (hm3 : q ≤ K) (w : World) :
    Calls Try.prog 5 #[.int .i64 n, .int .i64 most] w fun e w' => e = .returned (.bool true) ∧ Ext w w' := by
  have s0 : decide ((20000 : Int) < n) = false := decide_eq_false hb
  subst hq
  have s1 : decide ((q : Int) < 1) = false := decide_eq_false (by omega)
  have s2 : decide ((20000 : Int) < (q : Int)) = false := decide_eq_false (by omega)
  have s3 : decide ((q : Int) < (K : Int) + 1) = true := decide_eq_true (by omega)
  have HV := Lib.hid (fun W => heap_bound q K hm hm3 (by omega) W)
  clear hm hm2 hm3
  have k60 : (K : Int) < 60 := by omega
  clear hb hk
  go_enter Try.func5, Try.ntmps5
  go_wp2_with fail
  refine (bound_55 _).mono ?_
  rintro e w2 ⟨rfl, x⟩
  have X := x
  clear x
  go_wp2_with fail
  refine (summed_any _).mono ?_
  rintro e w3 ⟨rfl, x⟩
  replace X := ext_trans X x
  clear x
  go_wp2_with fail
  refine (HV.out _).mono ?_
  rintro e w4 ⟨rfl, x⟩
  replace X := ext_trans X x
  clear x
  have XX := Lib.hid X
  clear X HV
  go_wp2
  all_goals go_ret
  all_goals exact ⟨by first | rfl | simp, XX.out⟩
set_option maxHeartbeats 2000000 in
set_option maxRecDepth 100000 in
theorem limits_small_ok (n most : Int) (K : Nat) (hK : (wrap64 (n.tmod 60 + 60)).tmod 60 = (K : Int)) (hk : K < 60) (hb : ¬ 20000 < n) (q : Nat) (hq : most = (q : Int)) (hm : 1 ≤ q) (hm2 : q ≤ 20000) (hm3 : K < q) (w : World) :
    Calls Try.prog 5 #[.int .i64 n, .int .i64 most] w fun e w' => e = .returned (.bool true) ∧ Ext w w' := by
  have s0 : decide ((20000 : Int) < n) = false := decide_eq_false hb
  subst hq
  have s1 : decide ((q : Int) < 1) = false := decide_eq_false (by omega)
  have s2 : decide ((20000 : Int) < (q : Int)) = false := decide_eq_false (by omega)
  have s3 : decide ((q : Int) < (K : Int) + 1) = false := decide_eq_false (by omega)
  have HV := Lib.hid (fun W => heap_val 0 q K hm3 hm2 W)
  generalize grH 0 K = gv at *
  clear hm hm2 hm3
  have k60 : (K : Int) < 60 := by omega
  clear hb hk
  go_enter Try.func5, Try.ntmps5
  go_wp2_with fail
  refine (bound_55 _).mono ?_
  rintro e w2 ⟨rfl, x⟩
  have X := x
  clear x
  go_wp2_with fail
  refine (summed_any _).mono ?_
  rintro e w3 ⟨rfl, x⟩
  replace X := ext_trans X x
  clear x
  go_wp2_with fail
  refine (HV.out _).mono ?_
  rintro e w4 ⟨rfl, x⟩
  replace X := ext_trans X x
  clear x
  have XX := Lib.hid X
  clear X HV
  go_wp2
  all_goals go_ret
  all_goals exact ⟨by first | rfl | simp, XX.out⟩
theorem nimsumLimits_law (n most : Int) (w : World) : Calls Try.prog 5 #[.int .i64 n, .int .i64 most] w fun e w' => e = .returned (.bool true) ∧ Ext w w' := by
  obtain ⟨K0, hK0⟩ : ∃ K, (wrap64 (n.tmod 60 + 60)).tmod 60 = K := ⟨_, rfl⟩
  obtain ⟨k0, k1⟩ := some_modN 60 (by omega) (by omega) n K0 hK0
  obtain ⟨K, rfl⟩ := Int.eq_ofNat_of_zero_le k0
  have hk : K < 60 := by omega
  by_cases hb : 20000 < n
  · by_cases hm : most < 1
    · exact limits_big_low n most K hK0 hk hb hm w
    · by_cases hm2 : 20000 < most
      · exact limits_big_high n most K hK0 hk hb hm hm2 w
      · obtain ⟨q, hq⟩ := Int.eq_ofNat_of_zero_le (show 0 ≤ most by omega)
        have hq' : most = (q : Int) := hq
        by_cases hm3 : q ≤ K
        · exact limits_big_bound n most K hK0 hk hb q hq' (by omega) (by omega) hm3 w
        · exact limits_big_ok n most K hK0 hk hb q hq' (by omega) (by omega) (by omega) w
  · by_cases hm : most < 1
    · exact limits_small_low n most K hK0 hk hb hm w
    · by_cases hm2 : 20000 < most
      · exact limits_small_high n most K hK0 hk hb hm hm2 w
      · obtain ⟨q, hq⟩ := Int.eq_ofNat_of_zero_le (show 0 ≤ most by omega)
        have hq' : most = (q : Int) := hq
        by_cases hm3 : q ≤ K
        · exact limits_small_bound n most K hK0 hk hb q hq' (by omega) (by omega) hm3 w
        · exact limits_small_ok n most K hK0 hk hb q hq' (by omega) (by omega) (by omega) w

end Go.Proofs.Ythgbdonjheengaa
