/- Walks: shifts, the laws BitsThere, BitsRays. -/
import Derived.DataShut
import Derived.Deep.Cut
import Derived.Test.YtpoepaiaehhloaaDoorRay
namespace Go.Proofs.YtpoepaiaehhloaaDoor
open Go.RowKit Go.Shelf
set_option linter.unusedVariables false
theorem and_not_none {x v : Nat} (hx : x < 18446744073709551616) (hv : v < 18446744073709551616) (h : x &&& v = x) : bits .andNot .u64 (x : Int) (v : Int) = 0 := by
  rw [u64_andNot_nat _ _ hx hv]
  have e : x &&& (18446744073709551615 - v) = 0 := by
    refine Nat.eq_of_testBit_eq fun i => ?_
    have hb : x.testBit i = (x.testBit i && v.testBit i) := by
      conv => lhs; rw [← h]
      exact Nat.testBit_and _ _ _
    have hs : (18446744073709551615 - v).testBit i = (decide (i < 64) && !(v.testBit i)) := by
      rw [show 18446744073709551615 - v = 2 ^ 64 - (v + 1) by rw [show (2 : Nat) ^ 64 = 18446744073709551616 from rfl]; omega]
      exact Nat.testBit_two_pow_sub_succ hv i
    rw [Nat.testBit_and, hs, Nat.zero_testBit]
    cases h1 : x.testBit i <;> cases h2 : v.testBit i <;> simp_all
  rw [e]
  rfl
theorem count_513 (w : World) : Calls Tryd.prog 13 #[.int .u64 513] w fun e w' => e = .returned (.int .i64 2) ∧ w = w' := by
  have h := count_any 513 (by omega) w
  rw [show pop 64 513 = 2 by decide +kernel] at h
  exact h
theorem ray_4 (w : World) (hT : Tab w) : Calls Tryd.prog 14 #[.int .i64 0, .int .i64 1, .int .i64 0, .int .u64 4] w fun e w' => e = .returned (.tuple #[.int .u64 6, .int .i64 0]) ∧ Below w.heap.size w w' := by
  refine (ray_ok 0 (by omega) 1 0 (by unfold badDir; omega) 4 (by omega) w hT).mono ?_
  rintro e w' ⟨res, rfl, hr, _, hb⟩
  rw [ray_sample hr]
  exact ⟨rfl, hb⟩
theorem shift_128 (w : World) (hT : Tab w) : Calls Tryd.prog 12 #[.int .u64 128, .int .i64 1, .int .i64 0] w fun e w' => e = .returned (.int .u64 0) ∧ Below w.heap.size w w' := by
  have h := shift_any 128 (by omega) 1 0 w hT
  rw [show shiftM 128 1 0 = 0 by decide +kernel] at h
  exact h
theorem shift_1 (w : World) (hT : Tab w) : Calls Tryd.prog 12 #[.int .u64 1, .int .i64 1, .int .i64 1] w fun e w' => e = .returned (.int .u64 512) ∧ Below w.heap.size w w' := by
  have h := shift_any 1 (by omega) 1 1 w hT
  rw [show shiftM 1 1 1 = 512 by decide +kernel] at h
  exact h
theorem below_next {n : Nat} {w W W' : World} (hn : n = w.heap.size) (h : Below n w W) (h' : Below W.heap.size W W') : Below n w W' := h.trans (h'.mono (by subst hn; exact h.size))
theorem shifts_any (w : World) (hT : Tab w) : Calls Tryd.prog 9 #[] w fun e w' => e = .returned (.bool true) ∧ Below w.heap.size w w' := by
  have HT := Lib.hid hT
  clear hT
  go_enter Tryd.func9, Tryd.ntmps9
  go_wp2_with fail
  refine (ray_4 _ HT.out).mono ?_
  rintro e w1 ⟨rfl, hb1⟩
  have HT1 := Lib.hid (tab_below HT.out HT.out.1 hb1)
  have HB1 := Lib.hid hb1
  clear hb1
  go_wp2_with fail
  refine (shift_128 _ HT1.out).mono ?_
  rintro e w2 ⟨rfl, hb2⟩
  have HT2 := Lib.hid (tab_below HT1.out HT1.out.1 hb2)
  have HB2 := Lib.hid (below_next rfl HB1.out hb2)
  clear hb2
  go_wp2_with fail
  refine (shift_1 _ HT2.out).mono ?_
  rintro e w3 ⟨rfl, hb3⟩
  have HB3 := Lib.hid (below_next rfl HB2.out hb3)
  clear hb3
  go_wp2_with fail
  go_ret
  exact ⟨rfl, HB3.out⟩
theorem mod9 (a X : Int) (h : wrap64 ((wrap64 (a.tmod 9 + 9)).tmod 9 - 4) = X) : wrap64 (-X) = -X ∧ IntKind.i64.wrap (-X) = -X := by
  have h1 := Int.tmod_lt_of_pos a (b := 9) (by omega)
  have h2 := Int.lt_tmod_of_pos a (b := 9) (by omega)
  have e : wrap64 (a.tmod 9 + 9) = a.tmod 9 + 9 := by unfold wrap64; omega
  rw [e] at h
  have h3 := Int.tmod_lt_of_pos (a.tmod 9 + 9) (b := 9) (by omega)
  have h4 := Int.tmod_nonneg (a := a.tmod 9 + 9) 9 (by omega)
  generalize (a.tmod 9 + 9).tmod 9 = u at *
  have e2 : X = u - 4 := by rw [← h]; unfold wrap64; omega
  subst e2
  rw [IntKind.wrap_i64]
  unfold wrap64
  omega
set_option maxHeartbeats 4000000 in
theorem bitsThere_law (b : Nat) (hb : b < 18446744073709551616) (dx dy : Int) (w : World) (hT : Tab w) : Calls Tryd.prog 4 #[.int .u64 (b : Int), .int .i64 dx, .int .i64 dy] w fun e w' => e = .returned (.bool true) ∧ Below w.heap.size w w' := by
  have HT := Lib.hid hT
  have HB := Lib.hid hb
  clear hT hb
  go_enter Tryd.func4, Tryd.ntmps4
  go_wp2_with fail
  refine (shifts_any _ HT.out).mono ?_
  rintro e w1 ⟨rfl, hb1⟩
  have HT1 := Lib.hid (tab_below HT.out HT.out.1 hb1)
  have HB1 := Lib.hid hb1
  clear hb1
  go_wp2_with fail
  refine (count_513 _).mono ?_
  rintro e w2 ⟨rfl, rfl⟩
  obtain ⟨X, hX⟩ : ∃ X, wrap64 ((wrap64 (dx.tmod 9 + 9)).tmod 9 - 4) = X := ⟨_, rfl⟩
  obtain ⟨Y, hY⟩ : ∃ Y, wrap64 ((wrap64 (dy.tmod 9 + 9)).tmod 9 - 4) = Y := ⟨_, rfl⟩
  obtain ⟨x1, x2⟩ := mod9 dx X hX
  obtain ⟨y1, y2⟩ := mod9 dy Y hY
  have S1 := Lib.hid (shift_any b HB.out X Y w1 HT1.out)
  have S2 := Lib.hid (fun W (hW : Tab W) => shift_any (shiftM b X Y) (shiftM_lt _ _ _) (-X) (-Y) W hW)
  have S3 := Lib.hid (fun W (hW : Tab W) => shift_any (shiftM (shiftM b X Y) (-X) (-Y)) (shiftM_lt _ _ _) X Y W hW)
  have N1 := Lib.hid (fun W => count_any (shiftM b X Y) (shiftM_lt _ _ _) W)
  have N2 := Lib.hid (fun W => count_any (shiftM (shiftM b X Y) (-X) (-Y)) (shiftM_lt _ _ _) W)
  have r0 : bits .andNot .u64 ((shiftM (shiftM b X Y) (-X) (-Y) : Nat) : Int) (b : Int) = 0 := and_not_none (shiftM_lt _ _ _) HB.out (back_sub b X Y)
  rw [back_to] at S3
  rw [back_count] at N2
  generalize shiftM (shiftM b X Y) (-X) (-Y) = B2 at *
  generalize shiftM b X Y = B1 at *
  generalize pop 64 B1 = cnt at *
  go_wp2_with fail
  refine S1.out.mono ?_
  rintro e w2 ⟨rfl, hb2⟩
  have HT2 := Lib.hid (tab_below HT1.out HT1.out.1 hb2)
  have HB2 := Lib.hid (below_next rfl HB1.out hb2)
  clear hb2
  go_wp2_with fail
  refine (S2.out _ HT2.out).mono ?_
  rintro e w3 ⟨rfl, hb3⟩
  have HT3 := Lib.hid (tab_below HT2.out HT2.out.1 hb3)
  have HB3 := Lib.hid (below_next rfl HB2.out hb3)
  clear hb3
  go_wp2_with fail
  refine (N2.out _).mono ?_
  rintro e w4 ⟨rfl, rfl⟩
  go_wp2_with fail
  refine (N1.out _).mono ?_
  rintro e w4 ⟨rfl, rfl⟩
  go_wp2_with fail
  refine (S3.out _ HT3.out).mono ?_
  rintro e w4 ⟨rfl, hb4⟩
  have HB4 := Lib.hid (below_next rfl HB3.out hb4)
  clear hb4
  go_wp2_with fail
  go_ret
  exact ⟨rfl, HB4.out⟩
theorem bitsThere_walk (a b c : Int) (w : World) (ha : (Lit.int .u64 a).wf = true) (_ : (Lit.int .i64 b).wf = true) (_ : (Lit.int .i64 c).wf = true) (hT : Tab w) : Calls Tryd.prog 4 #[.int .u64 a, .int .i64 b, .int .i64 c] w fun e w' => e = .returned (.bool true) ∧ Below w.heap.size w w' := by
  have h := (Lit.wf_int_iff _ _).1 ha
  obtain ⟨n, rfl⟩ := Int.eq_ofNat_of_zero_le (a := a) h.1
  exact bitsThere_law n (by have h1 : (n : Int) ≤ 18446744073709551615 := h.2; omega) b c w hT
end Go.Proofs.YtpoepaiaehhloaaDoor
