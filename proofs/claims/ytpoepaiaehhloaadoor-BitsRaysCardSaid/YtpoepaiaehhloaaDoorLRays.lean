/- Walk: the law BitsRays. -/
import Derived.Test.YtpoepaiaehhloaaDoorLThere
namespace Go.Proofs.YtpoepaiaehhloaaDoor
open Go.RowKit Go.Shelf
set_option linter.unusedVariables false
theorem bitsRays_bad (k : Int) (hk : k = 4 ∨ k = 1) (sq dx dy occ more : Int) (w : World) (hT : Tab w)
    (hR : ∀ (o : Int) (W : World), Calls Tryd.prog 14 #[.int .i64 sq, .int .i64 dx, .int .i64 dy, .int .u64 o] W fun e w' => e = .returned (.tuple #[.int .u64 0, .int .i64 k]) ∧ W = w') :
    Calls Tryd.prog 5 #[.int .i64 sq, .int .i64 dx, .int .i64 dy, .int .u64 occ, .int .u64 more] w fun e w' => e = .returned (.bool true) ∧ Below w.heap.size w w' := by
  have HT := Lib.hid hT
  have HR := Lib.hid hR
  have t0 : (k != 0) = true := by rcases hk with rfl | rfl <;> rfl
  have t1 : (k == k) = true := beq_self_eq_true k
  clear hT hR hk
  go_enter Tryd.func5, Tryd.ntmps5
  go_wp2_with fail
  refine (shifts_any _ HT.out).mono ?_
  rintro e w1 ⟨rfl, hb1⟩
  have HB1 := Lib.hid hb1
  clear hb1
  go_wp2_with fail
  refine (HR.out _ _).mono ?_
  rintro e w2 ⟨rfl, rfl⟩
  go_wp2_with fail
  refine (HR.out _ _).mono ?_
  rintro e w2 ⟨rfl, rfl⟩
  go_wp2_with fail
  go_ret
  exact ⟨rfl, HB1.out⟩
set_option maxHeartbeats 4000000 in
theorem bitsRays_ok (s : Nat) (hs : s < 64) (dx dy : Int) (hd : ¬ badDir dx dy) (occ more : Nat) (ho : occ < 18446744073709551616) (hm : more < 18446744073709551616) (w : World) (hT : Tab w) :
    Calls Tryd.prog 5 #[.int .i64 (s : Int), .int .i64 dx, .int .i64 dy, .int .u64 (occ : Int), .int .u64 (more : Int)] w fun e w' => e = .returned (.bool true) ∧ Below w.heap.size w w' := by
  have e64 : (2 : Nat) ^ 64 = 18446744073709551616 := rfl
  have hom : occ ||| more < 18446744073709551616 := by
    rw [← e64] at *
    exact Nat.or_lt_two_pow ho hm
  have r0 : bits .or .u64 (occ : Int) (more : Int) = ((occ ||| more : Nat) : Int) := u64_or_nat _ _ ho hm
  have HT := Lib.hid hT
  have R1 := Lib.hid (fun W hW => ray_ok s hs dx dy hd occ ho W hW)
  have R2 := Lib.hid (fun W hW => ray_ok s hs dx dy hd (occ ||| more) hom W hW)
  have HO := Lib.hid ho
  have HOM := Lib.hid hom
  have LESS := Lib.hid (fun a b (h1 : RayIs dx dy s occ a) (h2 : RayIs dx dy s (occ ||| more) b) => ray_less h1 h2)
  obtain ⟨om, hom2⟩ : ∃ om, occ ||| more = om := ⟨_, rfl⟩
  rw [hom2] at r0 R2 HOM LESS
  clear hT hs hd ho hm hom hom2 e64
  go_enter Tryd.func5, Tryd.ntmps5
  go_wp2_with fail
  refine (shifts_any _ HT.out).mono ?_
  rintro e w1 ⟨rfl, hb1⟩
  have HT1 := Lib.hid (tab_below HT.out HT.out.1 hb1)
  have HB1 := Lib.hid hb1
  clear hb1
  go_wp2_with fail
  refine (R1.out _ HT1.out).mono ?_
  rintro e w2 ⟨a, rfl, ha, hal, hb2⟩
  have HT2 := Lib.hid (tab_below HT1.out HT1.out.1 hb2)
  have HB2 := Lib.hid (below_next rfl HB1.out hb2)
  have HA := Lib.hid ha
  have HAL := Lib.hid hal
  clear hb2 ha hal
  go_wp2_with fail
  refine (R2.out _ HT2.out).mono ?_
  rintro e w3 ⟨b, rfl, hb, hbl, hb3⟩
  have HB3 := Lib.hid (below_next rfl HB2.out hb3)
  have r1 : bits .andNot .u64 (b : Int) (a : Int) = 0 := and_not_none hbl HAL.out (LESS.out a b HA.out hb)
  have r2 : bits .and .u64 (a : Int) (occ : Int) = ((a &&& occ : Nat) : Int) := u64_and_nat _ _ HAL.out HO.out
  have r3 : bits .and .u64 (b : Int) (om : Int) = ((b &&& om : Nat) : Int) := u64_and_nat _ _ hbl HOM.out
  have l1 : a &&& occ < 18446744073709551616 := Nat.lt_of_le_of_lt Nat.and_le_left HAL.out
  have l2 : b &&& om < 18446744073709551616 := Nat.lt_of_le_of_lt Nat.and_le_left hbl
  have N1 := Lib.hid (fun W => count_any (a &&& occ) l1 W)
  have N2 := Lib.hid (fun W => count_any (b &&& om) l2 W)
  have p1 := ray_hits HA.out
  have p2 := ray_hits hb
  have t1 : decide (((pop 64 (a &&& occ) : Nat) : Int) ≤ 1) = true := decide_eq_true (by omega)
  have t2 : decide (((pop 64 (b &&& om) : Nat) : Int) ≤ 1) = true := decide_eq_true (by omega)
  have s1 : decide (pop 64 (a &&& occ) ≤ 1) = true := decide_eq_true p1
  have s2 : decide (pop 64 (b &&& om) ≤ 1) = true := decide_eq_true p2
  have hz : ((a : Int) == 0) = ((b : Int) == 0) := by
    have h1 := ray_zero HA.out
    have h2 := ray_zero hb
    rw [Bool.eq_iff_iff]
    simp only [beq_iff_eq, Int.natCast_eq_zero]
    rw [h1, h2]
  have t3 : (((b : Int) == 0) == ((b : Int) == 0)) = true := beq_self_eq_true _
  clear hb3 hb hbl l1 l2 p1 p2
  generalize a &&& occ = x1 at *
  generalize b &&& om = x2 at *
  generalize pop 64 x1 = n1 at *
  generalize pop 64 x2 = n2 at *
  go_wp2_with fail
  refine (N1.out _).mono ?_
  rintro e w4 ⟨rfl, rfl⟩
  go_wp2_with fail
  refine (N2.out _).mono ?_
  rintro e w4 ⟨rfl, rfl⟩
  go_wp2_with fail
  go_ret
  exact ⟨by first | rfl | simp, HB3.out⟩
theorem bitsRays_walk (a b c d f : Int) (w : World) (_ : (Lit.int .i64 a).wf = true) (_ : (Lit.int .i64 b).wf = true) (_ : (Lit.int .i64 c).wf = true) (hd : (Lit.int .u64 d).wf = true) (hf : (Lit.int .u64 f).wf = true) (hT : Tab w) :
    Calls Tryd.prog 5 #[.int .i64 a, .int .i64 b, .int .i64 c, .int .u64 d, .int .u64 f] w fun e w' => e = .returned (.bool true) ∧ Below w.heap.size w w' := by
  have h1 := (Lit.wf_int_iff _ _).1 hd
  have h2 := (Lit.wf_int_iff _ _).1 hf
  obtain ⟨n, rfl⟩ := Int.eq_ofNat_of_zero_le (a := d) h1.1
  obtain ⟨m, rfl⟩ := Int.eq_ofNat_of_zero_le (a := f) h2.1
  by_cases ha : a < 0 ∨ 63 < a
  · exact bitsRays_bad 4 (.inl rfl) a b c n m w hT (fun o W => ray_range a b c o ha W)
  · by_cases hb : badDir b c
    · exact bitsRays_bad 1 (.inr rfl) a b c n m w hT (fun o W => ray_arg a b c o (by omega) hb W)
    · obtain ⟨s, rfl⟩ := Int.eq_ofNat_of_zero_le (a := a) (by omega)
      exact bitsRays_ok s (by omega) b c hb n m (by have h3 : (n : Int) ≤ 18446744073709551615 := h1.2; omega) (by have h3 : (m : Int) ≤ 18446744073709551615 := h2.2; omega) w hT
end Go.Proofs.YtpoepaiaehhloaaDoor
