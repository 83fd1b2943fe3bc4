/- Walks: bits.Ray, shifts. -/
import Derived.Test.YtpoepaiaehhloaaDoorRayP
namespace Go.Proofs.YtpoepaiaehhloaaDoor
open Go.RowKit Go.Shelf
set_option linter.unusedVariables false
theorem ray_range (sq dx dy occ : Int) (h : sq < 0 ∨ 63 < sq) (w : World) : Calls Tryd.prog 14 #[.int .i64 sq, .int .i64 dx, .int .i64 dy, .int .u64 occ] w fun e w' => e = .returned (.tuple #[.int .u64 0, .int .i64 4]) ∧ w = w' := by
  have HO := Lib.hid h
  clear h
  go_enter Tryd.func14, Tryd.ntmps14
  by_cases h1 : sq < 0
  · have t1 : decide (sq < 0) = true := decide_eq_true h1
    clear h1 HO
    go_wp2
    go_ret2
    exact ⟨rfl, rfl⟩
  · have h2 : 63 < sq := by have := HO.out; omega
    have t1 : decide (sq < 0) = false := decide_eq_false h1
    have t2 : decide (63 < sq) = true := decide_eq_true h2
    clear h1 h2 HO
    go_wp2
    go_ret2
    exact ⟨rfl, rfl⟩
def badDir (dx dy : Int) : Prop := dx < -1 ∨ 1 < dx ∨ dy < -1 ∨ 1 < dy ∨ (dx = 0 ∧ dy = 0)
theorem ray_arg (sq dx dy occ : Int) (h : 0 ≤ sq ∧ sq ≤ 63) (hd : badDir dx dy) (w : World) : Calls Tryd.prog 14 #[.int .i64 sq, .int .i64 dx, .int .i64 dy, .int .u64 occ] w fun e w' => e = .returned (.tuple #[.int .u64 0, .int .i64 1]) ∧ w = w' := by
  have HD := Lib.hid hd
  clear hd
  have t1 : decide (sq < 0) = false := decide_eq_false (by omega)
  have t2 : decide (63 < sq) = false := decide_eq_false (by omega)
  clear h
  go_enter Tryd.func14, Tryd.ntmps14
  by_cases h1 : dx < -1
  · have u1 : decide (dx < -1) = true := decide_eq_true h1
    clear h1 HD
    go_wp2
    go_ret2
    exact ⟨rfl, rfl⟩
  by_cases h2 : 1 < dx
  · have u1 : decide (dx < -1) = false := decide_eq_false h1
    have u2 : decide (1 < dx) = true := decide_eq_true h2
    clear h1 h2 HD
    go_wp2
    go_ret2
    exact ⟨rfl, rfl⟩
  by_cases h3 : dy < -1
  · have u1 : decide (dx < -1) = false := decide_eq_false h1
    have u2 : decide (1 < dx) = false := decide_eq_false h2
    have u3 : decide (dy < -1) = true := decide_eq_true h3
    clear h1 h2 h3 HD
    go_wp2
    go_ret2
    exact ⟨rfl, rfl⟩
  by_cases h4 : 1 < dy
  · have u1 : decide (dx < -1) = false := decide_eq_false h1
    have u2 : decide (1 < dx) = false := decide_eq_false h2
    have u3 : decide (dy < -1) = false := decide_eq_false h3
    have u4 : decide (1 < dy) = true := decide_eq_true h4
    clear h1 h2 h3 h4 HD
    go_wp2
    go_ret2
    exact ⟨rfl, rfl⟩
  obtain ⟨rfl, rfl⟩ : dx = 0 ∧ dy = 0 := by have := HD.out; unfold badDir at this; omega
  clear h1 h2 h3 h4 HD
  go_wp2
  go_ret2
  exact ⟨rfl, rfl⟩
set_option maxHeartbeats 4000000 in
set_option maxRecDepth 100000 in
theorem ray_ok (s : Nat) (hs : s < 64) (dx dy : Int) (hd : ¬ badDir dx dy) (occ : Nat) (ho : occ < 18446744073709551616) (w : World) (hT : Tab w) : Calls Tryd.prog 14 #[.int .i64 (s : Int), .int .i64 dx, .int .i64 dy, .int .u64 (occ : Int)] w fun e w' => ∃ res : Nat, e = .returned (.tuple #[.int .u64 (res : Int), .int .i64 0]) ∧ RayIs dx dy s occ res ∧ res < 18446744073709551616 ∧ Below w.heap.size w w' := by
  have t1 : decide ((s : Int) < 0) = false := decide_eq_false (by omega)
  have t2 : decide ((63 : Int) < (s : Int)) = false := decide_eq_false (by omega)
  have t2' : decide (63 < s) = false := decide_eq_false (by omega)
  have t3 : decide (dx < -1) = false := decide_eq_false (fun h => hd (.inl h))
  have t4 : decide (1 < dx) = false := decide_eq_false (fun h => hd (.inr (.inl h)))
  have t5 : decide (dy < -1) = false := decide_eq_false (fun h => hd (.inr (.inr (.inl h))))
  have t6 : decide (1 < dy) = false := decide_eq_false (fun h => hd (.inr (.inr (.inr (.inl h)))))
  have hz : ¬ (dx = 0 ∧ dy = 0) := fun h => hd (.inr (.inr (.inr (.inr h))))
  have HSM := Lib.hid (fun n => ok_small (n := n) hs (dx := dx) (dy := dy) (by unfold badDir at hd; omega) (by unfold badDir at hd; omega) hz)
  have hsh : IntKind.u64.wrap (2 ^ min s 64) = ((rq dx dy s 0 : Nat) : Int) := by
    rw [rq_zero hs, Nat.min_eq_left (by omega), IntKind.wrap_u64]
    have e : (2 : Nat) ^ 64 = 18446744073709551616 := rfl
    have h1 := Nat.pow_lt_pow_right (a := 2) (by omega) hs
    rw [e] at h1
    rw [show (2 : Int) ^ s = ((2 ^ s : Nat) : Int) by simp]
    generalize (2 : Nat) ^ s = p at *
    omega
  have HSH := Lib.hid (fun n (h : okN dx dy s n) (W : World) (hW : Tab W) => (by
    have h1 := shift_any (rq dx dy s n) (rq_lt dx dy s n) dx dy W hW
    rw [rq_step hs h] at h1
    exact h1 : Calls Tryd.prog 12 #[.int .u64 ((rq dx dy s n : Nat) : Int), .int .i64 dx, .int .i64 dy] W fun e w' => e = .returned (.int .u64 ((rq dx dy s (n + 1) : Nat) : Int)) ∧ Below W.heap.size W w'))
  have HZ := Lib.hid (ok_zero hs dx dy)
  have HT := Lib.hid hT
  have HOC := Lib.hid ho
  have HHS := Lib.hid hs
  have REM := Lib.hid (fun n (h : okN dx dy s n) => rem_less (n := n) hs (dx := dx) (dy := dy) (by unfold badDir at hd; omega) (by unfold badDir at hd; omega) hz h)
  by_cases hx0 : dx = 0
  · have t7 : (dx == 0) = true := by simpa using hx0
    have t8 : (dy == 0) = false := by simpa using (fun e => hz ⟨hx0, e⟩ : ¬ dy = 0)
    clear hx0
    clear hs hd hz hT ho
    go_enter Tryd.func14, Tryd.ntmps14
    go_wp2_with fail
    refine (HSH.out 0 HZ.out _ HT.out).mono ?_
    rintro e w1 ⟨rfl, hb1⟩
    have ht1 := tab_below HT.out HT.out.1 hb1
    go_wp2
    go_loopw [10, 11] (fun o p wr => ∃ n : Nat, o = .int .u64 ((rayOut dx dy s n : Nat) : Int) ∧ p = .int .u64 ((rq dx dy s (n + 1) : Nat) : Int) ∧ (∀ j, 1 ≤ j → j ≤ n → okN dx dy s j ∧ rq dx dy s j &&& occ = 0) ∧ Tab wr ∧ Below w.heap.size w wr) (fun o p wr => remM dx dy (intOf p).toNat)
    case atStart => exact ⟨0, rfl, rfl, fun j h1 h2 => by omega, ht1, hb1⟩
    case round =>
      obtain ⟨n, rfl, rfl, hj, htr, hbr⟩ := hrel
      have HJ := Lib.hid hj
      have HTR := Lib.hid htr
      have HBR := Lib.hid hbr
      have hrq := rq_lt dx dy s (n + 1)
      have hro := rayOut_lt dx dy s n
      have hro1 := rayOut_lt dx dy s (n + 1)
      by_cases h1 : okN dx dy s (n + 1)
      · have hne := rq_ne h1
        have r0 : (((rq dx dy s (n + 1) : Nat) : Int) != 0) = true := by simpa using hne
        have r1 : bits .or .u64 ((rayOut dx dy s n : Nat) : Int) ((rq dx dy s (n + 1) : Nat) : Int) = ((rayOut dx dy s (n + 1) : Nat) : Int) := u64_or_nat _ _ hro hrq
        have r2 : bits .and .u64 ((rq dx dy s (n + 1) : Nat) : Int) (occ : Int) = ((rq dx dy s (n + 1) &&& occ : Nat) : Int) := u64_and_nat _ _ hrq HOC.out
        have HM := Lib.hid (REM.out (n + 1) h1)
        have HS1 := Lib.hid (HSH.out (n + 1) h1)
        have HOK := Lib.hid h1
        have HRO := Lib.hid hro1
        by_cases h2 : rq dx dy s (n + 1) &&& occ = 0
        · have r3 : (((rq dx dy s (n + 1) &&& occ : Nat) : Int) != 0) = false := by rw [h2]; rfl
          have H2 := Lib.hid h2
          obtain ⟨z, hz⟩ : ∃ z, z = rq dx dy s (n + 1) &&& occ := ⟨_, rfl⟩
          rw [← hz] at r2 r3
          obtain ⟨q, hq⟩ : ∃ q, q = rq dx dy s (n + 1) := ⟨_, rfl⟩
          rw [← hq] at r0 r1 r2 HM ⊢
          obtain ⟨a0, ha0⟩ : ∃ a0, a0 = rayOut dx dy s n := ⟨_, rfl⟩
          rw [← ha0] at r1 ⊢
          obtain ⟨a1, ha1⟩ : ∃ a1, a1 = rayOut dx dy s (n + 1) := ⟨_, rfl⟩
          rw [← ha1] at r1
          obtain ⟨q2, hq2⟩ : ∃ q2, q2 = rq dx dy s (n + 1 + 1) := ⟨_, rfl⟩
          rw [← hq, ← hq2] at HS1
          rw [← hq2] at HM
          have HA1 := Lib.hid ha1
          have HQ2 := Lib.hid hq2
          clear h1 h2 hne hz hq ha0 ha1 hq2 hrq hro hro1 hj htr hbr
          go_wp2_with fail
          refine (HS1.out _ HTR.out).mono ?_
          rintro e w2 ⟨rfl, hb2⟩
          go_wp2
          go_roundw
          case rel => exact ⟨n + 1, by rw [HA1.out], by rw [HQ2.out], fun j j1 j2 => (Decidable.em (j = n + 1)).elim (fun e => by subst e; exact ⟨HOK.out, H2.out⟩) (fun e => HJ.out j j1 (by omega)), tab_below HTR.out HTR.out.1 hb2, HBR.out.trans (hb2.mono HBR.out.size)⟩
          case measure => simpa [intOf] using HM.out
        · have r3 : (((rq dx dy s (n + 1) &&& occ : Nat) : Int) != 0) = true := by simpa using h2
          have H2 := Lib.hid h2
          obtain ⟨z, hz⟩ : ∃ z, z = rq dx dy s (n + 1) &&& occ := ⟨_, rfl⟩
          rw [← hz] at r2 r3
          obtain ⟨q, hq⟩ : ∃ q, q = rq dx dy s (n + 1) := ⟨_, rfl⟩
          rw [← hq] at r0 r1 r2 ⊢
          obtain ⟨a0, ha0⟩ : ∃ a0, a0 = rayOut dx dy s n := ⟨_, rfl⟩
          rw [← ha0] at r1 ⊢
          obtain ⟨a1, ha1⟩ : ∃ a1, a1 = rayOut dx dy s (n + 1) := ⟨_, rfl⟩
          rw [← ha1] at r1
          have HA1 := Lib.hid ha1
          clear h1 h2 hne hz hq ha0 ha1 hrq hro hro1 hj htr hbr HM HS1
          go_wp2
          go_ret2
          exact ⟨a1, rfl, ⟨n, HJ.out, .inr ⟨HOK.out, H2.out, HA1.out⟩⟩, by rw [HA1.out]; exact HRO.out, HBR.out⟩
      · have r0 : (((rq dx dy s (n + 1) : Nat) : Int) != 0) = false := by rw [rq_off h1]; rfl
        have HOK := Lib.hid h1
        have HRO := Lib.hid hro
        obtain ⟨q, hq⟩ : ∃ q, q = rq dx dy s (n + 1) := ⟨_, rfl⟩
        rw [← hq] at r0 ⊢
        obtain ⟨a0, ha0⟩ : ∃ a0, a0 = rayOut dx dy s n := ⟨_, rfl⟩
        rw [← ha0] at ⊢
        have HA0 := Lib.hid ha0
        clear h1 hq ha0 hrq hro hro1 hj htr hbr
        go_wp2
        go_ret2
        exact ⟨a0, rfl, ⟨n, HJ.out, .inl ⟨HOK.out, HA0.out⟩⟩, by rw [HA0.out]; exact HRO.out, HBR.out⟩
  · have t7 : (dx == 0) = false := by simpa using hx0
    clear hx0
    clear hs hd hz hT ho
    go_enter Tryd.func14, Tryd.ntmps14
    go_wp2_with fail
    refine (HSH.out 0 HZ.out _ HT.out).mono ?_
    rintro e w1 ⟨rfl, hb1⟩
    have ht1 := tab_below HT.out HT.out.1 hb1
    go_wp2
    go_loopw [10, 11] (fun o p wr => ∃ n : Nat, o = .int .u64 ((rayOut dx dy s n : Nat) : Int) ∧ p = .int .u64 ((rq dx dy s (n + 1) : Nat) : Int) ∧ (∀ j, 1 ≤ j → j ≤ n → okN dx dy s j ∧ rq dx dy s j &&& occ = 0) ∧ Tab wr ∧ Below w.heap.size w wr) (fun o p wr => remM dx dy (intOf p).toNat)
    case atStart => exact ⟨0, rfl, rfl, fun j h1 h2 => by omega, ht1, hb1⟩
    case round =>
      obtain ⟨n, rfl, rfl, hj, htr, hbr⟩ := hrel
      have HJ := Lib.hid hj
      have HTR := Lib.hid htr
      have HBR := Lib.hid hbr
      have hrq := rq_lt dx dy s (n + 1)
      have hro := rayOut_lt dx dy s n
      have hro1 := rayOut_lt dx dy s (n + 1)
      by_cases h1 : okN dx dy s (n + 1)
      · have hne := rq_ne h1
        have r0 : (((rq dx dy s (n + 1) : Nat) : Int) != 0) = true := by simpa using hne
        have r1 : bits .or .u64 ((rayOut dx dy s n : Nat) : Int) ((rq dx dy s (n + 1) : Nat) : Int) = ((rayOut dx dy s (n + 1) : Nat) : Int) := u64_or_nat _ _ hro hrq
        have r2 : bits .and .u64 ((rq dx dy s (n + 1) : Nat) : Int) (occ : Int) = ((rq dx dy s (n + 1) &&& occ : Nat) : Int) := u64_and_nat _ _ hrq HOC.out
        have HM := Lib.hid (REM.out (n + 1) h1)
        have HS1 := Lib.hid (HSH.out (n + 1) h1)
        have HOK := Lib.hid h1
        have HRO := Lib.hid hro1
        by_cases h2 : rq dx dy s (n + 1) &&& occ = 0
        · have r3 : (((rq dx dy s (n + 1) &&& occ : Nat) : Int) != 0) = false := by rw [h2]; rfl
          have H2 := Lib.hid h2
          obtain ⟨z, hz⟩ : ∃ z, z = rq dx dy s (n + 1) &&& occ := ⟨_, rfl⟩
          rw [← hz] at r2 r3
          obtain ⟨q, hq⟩ : ∃ q, q = rq dx dy s (n + 1) := ⟨_, rfl⟩
          rw [← hq] at r0 r1 r2 HM ⊢
          obtain ⟨a0, ha0⟩ : ∃ a0, a0 = rayOut dx dy s n := ⟨_, rfl⟩
          rw [← ha0] at r1 ⊢
          obtain ⟨a1, ha1⟩ : ∃ a1, a1 = rayOut dx dy s (n + 1) := ⟨_, rfl⟩
          rw [← ha1] at r1
          obtain ⟨q2, hq2⟩ : ∃ q2, q2 = rq dx dy s (n + 1 + 1) := ⟨_, rfl⟩
          rw [← hq, ← hq2] at HS1
          rw [← hq2] at HM
          have HA1 := Lib.hid ha1
          have HQ2 := Lib.hid hq2
          clear h1 h2 hne hz hq ha0 ha1 hq2 hrq hro hro1 hj htr hbr
          go_wp2_with fail
          refine (HS1.out _ HTR.out).mono ?_
          rintro e w2 ⟨rfl, hb2⟩
          go_wp2
          go_roundw
          case rel => exact ⟨n + 1, by rw [HA1.out], by rw [HQ2.out], fun j j1 j2 => (Decidable.em (j = n + 1)).elim (fun e => by subst e; exact ⟨HOK.out, H2.out⟩) (fun e => HJ.out j j1 (by omega)), tab_below HTR.out HTR.out.1 hb2, HBR.out.trans (hb2.mono HBR.out.size)⟩
          case measure => simpa [intOf] using HM.out
        · have r3 : (((rq dx dy s (n + 1) &&& occ : Nat) : Int) != 0) = true := by simpa using h2
          have H2 := Lib.hid h2
          obtain ⟨z, hz⟩ : ∃ z, z = rq dx dy s (n + 1) &&& occ := ⟨_, rfl⟩
          rw [← hz] at r2 r3
          obtain ⟨q, hq⟩ : ∃ q, q = rq dx dy s (n + 1) := ⟨_, rfl⟩
          rw [← hq] at r0 r1 r2 ⊢
          obtain ⟨a0, ha0⟩ : ∃ a0, a0 = rayOut dx dy s n := ⟨_, rfl⟩
          rw [← ha0] at r1 ⊢
          obtain ⟨a1, ha1⟩ : ∃ a1, a1 = rayOut dx dy s (n + 1) := ⟨_, rfl⟩
          rw [← ha1] at r1
          have HA1 := Lib.hid ha1
          clear h1 h2 hne hz hq ha0 ha1 hrq hro hro1 hj htr hbr HM HS1
          go_wp2
          go_ret2
          exact ⟨a1, rfl, ⟨n, HJ.out, .inr ⟨HOK.out, H2.out, HA1.out⟩⟩, by rw [HA1.out]; exact HRO.out, HBR.out⟩
      · have r0 : (((rq dx dy s (n + 1) : Nat) : Int) != 0) = false := by rw [rq_off h1]; rfl
        have HOK := Lib.hid h1
        have HRO := Lib.hid hro
        obtain ⟨q, hq⟩ : ∃ q, q = rq dx dy s (n + 1) := ⟨_, rfl⟩
        rw [← hq] at r0 ⊢
        obtain ⟨a0, ha0⟩ : ∃ a0, a0 = rayOut dx dy s n := ⟨_, rfl⟩
        rw [← ha0] at ⊢
        have HA0 := Lib.hid ha0
        clear h1 hq ha0 hrq hro hro1 hj htr hbr
        go_wp2
        go_ret2
        exact ⟨a0, rfl, ⟨n, HJ.out, .inl ⟨HOK.out, HA0.out⟩⟩, by rw [HA0.out]; exact HRO.out, HBR.out⟩
end Go.Proofs.YtpoepaiaehhloaaDoor
