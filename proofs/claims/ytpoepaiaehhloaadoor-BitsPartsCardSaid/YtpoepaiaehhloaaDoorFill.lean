/- Walk: bits.Fill. -/
import Derived.Test.YtpoepaiaehhloaaDoorFillP
namespace Go.Proofs.YtpoepaiaehhloaaDoor
open Go.RowKit Go.Shelf
set_option linter.unusedVariables false
theorem below_step {n : Nat} {w W W' : World} (hn : n = w.heap.size) (h : Below n w W) (h' : Below W.heap.size W W') : Below n w W' := h.trans (h'.mono (by subst hn; exact h.size))
set_option maxHeartbeats 4000000 in
theorem fill_any (seed W : Nat) (hs : seed < 18446744073709551616) (hW : W < 18446744073709551616) (w : World) (hT : Tab w) : Calls Tryd.prog 8 #[.int .u64 (seed : Int), .int .u64 (W : Int)] w fun e w' => ∃ R : Nat, e = .returned (.int .u64 (R : Int)) ∧ FillIs seed W R ∧ R < 18446744073709551616 ∧ Below w.heap.size w w' := by
  have HT := Lib.hid hT
  have HW := Lib.hid hW
  have r0 : bits .and .u64 (seed : Int) (W : Int) = ((seed &&& W : Nat) : Int) := u64_and_nat _ _ hs hW
  have hl0 : seed &&& W < 18446744073709551616 := Nat.lt_of_le_of_lt Nat.and_le_left hs
  have HL0 := Lib.hid hl0
  clear hT hW hs hl0
  obtain ⟨a0, ha0⟩ : ∃ a0, a0 = seed &&& W := ⟨_, rfl⟩
  rw [← ha0] at r0
  have HI0 := Lib.hid (fill_start seed W)
  rw [← ha0] at HI0 HL0
  clear ha0
  go_enter Tryd.func8, Tryd.ntmps8
  go_wp2
  go_loopw [5] (fun o wr => ∃ x : Nat, o = .int .u64 (x : Int) ∧ x < 18446744073709551616 ∧ FillInv seed W x ∧ Tab wr ∧ Below w.heap.size w wr) (fun o wr => 18446744073709551616 - (intOf o).toNat)
  case atStart => exact ⟨a0, rfl, HL0.out, HI0.out, HT.out, Below.refl _ _⟩
  case round =>
    obtain ⟨x, rfl, hx, hI, hTr, hBr⟩ := hrel
    have l1 := shiftM_lt x 1 0
    have l2 := shiftM_lt x (-1) 0
    have l3 := shiftM_lt x 0 1
    have l4 := shiftM_lt x 0 (-1)
    have S1 := Lib.hid (fun V hV => shift_any x hx 1 0 V hV)
    have S2 := Lib.hid (fun V hV => shift_any x hx (-1) 0 V hV)
    have S3 := Lib.hid (fun V hV => shift_any x hx 0 1 V hV)
    have S4 := Lib.hid (fun V hV => shift_any x hx 0 (-1) V hV)
    have r1 : bits .or .u64 ((shiftM x 1 0 : Nat) : Int) ((shiftM x (-1) 0 : Nat) : Int) = ((shiftM x 1 0 ||| shiftM x (-1) 0 : Nat) : Int) := u64_or_nat _ _ l1 l2
    have r2 : bits .or .u64 ((shiftM x 1 0 ||| shiftM x (-1) 0 : Nat) : Int) ((shiftM x 0 1 : Nat) : Int) = (((shiftM x 1 0 ||| shiftM x (-1) 0) ||| shiftM x 0 1 : Nat) : Int) := u64_or_nat _ _ (or_lt l1 l2) l3
    have r3 : bits .or .u64 (((shiftM x 1 0 ||| shiftM x (-1) 0) ||| shiftM x 0 1 : Nat) : Int) ((shiftM x 0 (-1) : Nat) : Int) = ((nbM x : Nat) : Int) := u64_or_nat _ _ (or_lt (or_lt l1 l2) l3) l4
    have r4 : bits .and .u64 (W : Int) ((nbM x : Nat) : Int) = ((W &&& nbM x : Nat) : Int) := u64_and_nat _ _ HW.out (nb_lt x)
    have r5 : bits .or .u64 (x : Int) ((W &&& nbM x : Nat) : Int) = ((nextM x W : Nat) : Int) := u64_or_nat _ _ hx (Nat.lt_of_le_of_lt Nat.and_le_left HW.out)
    have HN := Lib.hid (fill_next hI)
    have HNL := Lib.hid (next_lt hx HW.out)
    have HEND := Lib.hid (fun he => fill_end hI he)
    have HMORE := Lib.hid (fun he => fill_more (o := x) (W := W) he)
    have HX := Lib.hid hx
    have HTR := Lib.hid hTr
    have HBR := Lib.hid hBr
    generalize shiftM x 1 0 = s1 at *
    generalize shiftM x (-1) 0 = s2 at *
    generalize shiftM x 0 1 = s3 at *
    generalize shiftM x 0 (-1) = s4 at *
    generalize s1 ||| s2 = o1 at *
    generalize o1 ||| s3 = o2 at *
    generalize nbM x = nb at *
    generalize W &&& nb = wn at *
    generalize nextM x W = y at *
    clear l1 l2 l3 l4 hx hI hTr hBr
    go_wp2_with fail
    refine (S1.out _ HTR.out).mono ?_
    rintro e w1 ⟨rfl, hb1⟩
    have HT1 := Lib.hid (tab_below HTR.out HTR.out.1 hb1)
    have HB1 := Lib.hid (below_step rfl HBR.out hb1)
    clear hb1
    go_wp2_with fail
    refine (S2.out _ HT1.out).mono ?_
    rintro e w2 ⟨rfl, hb2⟩
    have HT2 := Lib.hid (tab_below HT1.out HT1.out.1 hb2)
    have HB2 := Lib.hid (below_step rfl HB1.out hb2)
    clear hb2
    go_wp2_with fail
    refine (S3.out _ HT2.out).mono ?_
    rintro e w3 ⟨rfl, hb3⟩
    have HT3 := Lib.hid (tab_below HT2.out HT2.out.1 hb3)
    have HB3 := Lib.hid (below_step rfl HB2.out hb3)
    clear hb3
    go_wp2_with fail
    refine (S4.out _ HT3.out).mono ?_
    rintro e w4 ⟨rfl, hb4⟩
    have HT4 := Lib.hid (tab_below HT3.out HT3.out.1 hb4)
    have HB4 := Lib.hid (below_step rfl HB3.out hb4)
    clear hb4
    by_cases he : y = x
    · have t0 : ((y : Int) == (x : Int)) = true := by rw [he]; exact beq_self_eq_true _
      have HE := Lib.hid he
      clear he
      go_wp2_with fail
      go_ret
      exact ⟨x, rfl, HEND.out HE.out, HX.out, HB4.out⟩
    · have t0 : ((y : Int) == (x : Int)) = false := by simp; omega
      have HE := Lib.hid he
      clear he
      go_wp2_with fail
      go_roundw
      case rel => exact ⟨y, rfl, HNL.out, HN.out, HT4.out, HB4.out⟩
      case measure => have h1 := HMORE.out HE.out; have h2 := HNL.out; simp [intOf]; omega
end Go.Proofs.YtpoepaiaehhloaaDoor
