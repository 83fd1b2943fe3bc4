/- Walk: the law BitsParts. -/
import Derived.Test.YtpoepaiaehhloaaDoorParts
import Derived.Test.YtpoepaiaehhloaaDoorOf
import Derived.Test.YtpoepaiaehhloaaDoorLThere
namespace Go.Proofs.YtpoepaiaehhloaaDoor
open Go.RowKit Go.Shelf
set_option linter.unusedVariables false
theorem fill_1_3 {R : Nat} (h : FillIs 1 3 R) : R = 3 := by
  obtain ⟨h1, h2, h3, _⟩ := h
  have b0 : R.testBit 0 = true := h1 0 (by decide)
  have b1 : R.testBit 1 = true := h3 0 1 (by omega) b0 (.inl ⟨by decide, by decide⟩) (by decide)
  refine Nat.eq_of_testBit_eq fun s => Bool.eq_iff_iff.2 ⟨h2 s, fun hs => ?_⟩
  have hl : s < 2 := Nat.lt_of_not_le fun hc => by
    have h4 : (3 : Nat) < 2 ^ s := Nat.lt_of_lt_of_le (by omega : 3 < 2 ^ 2) (Nat.pow_le_pow_right (by omega) hc)
    rw [Nat.testBit_lt_two_pow h4] at hs
    cases hs
  have c : s = 0 ∨ s = 1 := by omega
  rcases c with rfl | rfl
  · exact b0
  · exact b1
theorem adj_0 {t : Nat} (h : Adj 0 t) : t = 1 ∨ t = 8 := by
  rcases h with ⟨h, rfl⟩ | ⟨h, rfl⟩ | ⟨h, rfl⟩ | ⟨h, rfl⟩
  · exact .inl (by decide)
  · exact absurd h (by decide)
  · exact .inr (by decide)
  · exact absurd h (by decide)
theorem parts_sample {L : List Nat} (h : PartsIs 32769 L) : L.length = 2 := by
  have z1 : Lib.ctz 64 32769 = 0 := by decide +kernel
  have z2 : Lib.ctz 64 32768 = 15 := by decide +kernel
  match L, h with
  | [], h => exact absurd (show (32769 : Nat) = 0 from h) (by omega)
  | p :: L, ⟨_, hp, hf, hL⟩ =>
    rw [z1] at hf
    have hb0 : p.testBit 0 = true := hf.1 0 (by decide)
    have hall := hf.2.2.2 (fun s => s = 0) (fun s hs => by
      rw [show (2 ^ 0 &&& 32769 : Nat) = 2 ^ 0 by decide, Nat.testBit_two_pow, decide_eq_true_eq] at hs
      exact hs.symm) (fun s t _ h1 h2 h3 => by
      subst h1
      rcases adj_0 h2 with rfl | rfl
      · exact absurd h3 (by decide)
      · exact absurd h3 (by decide))
    have hp1 : p = 1 := Nat.eq_of_testBit_eq fun s => Bool.eq_iff_iff.2 ⟨fun hs => by rw [hall s hs]; decide, fun hs => by
      rw [show (1 : Nat) = 2 ^ 0 from rfl, Nat.testBit_two_pow, decide_eq_true_eq] at hs
      rw [← hs]
      exact hb0⟩
    subst hp1
    rw [show lessM 32769 1 = 32768 by decide +kernel] at hL
    match L, hL with
    | [], hL => exact absurd (show (32768 : Nat) = 0 from hL) (by omega)
    | q :: L, ⟨_, hq, hg, hM⟩ =>
      rw [z2] at hg
      have hb15 : q.testBit 15 = true := hg.1 15 (by decide +kernel)
      have hz : lessM 32768 q = 0 := Nat.eq_of_testBit_eq fun s => by
        rw [Nat.zero_testBit]
        cases hx : (lessM 32768 q).testBit s
        · rfl
        · obtain ⟨g1, g2⟩ := (less_bit (by omega) hq).1 hx
          rw [show (32768 : Nat) = 2 ^ 15 from rfl, Nat.testBit_two_pow, decide_eq_true_eq] at g1
          rw [← g1, hb15] at g2
          cases g2
      rw [hz] at hM
      match L, hM with
      | [], _ => rfl
      | _ :: _, ⟨h0, _⟩ => exact absurd rfl h0
theorem parts_32769 (w : World) (hT : Tab w) : Calls Tryd.prog 7 #[.int .u64 32769] w fun e w' => ∃ A c, e = .returned (.slice A 2 c) ∧ Below w.heap.size w w' := by
  refine (parts_any 32769 (by omega) w hT).mono ?_
  rintro e w' ⟨v, L, rfl, ⟨A, c, rfl, _⟩, hp, _, hB⟩
  rw [parts_sample hp]
  exact ⟨A, c, rfl, hB⟩
theorem fill_13 (w : World) (hT : Tab w) : Calls Tryd.prog 8 #[.int .u64 1, .int .u64 3] w fun e w' => e = .returned (.int .u64 3) ∧ Below w.heap.size w w' := by
  refine (fill_any 1 3 (by omega) (by omega) w hT).mono ?_
  rintro e w' ⟨R, rfl, hf, _, hB⟩
  rw [fill_1_3 hf]
  exact ⟨rfl, hB⟩
theorem shl_sq {s : Nat} (hs : s < 64) : IntKind.u64.wrap (2 ^ s) = ((2 ^ s : Nat) : Int) ∧ 2 ^ s < 18446744073709551616 := by
  have e : (2 : Nat) ^ 64 = 18446744073709551616 := rfl
  have h1 := Nat.pow_lt_pow_right (a := 2) (by omega) hs
  rw [e] at h1
  refine ⟨?_, h1⟩
  rw [IntKind.wrap_u64, show (2 : Int) ^ s = ((2 ^ s : Nat) : Int) by simp]
  generalize (2 : Nat) ^ s = p at *
  omega
set_option maxHeartbeats 4000000 in
set_option maxRecDepth 100000 in
theorem bitsParts_law (b : Nat) (hb : b < 18446744073709551616) (n : Int) (w : World) (hT : Tab w) : Calls Tryd.prog 3 #[.int .u64 (b : Int), .int .i64 n] w fun e w' => e = .returned (.bool true) ∧ Below w.heap.size w w' := by
  have HT := Lib.hid hT
  have HB := Lib.hid hb
  clear hT hb
  go_enter Tryd.func3, Tryd.ntmps3
  go_wp2_with fail
  refine (parts_32769 _ HT.out).mono ?_
  rintro e w1 ⟨A1, c1, rfl, hb1⟩
  have HT1 := Lib.hid (tab_below HT.out HT.out.1 hb1)
  have HB1 := Lib.hid hb1
  clear hb1
  go_wp2_with fail
  refine (fill_13 _ HT1.out).mono ?_
  rintro e w2 ⟨rfl, hb2⟩
  have HT2 := Lib.hid (tab_below HT1.out HT1.out.1 hb2)
  have HB2 := Lib.hid (below_step rfl HB1.out hb2)
  clear hb2
  go_wp2_with fail
  refine (shifts_any _ HT2.out).mono ?_
  rintro e w3 ⟨rfl, hb3⟩
  have HT3 := Lib.hid (tab_below HT2.out HT2.out.1 hb3)
  have HB3 := Lib.hid (below_step rfl HB2.out hb3)
  clear hb3
  go_wp2_with fail
  refine (parts_any b HB.out _ HT3.out).mono ?_
  rintro e w4 ⟨v, L, rfl, ⟨A, c, rfl, hown⟩, hp, hl64, hb4⟩
  have hcells := (own_cells hown).1
  have HT4 := Lib.hid (tab_below HT3.out HT3.out.1 hb4)
  have HB4 := Lib.hid (below_step rfl HB3.out hb4)
  have HP := Lib.hid hp
  have HL64 := Lib.hid hl64
  have HALL : ∀ k, k < L.length → ∃ (p g o : Nat), A = some ⟨g, o, none⟩ ∧ w4.cell? ⟨g, o + k, none⟩ = some (.int .u64 (p : Int)) ∧ L.drop k = p :: L.drop (k + 1) := fun k hk => by
    obtain ⟨g, o, h1, h2⟩ := hcells k (.int .u64 ((L[k] : Nat) : Int)) (by simp [valsU, hk])
    exact ⟨L[k], g, o, h1, h2, List.drop_eq_getElem_cons hk⟩
  have HALLH := Lib.hid HALL
  obtain ⟨m, hm⟩ : ∃ m, m = L.length := ⟨_, rfl⟩
  have HM := Lib.hid hm
  rw [← hm] at HALLH HL64 ⊢
  clear hb4 hp hl64 hown hcells HALL hm
  go_wp2_with fail
  go_loopw [6, 27] (fun a i wr => ∃ k all rem : Nat, k ≤ m ∧ a = .int .u64 (all : Int) ∧ i = .int .i64 (k : Int) ∧ MetInv b all rem ∧ PartsIs rem (L.drop k) ∧ Tab wr ∧ Below w4.heap.size w4 wr) (fun a i wr => m - (intOf i).toNat)
  case atStart => exact ⟨0, 0, b, Nat.zero_le _, rfl, rfl, met_start HB.out, HP.out, HT4.out, Below.refl _ _⟩
  case round =>
    obtain ⟨k, all, rem, hk, rfl, rfl, hM, hPr, hTr, hBr⟩ := hrel
    have HTR := Lib.hid hTr
    have HBR := Lib.hid hBr
    by_cases hkm : k < m
    · obtain ⟨p, g, o, rfl, hcell, hdrop⟩ := HALLH.out k hkm
      rw [hdrop] at hPr
      obtain ⟨hr0, hpl, hf, hPr2⟩ := hPr
      obtain ⟨m1, m2, m3, m4, m5⟩ := met_part hM hr0 hpl hf
      have hall := hM.1
      have hcell2 : wr.cell? ⟨g, o + k, none⟩ = some (.int .u64 (p : Int)) := (Ext.cell hBr hcell)
      have t0 : decide ((k : Int) < (m : Int)) = true := decide_eq_true (by omega)
      have t1 : ((p : Int) == 0) = false := by simp; omega
      have r1 : bits .and .u64 (all : Int) (p : Int) = 0 := by rw [u64_and_nat _ _ hall hpl, m2]; rfl
      have r9 : bits .or .u64 (all : Int) (p : Int) = ((all ||| p : Nat) : Int) := u64_or_nat _ _ hall hpl
      have k0 : (k : Int) < (m : Int) := by omega
      have HK := Lib.hid hkm
      have HL := Lib.hid (fun W hW => list_ints p hpl W hW)
      have hne : sqs p ≠ [] := fun e => m1 (by
        have h1 : orT (sqs p) = p := orT_sqs hpl
        rw [e] at h1
        exact h1.symm)
      have HNE := Lib.hid (List.length_pos_iff.2 hne)
      have HSQ := Lib.hid (fun x (hx : x ∈ zsq p) => (by
        obtain ⟨s, hs, rfl⟩ := List.mem_map.1 hx
        exact ⟨s, rfl, mem_sqs.1 hs⟩ : ∃ s : Nat, x = (s : Int) ∧ s < 64 ∧ p.testBit s = true))
      have hlen := pop_le p
      rw [pop_sqs] at hlen
      have HLEN := Lib.hid hlen
      have HM3 := Lib.hid m3
      have HM4 := Lib.hid m4
      have HM5 := Lib.hid m5
      have HPR := Lib.hid hPr2
      have HPL := Lib.hid hpl
      have HAL := Lib.hid hall
      obtain ⟨al2, hal2⟩ : ∃ al2, all ||| p = al2 := ⟨_, rfl⟩
      rw [hal2] at r9 HM5
      have HT0 := hTr
      clear hcell hdrop hPr2 hr0 hf m1 m2 m3 m4 m5 hall hM hk hkm hne hlen hpl hal2 hTr hBr HT0
      rw [← zsq_len] at HNE HLEN
      have HL2 := Lib.hid (fun W hW => (by
        have h1 := HL.out W hW
        rw [← zsq_len] at h1
        exact h1 : Calls Tryd.prog 11 #[.int .u64 (p : Int)] W fun e w' => ∃ A c, e = .returned (.slice A (zsq p).length c) ∧ IntsAt w' A (zsq p) ∧ (zsq p).length ≤ c ∧ (A = none → (zsq p).length = 0) ∧ Below W.heap.size W w'))
      have HSOME := Lib.hid (fun A c W h => some_int (zsq p) n A c W h (by have := HLEN.out; omega) HNE.out)
      clear HL HNE HLEN
      generalize zsq p = Z at *
      go_wp2_with fail
      refine (HL2.out _ HTR.out).mono ?_
      rintro e w5 ⟨A2, c2, rfl, hz, -, -, hb5⟩
      have HZ := Lib.hid hz
      have HT5 := Lib.hid (tab_below HTR.out HTR.out.1 hb5)
      have HB5 := Lib.hid (below_step rfl HBR.out hb5)
      clear hb5 hz
      go_wp2_with fail
      refine (HSOME.out _ _ _ HZ.out).mono ?_
      rintro e w6 ⟨x, hx, rfl, hb6⟩
      obtain ⟨s, rfl, hs, hps⟩ := HSQ.out x hx
      obtain ⟨sh1, sh2⟩ := shl_sq hs
      have HT6 := Lib.hid (tab_below HT5.out HT5.out.1 hb6)
      have HB6 := Lib.hid (below_step rfl HB5.out hb6)
      have HF := Lib.hid (fun W hW => (fill_any (2 ^ s) b sh2 HB.out W hW))
      have HRP := Lib.hid (fun R => HM4.out s R hps)
      have j0 : (s : Int) < 64 := by omega
      clear hb6 hx hps HSQ sh2
      obtain ⟨sd, hsd⟩ : ∃ sd, 2 ^ s = sd := ⟨_, rfl⟩
      rw [hsd] at sh1 HF HRP
      clear hsd
      go_wp2_with fail
      refine (HF.out _ HT6.out).mono ?_
      rintro e w7 ⟨R, rfl, hR, -, hb7⟩
      obtain rfl := HRP.out R hR
      have t7 : ((R : Int) != (R : Int)) = false := by simp
      have HT7 := Lib.hid (tab_below HT6.out HT6.out.1 hb7)
      have HB7 := Lib.hid (below_step rfl HB6.out hb7)
      clear hb7 hR HRP HF
      go_wp2_with fail
      go_loopw [54] (fun i wq => ∃ j : Nat, j ≤ 4 ∧ i = .int .i64 (j : Int) ∧ Tab wq ∧ Below w4.heap.size w4 wq) (fun i wq => 4 - (intOf i).toNat)
      case atStart => exact ⟨0, by omega, rfl, HT7.out, HB7.out⟩
      case round =>
        obtain ⟨j, hj, rfl, hTq, hBq⟩ := hrel
        have HTQ := Lib.hid hTq
        have HBQ := Lib.hid hBq
        clear hTq hBq
        by_cases h4 : j = 4
        · subst h4
          clear hj
          have hw : wrap64 ((k : Int) + 1) = (k : Int) + 1 := by have := HK.out; have := HL64.out; unfold wrap64; omega
          go_wp2_with fail
          go_roundw
          case rel => exact ⟨k + 1, al2, _, HK.out, rfl, by rw [hw]; simp, HM5.out, HPR.out, HTQ.out, HBQ.out⟩
          case measure => have := HK.out; rw [hw]; simp [intOf]; omega
        · have cj : j = 0 ∨ j = 1 ∨ j = 2 ∨ j = 3 := by omega
          clear hj h4
          rcases cj with rfl | rfl | rfl | rfl
          · have ix : ∀ W, (Instr.index 31 (.agg #[.int .i64 1, .int .i64 0, .int .i64 (-1), .int .i64 0, .int .i64 0, .int .i64 1, .int .i64 0, .int .i64 (-1)]) (.int .i64 0)).run Tryd.prog W = .ok (.agg #[.int .i64 1, .int .i64 0]) W := fun _ => by kernel_rfl
            have S := Lib.hid (fun W hW => shift_any R HPL.out 1 0 W hW)
            have r2 : bits .and .u64 ((shiftM R 1 0 : Nat) : Int) (all : Int) = 0 := by
              rw [u64_and_nat _ _ (shiftM_lt _ _ _) HAL.out, HM3.out 1 0 (fun s t h => .inl h)]
              rfl
            generalize shiftM R 1 0 = sh at *
            go_wp2_with fail
            refine (S.out _ (tab_below HTQ.out HTQ.out.1 ((Below.refl _ _).alloc (Nat.le_refl _) _))).mono ?_
            rintro e w8 ⟨rfl, hb8⟩
            have hb9 := below_step rfl (HBQ.out.alloc HBQ.out.size _) hb8
            have HB8 := Lib.hid hb9
            have HT8 := Lib.hid (tab_below HT4.out HT4.out.1 hb9)
            clear hb8 hb9
            go_wp2_with fail
            go_roundw
            case rel => exact ⟨1, by omega, rfl, HT8.out, HB8.out⟩
            case measure => simp [intOf]
          · have ix : ∀ W, (Instr.index 31 (.agg #[.int .i64 1, .int .i64 0, .int .i64 (-1), .int .i64 0, .int .i64 0, .int .i64 1, .int .i64 0, .int .i64 (-1)]) (.int .i64 1)).run Tryd.prog W = .ok (.agg #[.int .i64 (-1), .int .i64 0]) W := fun _ => by kernel_rfl
            have S := Lib.hid (fun W hW => shift_any R HPL.out (-1) 0 W hW)
            have r2 : bits .and .u64 ((shiftM R (-1) 0 : Nat) : Int) (all : Int) = 0 := by
              rw [u64_and_nat _ _ (shiftM_lt _ _ _) HAL.out, HM3.out (-1) 0 (fun s t h => .inr (.inl h))]
              rfl
            generalize shiftM R (-1) 0 = sh at *
            go_wp2_with fail
            refine (S.out _ (tab_below HTQ.out HTQ.out.1 ((Below.refl _ _).alloc (Nat.le_refl _) _))).mono ?_
            rintro e w8 ⟨rfl, hb8⟩
            have hb9 := below_step rfl (HBQ.out.alloc HBQ.out.size _) hb8
            have HB8 := Lib.hid hb9
            have HT8 := Lib.hid (tab_below HT4.out HT4.out.1 hb9)
            clear hb8 hb9
            go_wp2_with fail
            go_roundw
            case rel => exact ⟨2, by omega, rfl, HT8.out, HB8.out⟩
            case measure => simp [intOf]
          · have ix : ∀ W, (Instr.index 31 (.agg #[.int .i64 1, .int .i64 0, .int .i64 (-1), .int .i64 0, .int .i64 0, .int .i64 1, .int .i64 0, .int .i64 (-1)]) (.int .i64 2)).run Tryd.prog W = .ok (.agg #[.int .i64 0, .int .i64 1]) W := fun _ => by kernel_rfl
            have S := Lib.hid (fun W hW => shift_any R HPL.out 0 1 W hW)
            have r2 : bits .and .u64 ((shiftM R 0 1 : Nat) : Int) (all : Int) = 0 := by
              rw [u64_and_nat _ _ (shiftM_lt _ _ _) HAL.out, HM3.out 0 1 (fun s t h => .inr (.inr (.inl h)))]
              rfl
            generalize shiftM R 0 1 = sh at *
            go_wp2_with fail
            refine (S.out _ (tab_below HTQ.out HTQ.out.1 ((Below.refl _ _).alloc (Nat.le_refl _) _))).mono ?_
            rintro e w8 ⟨rfl, hb8⟩
            have hb9 := below_step rfl (HBQ.out.alloc HBQ.out.size _) hb8
            have HB8 := Lib.hid hb9
            have HT8 := Lib.hid (tab_below HT4.out HT4.out.1 hb9)
            clear hb8 hb9
            go_wp2_with fail
            go_roundw
            case rel => exact ⟨3, by omega, rfl, HT8.out, HB8.out⟩
            case measure => simp [intOf]
          · have ix : ∀ W, (Instr.index 31 (.agg #[.int .i64 1, .int .i64 0, .int .i64 (-1), .int .i64 0, .int .i64 0, .int .i64 1, .int .i64 0, .int .i64 (-1)]) (.int .i64 3)).run Tryd.prog W = .ok (.agg #[.int .i64 0, .int .i64 (-1)]) W := fun _ => by kernel_rfl
            have S := Lib.hid (fun W hW => shift_any R HPL.out 0 (-1) W hW)
            have r2 : bits .and .u64 ((shiftM R 0 (-1) : Nat) : Int) (all : Int) = 0 := by
              rw [u64_and_nat _ _ (shiftM_lt _ _ _) HAL.out, HM3.out 0 (-1) (fun s t h => .inr (.inr (.inr h)))]
              rfl
            generalize shiftM R 0 (-1) = sh at *
            go_wp2_with fail
            refine (S.out _ (tab_below HTQ.out HTQ.out.1 ((Below.refl _ _).alloc (Nat.le_refl _) _))).mono ?_
            rintro e w8 ⟨rfl, hb8⟩
            have hb9 := below_step rfl (HBQ.out.alloc HBQ.out.size _) hb8
            have HB8 := Lib.hid hb9
            have HT8 := Lib.hid (tab_below HT4.out HT4.out.1 hb9)
            clear hb8 hb9
            go_wp2_with fail
            go_roundw
            case rel => exact ⟨4, by omega, rfl, HT8.out, HB8.out⟩
            case measure => simp [intOf]
    · obtain rfl : k = m := by omega
      have t0 : decide ((k : Int) < (k : Int)) = false := decide_eq_false (by omega)
      have hz : rem = 0 := by
        have h1 : L.drop k = [] := List.drop_eq_nil_of_le (by rw [HM.out]; exact Nat.le_refl _)
        rw [h1] at hPr
        exact hPr
      subst hz
      obtain rfl := met_end hM
      have t9 : ((all : Int) == (all : Int)) = true := beq_self_eq_true _
      clear hk hkm hM hPr hTr hBr
      go_wp2_with fail
      go_ret
      exact ⟨by first | rfl | simp, below_step rfl HB4.out HBR.out⟩
theorem bitsParts_walk (a n : Int) (w : World) (ha : (Lit.int .u64 a).wf = true) (_ : (Lit.int .i64 n).wf = true) (hT : Tab w) : Calls Tryd.prog 3 #[.int .u64 a, .int .i64 n] w fun e w' => e = .returned (.bool true) ∧ Below w.heap.size w w' := by
  have h := (Lit.wf_int_iff _ _).1 ha
  obtain ⟨m, rfl⟩ := Int.eq_ofNat_of_zero_le (a := a) h.1
  exact bitsParts_law m (by have h1 : (m : Int) ≤ 18446744073709551615 := h.2; omega) n w hT
end Go.Proofs.YtpoepaiaehhloaaDoor
