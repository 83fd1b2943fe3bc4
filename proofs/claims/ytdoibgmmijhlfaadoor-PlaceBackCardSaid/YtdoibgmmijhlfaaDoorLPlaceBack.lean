/- Walk: PlaceBack. -/
import Derived.Test.YtdoibgmmijhlfaaDoorPlaceU
namespace Go.Proofs.YtdoibgmmijhlfaaDoor
open Go.RowKit
set_option linter.unusedVariables false
set_option linter.unusedSimpArgs false
theorem text_read {R : RulesM} {P : PosM} (h : checkE R P = 0) : readT R (textT R P) = some P := by
  obtain ⟨h1, h2⟩ := check_zero h
  have hv := valid_of h1
  exact text_back (lets_of h1) hv.pieces6 (side_facts hv).1.1 (side_facts hv).1.2 (side_facts hv).2.1 (side_facts hv).2.2 h2
theorem same_lens {R : RulesM} {P : PosM} (h : checkE R P = 0) : P.cells.length ≤ 100000 ∧ P.hand0.length ≤ 100000 ∧ P.hand1.length ≤ 100000 := by
  obtain ⟨h1, h2⟩ := check_zero h
  have hv := valid_of h1
  obtain ⟨⟨f1, f2, f3⟩, -⟩ := sound_facts h2
  have hs := side_facts hv
  have h6 := hv.pieces6
  have : R.width * R.height ≤ 8 * 8 := Int.mul_le_mul hs.1.2 hs.2.2 (by omega) (by omega)
  omega
set_option maxHeartbeats 8000000 in
set_option maxRecDepth 100000 in
theorem placeBack_walk (R : RulesM) (P : PosM) (v u : Value) (S : ByteArray) (w : World) (hR : RulesAt w v R) (hP : PosAt w u P) (hw : LibW w) :
    Calls Tryd.prog 3 #[v, u, .string S] w fun e w' => e = .returned (.bool true) ∧ Ext w w' := by
  obtain ⟨s, hS⟩ : ∃ s, S = strU s := ⟨S.data.toList, (strU_ext rfl)⟩
  have HBG := Lib.hid (fun W (x : Ext w W) => begins_any W (hw.ext x))
  have HTX := Lib.hid (fun W (x : Ext w W) (Q : PosM) (q : Value) (hq : PosAt W q Q) => Text_any R Q v q W (hR.ext x) hq (hw.ext x))
  have HRD := Lib.hid (fun W (x : Ext w W) (T : ByteArray) (t : BL) (ht : T = strU t) => read_any R v T t ht W (hR.ext x) (hw.ext x))
  have HPP := Lib.hid (fun W (x : Ext w W) => hP.ext x)
  have HS := Lib.hid hS
  obtain ⟨pA, pc, sA, sc, eA, ec, rfl, -⟩ := hR
  obtain ⟨cA, cc, aA, ac, bA, bc, rfl, -⟩ := hP
  clear hw hS
  obtain ⟨xa, k1, k2⟩ := blks2 w #[.string R.name, .int .i64 R.width, .int .i64 R.height, .slice pA R.pieces.length pc, .slice sA R.start.length sc, .bool R.falls, .bool R.keeps, .slice eA R.ends.length ec, .int .i64 R.blocked, .int .i64 R.quiet, .int .i64 R.rept] 26 #[.slice cA P.cells.length cc, .slice aA P.hand0.length ac, .slice bA P.hand1.length bc, .int .i64 P.turn, .int .i64 P.quiet] 29
  go_enter Tryd.func3, Tryd.ntmps3
  go_upto_region 1 with fail
  generalize (w.alloc _).alloc _ = w3 at *
  obtain ⟨B, hB⟩ : ∃ B, B = w.heap.size := ⟨_, rfl⟩
  rw [← hB] at k1 k2 ⊢
  obtain ⟨C, hC⟩ : ∃ C, C = B + 1 := ⟨_, rfl⟩
  rw [← hC] at k2 ⊢
  have K1 := Lib.hid k1
  have K2 := Lib.hid k2
  have X3 := Lib.hid xa
  clear hB hC k1 k2 xa
  go_wp2_with fail
  refine (HBG.out _ X3.out).mono ?_
  rintro e w4 ⟨rfl, x4⟩
  have X4 := Lib.hid (ext_trans X3.out x4)
  have KR4 := Lib.hid (K1.out.ext x4)
  have KP4 := Lib.hid (K2.out.ext x4)
  have h1 := KR4.out.cell
  have h2 := KP4.out.cell
  clear x4 X3 K1 K2 HBG
  go_wp2_with fail
  refine (HTX.out _ X4.out P _ (HPP.out _ X4.out)).mono ?_
  rintro e w5 ⟨hres, x5⟩
  have X5 := Lib.hid (ext_trans X4.out x5)
  have KR5 := Lib.hid (KR4.out.ext x5)
  have KP5 := Lib.hid (KP4.out.ext x5)
  clear h1 h2 x5 X4 KR4 KP4
  rcases hres with ⟨hE, rfl⟩ | ⟨hE, rfl⟩
  · have HE := Lib.hid hE
    have HTR := Lib.hid (text_read hE)
    have h1 := KR5.out.cell
    clear hE
    go_wp2_with fail
    refine (HRD.out _ X5.out _ (textT R P) rfl).mono ?_
    rintro e w6 ⟨hres, x6⟩
    obtain ⟨q, rfl, hq⟩ : ∃ q, e = .returned (.tuple #[q, .int .i64 0]) ∧ PosAt w6 q P := by
      rcases hres with ⟨Q, q, -, h, he, hp⟩ | ⟨h | h, -⟩
      · rw [HTR.out] at h
        injection h with h
        subst h
        exact ⟨q, he, hp⟩
      · exact absurd (check_zero HE.out).1 h
      · rw [HTR.out] at h
        cases h
    have X6 := Lib.hid (ext_trans X5.out x6)
    have KR6 := Lib.hid (KR5.out.ext x6)
    have KP6 := Lib.hid (KP5.out.ext x6)
    have HQ6 := Lib.hid hq
    obtain ⟨dA, dc, fA, fc, gA, gc, rfl, -⟩ := hq
    clear h1 x6 X5 KR5 KP5 hres
    go_upto_region 6 with fail
    obtain ⟨x7, k7⟩ := blks1 w6 #[.slice dA P.cells.length dc, .slice fA P.hand0.length fc, .slice gA P.hand1.length gc, .int .i64 P.turn, .int .i64 P.quiet] 29
    generalize w6.alloc _ = w7 at *
    obtain ⟨D, hD⟩ : ∃ D, D = w6.heap.size := ⟨_, rfl⟩
    rw [← hD] at k7 ⊢
    have X7 := Lib.hid (ext_trans X6.out x7)
    have KR7 := Lib.hid (KR6.out.ext x7)
    have h2 := (KP6.out.ext x7).cell
    have h3 := k7.cell
    obtain ⟨l1, l2, l3⟩ := same_lens HE.out
    have HSM := Lib.hid (same_yes P _ _ w7 (HPP.out _ X7.out) (HQ6.out.ext x7) l1 l2 l3)
    clear hD k7 x7 l1 l2 l3 X6 KR6 KP6 HQ6
    go_wp2_with fail
    refine HSM.out.mono ?_
    rintro e w8 ⟨rfl, x8⟩
    have X8 := Lib.hid (ext_trans X7.out x8)
    have KR8 := Lib.hid (KR7.out.ext x8)
    clear x8 h2 h3 X7 KR7 HSM
    have h1 := KR8.out.cell
    go_wp2_with fail
    refine (HRD.out _ X8.out S s HS.out).mono ?_
    rintro e wA ⟨hres, xA⟩
    have XA := Lib.hid (ext_trans X8.out xA)
    have KA := Lib.hid (KR8.out.ext xA)
    clear h1 xA
    rcases hres with ⟨Q, q, hr0, hrt, rfl, hq⟩ | ⟨hno, cd, hcd, rfl⟩
    · have HQA := Lib.hid hq
      have hck : checkE R Q = 0 := by unfold checkE; rw [if_pos hr0]; exact (read_says hrt).1
      have hts := (read_says hrt).2
      have HCK := Lib.hid hck
      have HTS := Lib.hid hts
      obtain ⟨dA, dc, fA, fc, gA, gc, rfl, -⟩ := hq
      clear hck hts hr0 hrt
      go_upto_region 9 with fail
      obtain ⟨x7, k7⟩ := blks1 wA #[.slice dA Q.cells.length dc, .slice fA Q.hand0.length fc, .slice gA Q.hand1.length gc, .int .i64 Q.turn, .int .i64 Q.quiet] 29
      generalize wA.alloc _ = wB at *
      obtain ⟨D, hD⟩ : ∃ D, D = wA.heap.size := ⟨_, rfl⟩
      rw [← hD] at k7 ⊢
      have XB := Lib.hid (ext_trans XA.out x7)
      have HQB := HQA.out.ext x7
      have h1 := (KA.out.ext x7).cell
      have h2 := k7.cell
      have HTB := Lib.hid (HTX.out _ XB.out Q _ HQB)
      clear hD k7 x7 HQB
      go_wp2_with fail
      refine HTB.out.mono ?_
      rintro e wC ⟨⟨hck, rfl⟩ | ⟨hck, rfl⟩, xC⟩
      · have XC := Lib.hid (ext_trans XB.out xC)
        rw [HTS.out]
        have e1 := HS.out
        have e3 : ((strU s).toList == S.toList) = true := by rw [e1, beq_self_eq_true]
        clear e1 xC h1 h2 hck
        go_wp2
        go_ret
        exact ⟨rfl, XC.out⟩
      · exact absurd HCK.out hck
    · have tcd : (cd != 0) = true := by simpa using hcd
      clear hno hcd
      go_upto_region 9 with fail
      obtain ⟨x7, k7⟩ := blks1 wA #[.slice none 0 0, .slice none 0 0, .slice none 0 0, .int .i64 0, .int .i64 0] 29
      generalize wA.alloc _ = wB at *
      generalize wA.heap.size = D at *
      have XB := Lib.hid (ext_trans XA.out x7)
      have h2 := k7.cell
      clear k7 x7
      go_wp2
      go_ret
      exact ⟨rfl, XB.out⟩
  · have t0 : (checkE R P == 0) = false := by simpa using hE
    generalize checkE R P = E at *
    clear hE
    have h1 := KR5.out.cell
    go_wp2_with fail
    refine (HRD.out _ X5.out S s HS.out).mono ?_
    rintro e wA ⟨hres, xA⟩
    have XA := Lib.hid (ext_trans X5.out xA)
    have KA := Lib.hid (KR5.out.ext xA)
    clear h1 xA
    rcases hres with ⟨Q, q, hr0, hrt, rfl, hq⟩ | ⟨hno, cd, hcd, rfl⟩
    · have HQA := Lib.hid hq
      have hck : checkE R Q = 0 := by unfold checkE; rw [if_pos hr0]; exact (read_says hrt).1
      have hts := (read_says hrt).2
      have HCK := Lib.hid hck
      have HTS := Lib.hid hts
      obtain ⟨dA, dc, fA, fc, gA, gc, rfl, -⟩ := hq
      clear hck hts hr0 hrt
      go_upto_region 9 with fail
      obtain ⟨x7, k7⟩ := blks1 wA #[.slice dA Q.cells.length dc, .slice fA Q.hand0.length fc, .slice gA Q.hand1.length gc, .int .i64 Q.turn, .int .i64 Q.quiet] 29
      generalize wA.alloc _ = wB at *
      obtain ⟨D, hD⟩ : ∃ D, D = wA.heap.size := ⟨_, rfl⟩
      rw [← hD] at k7 ⊢
      have XB := Lib.hid (ext_trans XA.out x7)
      have HQB := HQA.out.ext x7
      have h1 := (KA.out.ext x7).cell
      have h2 := k7.cell
      have HTB := Lib.hid (HTX.out _ XB.out Q _ HQB)
      clear hD k7 x7 HQB
      go_wp2_with fail
      refine HTB.out.mono ?_
      rintro e wC ⟨⟨hck, rfl⟩ | ⟨hck, rfl⟩, xC⟩
      · have XC := Lib.hid (ext_trans XB.out xC)
        rw [HTS.out]
        have e1 := HS.out
        have e3 : ((strU s).toList == S.toList) = true := by rw [e1, beq_self_eq_true]
        clear e1 xC h1 h2 hck
        go_wp2
        go_ret
        exact ⟨rfl, XC.out⟩
      · exact absurd HCK.out hck
    · have tcd : (cd != 0) = true := by simpa using hcd
      clear hno hcd
      go_upto_region 9 with fail
      obtain ⟨x7, k7⟩ := blks1 wA #[.slice none 0 0, .slice none 0 0, .slice none 0 0, .int .i64 0, .int .i64 0] 29
      generalize wA.alloc _ = wB at *
      generalize wA.heap.size = D at *
      have XB := Lib.hid (ext_trans XA.out x7)
      have h2 := k7.cell
      clear k7 x7
      go_wp2
      go_ret
      exact ⟨rfl, XB.out⟩
end Go.Proofs.YtdoibgmmijhlfaaDoor
