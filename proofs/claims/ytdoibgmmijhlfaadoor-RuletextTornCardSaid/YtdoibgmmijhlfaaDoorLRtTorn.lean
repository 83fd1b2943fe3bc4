/- Walk: RuletextTorn. -/
import Derived.Test.YtdoibgmmijhlfaaDoorLRtBack
import Derived.Test.YtdoibgmmijhlfaaDoorRtSA
namespace Go.Proofs.YtdoibgmmijhlfaaDoor
open Go.RowKit
set_option linter.unusedVariables false
set_option linter.unusedSimpArgs false
theorem torn_idx {n l : Int} (hl : 1 ≤ l) : -l < n.tmod l ∧ n.tmod l < l ∧ 0 ≤ (n.tmod l + l).tmod l ∧ (n.tmod l + l).tmod l < l := by
  have h1 : -l < n.tmod l ∧ n.tmod l < l := by
    have a := Int.tmod_lt_of_pos n (show 0 < l by omega)
    refine ⟨?_, a⟩
    have b := Int.tmod_lt_of_pos (-n) (show 0 < l by omega)
    rw [Int.neg_tmod] at b
    omega
  refine ⟨h1.1, h1.2, Int.tmod_nonneg _ (by omega), Int.tmod_lt_of_pos _ (by omega)⟩
theorem trim_any (s : BL) (hs : s.length ≤ 8192) (W : World) : Calls Tryd.prog 16 #[.string (strU s), .string ⟨#[10]⟩] W fun e w' => ∃ t : BL, t.length ≤ 8192 ∧ e = .returned (.string (strU t)) ∧ w' = W := by
  have h := Tryd.strings_TrimSuffix (strU s) ⟨#[10]⟩ W (by rw [strU_size]; omega)
  rw [strU_data] at h
  refine h.mono fun e w' ⟨a, b⟩ => ⟨_, ?_, a, b⟩
  unfold Lib.trimSuffix
  split
  · rw [List.length_take]; omega
  · exact hs
set_option maxHeartbeats 8000000 in
set_option maxRecDepth 100000 in
theorem ruletextTorn_walk (R : RulesM) (v : Value) (n : Int) (w : World) (hR : RulesAt w v R) (hw : LibW w) :
    Calls Tryd.prog 5 #[v, .int .i64 n] w fun e w' => e = .returned (.bool true) ∧ Ext w w' := by
  have HPR := Lib.hid (fun W (x : Ext w W) (Q : RulesM) (q : Value) (hq : RulesAt W q Q) => Print_any Q q W hq (hw.ext x))
  have HPA := Lib.hid (fun W (x : Ext w W) (T : ByteArray) (t : BL) (ht : T = strU t) => Parse_any T t ht W (hw.ext x) (libW_size (hw.ext x)))
  have HRR := Lib.hid (fun W (x : Ext w W) => hR.ext x)
  have HLW := Lib.hid (fun W (x : Ext w W) => hw.ext x)
  obtain ⟨pA, pc, sA, sc, eA, ec, rfl, -⟩ := hR
  obtain ⟨xa, k1⟩ := blks1 w #[.string R.name, .int .i64 R.width, .int .i64 R.height, .slice pA R.pieces.length pc, .slice sA R.start.length sc, .bool R.falls, .bool R.keeps, .slice eA R.ends.length ec, .int .i64 R.blocked, .int .i64 R.quiet, .int .i64 R.rept] 26
  have X1 := Lib.hid xa
  have K1 := Lib.hid k1
  clear hw xa k1
  go_enter Tryd.func5, Tryd.ntmps5
  go_upto_region 1 with fail
  generalize w.alloc _ = w1 at *
  obtain ⟨B, hB⟩ : ∃ B, B = w.heap.size := ⟨_, rfl⟩
  rw [← hB] at K1 ⊢
  have HB := Lib.hid hB
  clear hB
  go_wp2_with fail
  refine (three_any w1).mono ?_
  rintro e w2 ⟨v3, rfl, h3, x2⟩
  have X2 := Lib.hid (ext_trans X1.out x2)
  have K2 := Lib.hid (K1.out.ext x2)
  have HP3 := Lib.hid (HPR.out w2 X2.out threeR v3 h3)
  clear x2 h3 K1 X1
  go_wp2_with fail
  refine HP3.out.mono ?_
  rintro e w3 ⟨hres, x3⟩
  rcases hres with ⟨-, rfl⟩ | ⟨hno, -⟩
  · have X3 := Lib.hid (ext_trans X2.out x3)
    have K3 := Lib.hid (K2.out.ext x3)
    have HPA3 := Lib.hid (HPA.out w3 X3.out (strU (printT threeR)) (printT threeR) rfl)
    clear x3 HP3 K2 X2
    go_wp2_with fail
    refine HPA3.out.mono ?_
    rintro e w4 ⟨hres, x4⟩
    obtain ⟨u4, rfl, h4⟩ : ∃ u, e = .returned (.tuple #[u, .int .i64 0]) ∧ RulesAt w4 u threeR := by
      rcases hres with ⟨Q0, u0, hq, he, hu⟩ | ⟨hq, -⟩
      · rw [parse_back zero_three] at hq
        injection hq with hq
        subst hq
        exact ⟨u0, he, hu⟩
      · rw [parse_back zero_three] at hq
        cases hq
    have X4 := Lib.hid (ext_trans X3.out x4)
    have K4 := Lib.hid (K3.out.ext x4)
    obtain ⟨a1, a2, a3, a4, a5, a6, rfl, -⟩ := h4
    clear x4 hres HPA3 X3 K3
    go_upto_region 3 with fail
    obtain ⟨x5, k5⟩ := blks1 w4 #[.string threeR.name, .int .i64 threeR.width, .int .i64 threeR.height, .slice a1 threeR.pieces.length a2, .slice a3 threeR.start.length a4, .bool threeR.falls, .bool threeR.keeps, .slice a5 threeR.ends.length a6, .int .i64 threeR.blocked, .int .i64 threeR.quiet, .int .i64 threeR.rept] 26
    generalize w4.alloc _ = w5 at *
    have X5 := Lib.hid (ext_trans X4.out x5)
    have K5 := Lib.hid (K4.out.ext x5)
    clear x5 k5 X4 K4
    obtain ⟨xe, ke⟩ := blks1 w5 #[.int .i64 0, .int .i64 0] 31
    have HF := Lib.hid (fine_extR (fine_any (some ⟨w5.heap.size, 0, none⟩) 2 2 [0, 0] _ rfl (by omega) (blk_intsR ke)))
    have XE := Lib.hid (ext_trans X5.out xe)
    rw [show allZero [0, 0] = true from rfl] at HF
    have K6 := Lib.hid (K5.out.ext xe)
    clear xe ke X5 K5
    go_wp2_with fail
    refine HF.out.mono ?_
    rintro e w7 ⟨rfl, x7⟩
    have X7 := Lib.hid (ext_trans XE.out x7)
    have K7 := Lib.hid (K6.out.ext x7)
    clear x7 XE K6 HF
    go_wp2_with fail
    refine (pre13_any _ _).mono ?_
    rintro e w8 ⟨rfl, rfl⟩
    rw [pre_three]
    have h1 := K7.out.cell
    go_wp2_with fail
    refine (HPR.out _ X7.out R _ (HRR.out _ X7.out)).mono ?_
    rintro e w8 ⟨hres, x8⟩
    have X8 := Lib.hid (ext_trans X7.out x8)
    clear h1 x8 X7 K7
    rcases hres with ⟨hE, rfl⟩ | ⟨hE, rfl⟩
    · have HPL := Lib.hid (print_len (valid_of hE) (lets_of hE)).1
      clear hE
      generalize printT R = s at *
      go_wp2_with fail
      refine (trim_any s HPL.out _).mono ?_
      rintro e w9 ⟨t, htl, rfl, rfl⟩
      have HSA := Lib.hid (splitA_any 10 t htl _ (HLW.out _ X8.out))
      go_wp2_with fail
      refine HSA.out.mono ?_
      rintro e w9 ⟨L, g, hL1, hL2, hL3, rfl, kg, hg, x9⟩
      obtain ⟨k0, hk0⟩ : ∃ k0, k0 + 1 = L.length := ⟨L.length - 1, by omega⟩
      obtain ⟨y, hy⟩ : ∃ y, L[k0]? = some y := ⟨L[k0]'(by omega), List.getElem?_eq_getElem _⟩
      have hyl := hL3 y (List.mem_of_getElem? hy)
      have hc : w9.cell? ⟨g, k0, none⟩ = some (.string (strU y)) := by rw [kg.cell, List.getElem?_toArray]; exact strsC_get hy
      have hz := kg.frozen k0
      have hwr : IntKind.i64.wrap ((L.length : Int) - 1) = (k0 : Int) := by rw [IntKind.wrap_i64]; omega
      have i0 : (0 : Int) ≤ (k0 : Int) := by omega
      have i1 : (k0 : Int) < (L.length : Int) := by omega
      have hsz : (strU y).size ≤ 8192 := by rw [strU_size]; exact hyl
      have X9 := Lib.hid (ext_trans X8.out x9)
      have hg0 : w.heap.size ≤ g := Nat.le_trans X8.out.size hg
      have XS := Lib.hid (ext_set X9.out (p := ⟨g, k0, none⟩) hg0 (.string (strU (y ++ [10]))))
      have KS := Lib.hid (strsC_set L k0 (y ++ [10]) ▸ kg.set_ k0 (.string (strU (y ++ [10]))))
      have HL := Lib.hid (And.intro hL1 (And.intro hL2 (And.intro hL3 (And.intro hk0 hyl))))
      have happ : strU y ++ (⟨#[10]⟩ : ByteArray) = strU (y ++ [10]) := strU_app y [10]
      clear kg hg hg0 hL1 hL2 hL3 hy hyl x9 hk0 X8 HSA
      go_upto_region 10 with fail
      try rw [happ]
      generalize w9.setCell ⟨g, k0, none⟩ (.string (strU (y ++ [10]))) = w10 at *
      clear hc hz hwr i0 i1 hsz happ X9
      obtain ⟨M, hM⟩ : ∃ M, M = L.set k0 (y ++ [10]) := ⟨_, rfl⟩
      have HML : Go.RowKit.Hid (M.length = L.length) := Lib.hid (by rw [hM, List.length_set])
      have HM3 : Go.RowKit.Hid (∀ x ∈ M, x.length ≤ 8193) := Lib.hid (fun x hx => by
        rw [hM] at hx
        rcases List.mem_or_eq_of_mem_set hx with h | rfl
        · have := HL.out.2.2.1 x h; omega
        · have := HL.out.2.2.2.2; simp; omega)
      rw [← hM] at KS
      have e9 := HML.out
      have hL12 := And.intro HL.out.1 HL.out.2.1
      rw [← e9] at hL12 ⊢
      clear hM e9 HL HML
      obtain ⟨q1, q2, q3, q4⟩ := torn_idx (n := n) (l := (M.length : Int)) (by omega)
      obtain ⟨k, hk⟩ := Int.eq_ofNat_of_zero_le q3
      have hk' : (n.tmod (M.length : Int) + (M.length : Int)).tmod (M.length : Int) = (k : Int) := hk
      have hkl : k < M.length := by omega
      have HKL := Lib.hid hkl
      have HI : (wrap64 (n.tmod (M.length : Int) + (M.length : Int))).tmod (M.length : Int) = (k : Int) := by
        have hw : wrap64 (n.tmod (M.length : Int) + (M.length : Int)) = n.tmod (M.length : Int) + (M.length : Int) := by unfold wrap64; omega
        rw [hw]
        exact hk'
      have z1 : ¬ M = [] := by intro h; rw [h] at hkl; simp at hkl
      have hk1 : IntKind.i64.wrap ((k : Int) + 1) = ((k + 1 : Nat) : Int) := by rw [IntKind.wrap_i64]; omega
      have HL12 := Lib.hid hL12
      have HCL := Lib.hid (clone_strs M g M.length w10 KS.out (by omega) (by omega))
      clear hk hk' q1 q2 q3 q4 hkl hL12
      go_wp2_with fail
      refine HCL.out.mono ?_
      rintro e w11 ⟨g2, c2, rfl, o2, x11⟩
      have HDL := Lib.hid (delete_strs w10 w11 M g2 c2 k HKL.out o2)
      clear HI z1 o2 HCL
      go_wp2_with fail
      refine HDL.out.mono ?_
      rintro e w12 ⟨rfl, o3, b3⟩
      have x12 := b3 _ _ (Nat.le_refl _) x11
      have X12 := Lib.hid (ext_trans XS.out x12)
      have HJN := Lib.hid (join_strs w10 w12 (M.eraseIdx k) g2 c2 (fun x hx => HM3.out x (List.mem_of_mem_eraseIdx hx)) (by have := HL12.out.2; rw [List.length_eraseIdx]; split <;> omega) o3)
      clear o3 b3 x11 x12 HDL XS hk1
      go_wp2_with fail
      refine HJN.out.mono ?_
      rintro e w13 ⟨s2, rfl, x13⟩
      have X13 := Lib.hid (ext_trans X12.out x13)
      clear x13 X12 HJN
      have HPC := Lib.hid (HPA.out _ X13.out _ s2 rfl)
      go_wp2_with fail
      refine HPC.out.mono ?_
      rintro e wA ⟨hres, xA⟩
      have XA := Lib.hid (ext_trans X13.out xA)
      clear xA HPC
      rcases hres with ⟨Q, q, hq, rfl, hu⟩ | ⟨hno, cd, hcd, rfl⟩
      · obtain ⟨hz, ht, -⟩ := parse_says hq
        have HZ := Lib.hid hz
        have HT := Lib.hid ht
        have HU := Lib.hid hu
        obtain ⟨d1, d2, d3, d4, d5, d6, rfl, -⟩ := hu
        clear hz ht hq
        go_upto_region 13 with fail
        obtain ⟨x7, k7⟩ := blks1 wA #[.string Q.name, .int .i64 Q.width, .int .i64 Q.height, .slice d1 Q.pieces.length d2, .slice d3 Q.start.length d4, .bool Q.falls, .bool Q.keeps, .slice d5 Q.ends.length d6, .int .i64 Q.blocked, .int .i64 Q.quiet, .int .i64 Q.rept] 26
        generalize wA.alloc _ = wB at *
        obtain ⟨D, hD⟩ : ∃ D, D = wA.heap.size := ⟨_, rfl⟩
        rw [← hD] at k7 ⊢
        have XB := Lib.hid (ext_trans XA.out x7)
        have HUB := HU.out.ext x7
        have h1 := k7.cell
        have HTB := Lib.hid (HPR.out _ XB.out Q _ HUB)
        clear hD k7 x7 HUB
        go_wp2_with fail
        refine HTB.out.mono ?_
        rintro e wC ⟨⟨hck, rfl⟩ | ⟨hck, rfl⟩, xC⟩
        · have XC := Lib.hid (ext_trans XB.out xC)
          rw [HT.out]
          clear xC h1 hck
          go_wp2
          go_ret
          exact ⟨rfl, XC.out⟩
        · exact absurd HZ.out hck
      · have tcd : (cd != 0) = true := by simpa using hcd
        clear hno hcd
        unfold zeroRulesV
        go_upto_region 13 with fail
        obtain ⟨x7, k7⟩ := blks1 wA #[.string ⟨#[]⟩, .int .i64 0, .int .i64 0, .slice none 0 0, .slice none 0 0, .bool false, .bool false, .slice none 0 0, .int .i64 0, .int .i64 0, .int .i64 0] 26
        generalize wA.alloc _ = wB at *
        have XB := Lib.hid (ext_trans XA.out x7)
        clear k7 x7
        go_wp2
        go_ret
        exact ⟨rfl, XB.out⟩
    · have t0 : (rulesE R != 0) = true := by simpa using hE
      generalize rulesE R = E at *
      clear hE
      go_wp2
      go_ret
      exact ⟨rfl, X8.out⟩
  · exact absurd zero_three hno
end Go.Proofs.YtdoibgmmijhlfaaDoor
