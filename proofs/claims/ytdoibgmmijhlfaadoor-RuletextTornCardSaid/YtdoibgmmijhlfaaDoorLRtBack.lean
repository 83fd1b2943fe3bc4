/- Walk: RuletextBack. -/
import Derived.Test.YtdoibgmmijhlfaaDoorRtN
import Derived.Test.YtdoibgmmijhlfaaDoorRtO
import Derived.Test.YtdoibgmmijhlfaaDoorGLibB
import Derived.Test.YtdoibgmmijhlfaaDoorThree
namespace Go.Proofs.YtdoibgmmijhlfaaDoor
open Go.RowKit
set_option linter.unusedVariables false
set_option linter.unusedSimpArgs false
theorem fine_extR {f : FuncId} {args : Array Value} {w : World} {v : Value} (h : Calls Tryd.prog f args w fun e w' => e = .returned v ∧ w = w') : Calls Tryd.prog f args w fun e w' => e = .returned v ∧ Ext w w' :=
  h.mono fun _ _ ⟨he, hw⟩ => ⟨he, by rw [← hw]; exact Below.refl _ _⟩
theorem blk_intsR {w : World} {g : Nat} {t : TypeId} {zs : List Int} (h : Blk w g t (zs.map (Value.int .i64)).toArray) : IntsAt w (some ⟨g, 0, none⟩) zs := fun i hi => ⟨g, 0, rfl, by
  rw [Nat.zero_add, h.cell]
  simp [hi]⟩
theorem libW_size {w : World} (h : LibW w) : 4 ≤ w.heap.size := by
  have ht := h.tab
  have hc := ht.cell gPow 0 (by decide)
  have := lt_of_cell hc
  simp only at this
  omega
theorem zero_three : rulesE threeR = 0 := by decide +kernel
theorem pre_three : ([103, 97, 109, 101, 32, 84, 73, 67, 32, 51, 32, 51, 10] : BL).isPrefixOf (printT threeR) = true := by decide +kernel
theorem pre13_any (l : BL) (W : World) : Calls Tryd.prog 14 #[.string (strU l), .string ⟨#[103, 97, 109, 101, 32, 84, 73, 67, 32, 51, 32, 51, 10]⟩] W fun e w' => e = .returned (.bool (([103, 97, 109, 101, 32, 84, 73, 67, 32, 51, 32, 51, 10] : BL).isPrefixOf l)) ∧ w' = W := by
  have h := Tryd.strings_HasPrefix (strU l) ⟨#[103, 97, 109, 101, 32, 84, 73, 67, 32, 51, 32, 51, 10]⟩ W
  rw [strU_data] at h
  exact h
set_option maxHeartbeats 8000000 in
set_option maxRecDepth 100000 in
theorem ruletextBack_walk (R : RulesM) (v : Value) (S : ByteArray) (w : World) (hR : RulesAt w v R) (hw : LibW w) :
    Calls Tryd.prog 4 #[v, .string S] w fun e w' => e = .returned (.bool true) ∧ Ext w w' := by
  obtain ⟨s, hS⟩ : ∃ s, S = strU s := ⟨S.data.toList, (strU_ext rfl)⟩
  have HPR := Lib.hid (fun W (x : Ext w W) (Q : RulesM) (q : Value) (hq : RulesAt W q Q) => Print_any Q q W hq (hw.ext x))
  have HPA := Lib.hid (fun W (x : Ext w W) (T : ByteArray) (t : BL) (ht : T = strU t) => Parse_any T t ht W (hw.ext x) (libW_size (hw.ext x)))
  have HRR := Lib.hid (fun W (x : Ext w W) => hR.ext x)
  obtain ⟨pA, pc, sA, sc, eA, ec, rfl, -⟩ := hR
  obtain ⟨xa, k1⟩ := blks1 w #[.string R.name, .int .i64 R.width, .int .i64 R.height, .slice pA R.pieces.length pc, .slice sA R.start.length sc, .bool R.falls, .bool R.keeps, .slice eA R.ends.length ec, .int .i64 R.blocked, .int .i64 R.quiet, .int .i64 R.rept] 26
  have X1 := Lib.hid xa
  have K1 := Lib.hid k1
  have HS := Lib.hid hS
  clear hw hS xa k1
  go_enter Tryd.func4, Tryd.ntmps4
  go_upto_region 1 with fail
  generalize w.alloc _ = w1 at *
  generalize w.heap.size = B at *
  go_wp2_with fail
  refine (three_any w1).mono ?_
  rintro e w2 ⟨v3, rfl, h3, x2⟩
  have X2 := Lib.hid (ext_trans X1.out x2)
  have K2 := Lib.hid (K1.out.ext x2)
  have HP3 := Lib.hid (HPR.out w2 X2.out threeR v3 h3)
  clear x2 h3 K1 X1
  go_wp2_with fail
  refine HP3.out.mono ?_
  rintro e w3 ⟨hres, x3⟩
  rcases hres with ⟨-, rfl⟩ | ⟨hno, -⟩
  · have X3 := Lib.hid (ext_trans X2.out x3)
    have K3 := Lib.hid (K2.out.ext x3)
    have HPA3 := Lib.hid (HPA.out w3 X3.out (strU (printT threeR)) (printT threeR) rfl)
    clear x3 HP3 K2 X2
    go_wp2_with fail
    refine HPA3.out.mono ?_
    rintro e w4 ⟨hres, x4⟩
    obtain ⟨u4, rfl, h4⟩ : ∃ u, e = .returned (.tuple #[u, .int .i64 0]) ∧ RulesAt w4 u threeR := by
      rcases hres with ⟨Q0, u0, hq, he, hu⟩ | ⟨hq, -⟩
      · rw [parse_back zero_three] at hq
        injection hq with hq
        subst hq
        exact ⟨u0, he, hu⟩
      · rw [parse_back zero_three] at hq
        cases hq
    have X4 := Lib.hid (ext_trans X3.out x4)
    have K4 := Lib.hid (K3.out.ext x4)
    obtain ⟨a1, a2, a3, a4, a5, a6, rfl, -⟩ := h4
    clear x4 hres HPA3 X3 K3
    go_upto_region 3 with fail
    obtain ⟨x5, k5⟩ := blks1 w4 #[.string threeR.name, .int .i64 threeR.width, .int .i64 threeR.height, .slice a1 threeR.pieces.length a2, .slice a3 threeR.start.length a4, .bool threeR.falls, .bool threeR.keeps, .slice a5 threeR.ends.length a6, .int .i64 threeR.blocked, .int .i64 threeR.quiet, .int .i64 threeR.rept] 26
    generalize w4.alloc _ = w5 at *
    have X5 := Lib.hid (ext_trans X4.out x5)
    have K5 := Lib.hid (K4.out.ext x5)
    clear x5 k5 X4 K4
    obtain ⟨xe, ke⟩ := blks1 w5 #[.int .i64 0, .int .i64 0] 31
    have HF := Lib.hid (fine_extR (fine_any (some ⟨w5.heap.size, 0, none⟩) 2 2 [0, 0] _ rfl (by omega) (blk_intsR ke)))
    have XE := Lib.hid (ext_trans X5.out xe)
    rw [show allZero [0, 0] = true from rfl] at HF
    have K6 := Lib.hid (K5.out.ext xe)
    clear xe ke X5 K5
    go_wp2_with fail
    refine HF.out.mono ?_
    rintro e w7 ⟨rfl, x7⟩
    have X7 := Lib.hid (ext_trans XE.out x7)
    have K7 := Lib.hid (K6.out.ext x7)
    clear x7 XE K6 HF
    go_wp2_with fail
    refine (pre13_any _ _).mono ?_
    rintro e w8 ⟨rfl, rfl⟩
    rw [pre_three]
    have h1 := K7.out.cell
    go_wp2_with fail
    refine (HPR.out _ X7.out R _ (HRR.out _ X7.out)).mono ?_
    rintro e w8 ⟨hres, x8⟩
    have X8 := Lib.hid (ext_trans X7.out x8)
    clear h1 x8 X7 K7
    rcases hres with ⟨hE, rfl⟩ | ⟨hE, rfl⟩
    · have HE := Lib.hid hE
      go_wp2_with fail
      refine (HPA.out _ X8.out _ (printT R) rfl).mono ?_
      rintro e w9 ⟨hres, x9⟩
      obtain ⟨u9, rfl, h9⟩ : ∃ u, e = .returned (.tuple #[u, .int .i64 0]) ∧ RulesAt w9 u R := by
        rcases hres with ⟨Q0, u0, hq, he, hu⟩ | ⟨hq, -⟩
        · rw [parse_back HE.out] at hq
          injection hq with hq
          subst hq
          exact ⟨u0, he, hu⟩
        · rw [parse_back HE.out] at hq
          cases hq
      have X9 := Lib.hid (ext_trans X8.out x9)
      have H9 := Lib.hid h9
      obtain ⟨c1, c2, c3, c4, c5, c6, rfl, -⟩ := h9
      clear x9 hres X8
      go_upto_region 8 with fail
      obtain ⟨x5, k5⟩ := blks1 w9 #[.string R.name, .int .i64 R.width, .int .i64 R.height, .slice c1 R.pieces.length c2, .slice c3 R.start.length c4, .bool R.falls, .bool R.keeps, .slice c5 R.ends.length c6, .int .i64 R.blocked, .int .i64 R.quiet, .int .i64 R.rept] 26
      generalize w9.alloc _ = w10 at *
      obtain ⟨C, hC⟩ : ∃ C, C = w9.heap.size := ⟨_, rfl⟩
      rw [← hC] at k5 ⊢
      have X10 := Lib.hid (ext_trans X9.out x5)
      have H10 := Lib.hid (H9.out.ext x5)
      have h1 := k5.cell
      clear x5 k5 X9 H9 hC
      have HP10 := Lib.hid (HPR.out _ X10.out R _ H10.out)
      go_wp2_with fail
      refine HP10.out.mono ?_
      rintro e w11 ⟨⟨-, rfl⟩ | ⟨hno, -⟩, x11⟩
      · have X11 := Lib.hid (ext_trans X10.out x11)
        clear h1 x11 X10 HP10 H10
        obtain ⟨xe, ke⟩ := blks1 w11 #[.int .i64 0, .int .i64 0] 31
        have HF := Lib.hid (fine_extR (fine_any (some ⟨w11.heap.size, 0, none⟩) 2 2 [0, 0] _ rfl (by omega) (blk_intsR ke)))
        have XE := Lib.hid (ext_trans X11.out xe)
        rw [show allZero [0, 0] = true from rfl] at HF
        clear xe ke X11
        go_wp2_with fail
        refine HF.out.mono ?_
        rintro e w12 ⟨rfl, x12⟩
        have X12 := Lib.hid (ext_trans XE.out x12)
        clear x12 XE HF
        go_wp2_with fail
        refine (HPA.out _ X12.out S s HS.out).mono ?_
        rintro e wA ⟨hres, xA⟩
        have XA := Lib.hid (ext_trans X12.out xA)
        clear xA
        rcases hres with ⟨Q, q, hq, rfl, hu⟩ | ⟨hno, cd, hcd, rfl⟩
        · obtain ⟨hz, ht, -⟩ := parse_says hq
          have HZ := Lib.hid hz
          have HT := Lib.hid ht
          have HU := Lib.hid hu
          obtain ⟨d1, d2, d3, d4, d5, d6, rfl, -⟩ := hu
          clear hz ht hq
          go_upto_region 12 with fail
          obtain ⟨x7, k7⟩ := blks1 wA #[.string Q.name, .int .i64 Q.width, .int .i64 Q.height, .slice d1 Q.pieces.length d2, .slice d3 Q.start.length d4, .bool Q.falls, .bool Q.keeps, .slice d5 Q.ends.length d6, .int .i64 Q.blocked, .int .i64 Q.quiet, .int .i64 Q.rept] 26
          generalize wA.alloc _ = wB at *
          obtain ⟨D, hD⟩ : ∃ D, D = wA.heap.size := ⟨_, rfl⟩
          rw [← hD] at k7 ⊢
          have XB := Lib.hid (ext_trans XA.out x7)
          have HUB := HU.out.ext x7
          have h1 := k7.cell
          have HTB := Lib.hid (HPR.out _ XB.out Q _ HUB)
          clear hD k7 x7 HUB
          go_wp2_with fail
          refine HTB.out.mono ?_
          rintro e wC ⟨⟨hck, rfl⟩ | ⟨hck, rfl⟩, xC⟩
          · have XC := Lib.hid (ext_trans XB.out xC)
            rw [HT.out]
            have e1 := HS.out
            have e3 : ((strU s).toList == S.toList) = true := by rw [e1, beq_self_eq_true]
            clear e1 xC h1 hck
            go_wp2
            go_ret
            exact ⟨rfl, XC.out⟩
          · exact absurd HZ.out hck
        · have tcd : (cd != 0) = true := by simpa using hcd
          clear hno hcd
          unfold zeroRulesV
          go_upto_region 12 with fail
          obtain ⟨x7, k7⟩ := blks1 wA #[.string ⟨#[]⟩, .int .i64 0, .int .i64 0, .slice none 0 0, .slice none 0 0, .bool false, .bool false, .slice none 0 0, .int .i64 0, .int .i64 0, .int .i64 0] 26
          generalize wA.alloc _ = wB at *
          obtain ⟨D, hD⟩ : ∃ D, D = wA.heap.size := ⟨_, rfl⟩
          rw [← hD] at k7 ⊢
          have XB := Lib.hid (ext_trans XA.out x7)
          have h1 := k7.cell
          clear hD k7 x7
          go_wp2
          go_ret
          exact ⟨rfl, XB.out⟩
      · exact absurd HE.out hno
    · have t0 : (rulesE R == 0) = false := by simpa using hE
      generalize rulesE R = E at *
      clear hE
      go_wp2_with fail
      refine (HPA.out _ X8.out S s HS.out).mono ?_
      rintro e wA ⟨hres, xA⟩
      have XA := Lib.hid (ext_trans X8.out xA)
      clear xA
      rcases hres with ⟨Q, q, hq, rfl, hu⟩ | ⟨hno, cd, hcd, rfl⟩
      · obtain ⟨hz, ht, -⟩ := parse_says hq
        have HZ := Lib.hid hz
        have HT := Lib.hid ht
        have HU := Lib.hid hu
        obtain ⟨d1, d2, d3, d4, d5, d6, rfl, -⟩ := hu
        clear hz ht hq
        go_upto_region 12 with fail
        obtain ⟨x7, k7⟩ := blks1 wA #[.string Q.name, .int .i64 Q.width, .int .i64 Q.height, .slice d1 Q.pieces.length d2, .slice d3 Q.start.length d4, .bool Q.falls, .bool Q.keeps, .slice d5 Q.ends.length d6, .int .i64 Q.blocked, .int .i64 Q.quiet, .int .i64 Q.rept] 26
        generalize wA.alloc _ = wB at *
        obtain ⟨D, hD⟩ : ∃ D, D = wA.heap.size := ⟨_, rfl⟩
        rw [← hD] at k7 ⊢
        have XB := Lib.hid (ext_trans XA.out x7)
        have HUB := HU.out.ext x7
        have h1 := k7.cell
        have HTB := Lib.hid (HPR.out _ XB.out Q _ HUB)
        clear hD k7 x7 HUB
        go_wp2_with fail
        refine HTB.out.mono ?_
        rintro e wC ⟨⟨hck, rfl⟩ | ⟨hck, rfl⟩, xC⟩
        · have XC := Lib.hid (ext_trans XB.out xC)
          rw [HT.out]
          have e1 := HS.out
          have e3 : ((strU s).toList == S.toList) = true := by rw [e1, beq_self_eq_true]
          clear e1 xC h1 hck
          go_wp2
          go_ret
          exact ⟨rfl, XC.out⟩
        · exact absurd HZ.out hck
      · have tcd : (cd != 0) = true := by simpa using hcd
        clear hno hcd
        unfold zeroRulesV
        go_upto_region 12 with fail
        obtain ⟨x7, k7⟩ := blks1 wA #[.string ⟨#[]⟩, .int .i64 0, .int .i64 0, .slice none 0 0, .slice none 0 0, .bool false, .bool false, .slice none 0 0, .int .i64 0, .int .i64 0, .int .i64 0] 26
        generalize wA.alloc _ = wB at *
        obtain ⟨D, hD⟩ : ∃ D, D = wA.heap.size := ⟨_, rfl⟩
        rw [← hD] at k7 ⊢
        have XB := Lib.hid (ext_trans XA.out x7)
        have h1 := k7.cell
        clear hD k7 x7
        go_wp2
        go_ret
        exact ⟨rfl, XB.out⟩
  · exact absurd zero_three hno
end Go.Proofs.YtdoibgmmijhlfaaDoor
