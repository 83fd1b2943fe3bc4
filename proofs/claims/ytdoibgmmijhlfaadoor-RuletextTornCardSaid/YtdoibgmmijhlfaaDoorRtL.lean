/- Walk: ruletext.letter, cell, end. -/
import Derived.Test.YtdoibgmmijhlfaaDoorGRtB
import Derived.Test.YtdoibgmmijhlfaaDoorRtH
import Derived.Test.YtdoibgmmijhlfaaDoorGTxtD
import Derived.Test.YtdoibgmmijhlfaaDoorRegionK
import Derived.Lib.SmallJoins
namespace Go.Proofs.YtdoibgmmijhlfaaDoor
open Go.RowKit
set_option linter.unusedVariables false
set_option linter.unusedSimpArgs false
theorem letT_zero (ps : List PieceM) : letT ps 0 = [45] := rfl
theorem letT_at {ps : List PieceM} {k : Nat} {p : PieceM} (h : ps[k]? = some p) : letT ps ((k : Int) + 1) = [chU p.letter] := by
  unfold letT
  rw [if_neg (by omega), show ((k : Int) + 1 - 1).toNat = k by omega, ps_get h]
set_option maxHeartbeats 4000000 in
set_option maxRecDepth 100000 in
theorem letter_any (R : RulesM) (v : Value) (n : Nat) (w : World) (hR : RulesAt w v R) (hL : Lets R.pieces) (hn : n ≤ R.pieces.length) (h6 : R.pieces.length ≤ 6) :
    Calls Tryd.prog 32 #[v, .int .i64 (n : Int)] w fun e w' => e = .returned (.string (strU (letT R.pieces (n : Int)))) ∧ Ext w w' := by
  obtain ⟨pA, pc, sA, sc, eA, ec, rfl, hp, -⟩ := hR
  obtain ⟨m, hm⟩ : ∃ m, R.pieces.length = m := ⟨_, rfl⟩
  rw [hm] at hn h6 ⊢
  obtain ⟨xa, k1⟩ := blks1 w #[.string R.name, .int .i64 R.width, .int .i64 R.height, .slice pA m pc, .slice sA R.start.length sc, .bool R.falls, .bool R.keeps, .slice eA R.ends.length ec, .int .i64 R.blocked, .int .i64 R.quiet, .int .i64 R.rept] 26
  have XA := Lib.hid xa
  have HPX := Lib.hid (hp.ext xa)
  have hc := k1.cell
  have HM := Lib.hid hm
  clear xa k1 hp hm
  go_enter Tryd.func32, Tryd.ntmps32
  go_upto_region 1 with fail
  generalize w.alloc _ = wA at *
  generalize w.heap.size = B at *
  rcases n with _ | n
  · rw [show (((0 : Nat) : Int)) = 0 from rfl]
    go_wp2
    go_ret
    exact ⟨rfl, XA.out⟩
  · obtain ⟨p, hpk⟩ : ∃ p, R.pieces[n]? = some p := ⟨_, List.getElem?_eq_getElem (by rw [HM.out]; omega)⟩
    have hlt := hL.in_ n p hpk
    obtain ⟨z, hz⟩ := Int.eq_ofNat_of_zero_le (show 0 ≤ p.letter by omega)
    have hz2 : 65 ≤ z ∧ z ≤ 90 := by omega
    have HLT := Lib.hid (show letT R.pieces ((n + 1 : Nat) : Int) = [UInt8.ofNat z] by
      rw [show ((n + 1 : Nat) : Int) = (n : Int) + 1 by omega, letT_at hpk, hz]
      rfl)
    obtain ⟨b, o, wA2, wc, rfl, c0, -, -, -, -⟩ := HPX.out.get hpk
    rw [hz] at c0
    have hcv := fun W => run_rune ⟨z, by omega⟩ W
    simp only at hcv
    have w32 : IntKind.i32.wrap (z : Int) = (z : Int) := by rw [IntKind.wrap_i32]; omega
    obtain ⟨q, hq⟩ : ∃ q : Int, q = ((n + 1 : Nat) : Int) := ⟨_, rfl⟩
    have hq0 : (q == 0) = false := by rw [beq_eq_false_iff_ne]; omega
    have hq1 : IntKind.i64.wrap (q - 1) = (n : Int) := by rw [IntKind.wrap_i64]; omega
    have hnm : n < m := by omega
    have hnI : (n : Int) < (m : Int) := by omega
    have hn6 : n ≤ 6 := by omega
    rw [← hq]
    clear hlt hz hz2 hpk hL h6 hn hq
    go_wp2
    go_ret
    refine ⟨?_, XA.out⟩
    rw [HLT.out]
    rfl
set_option maxHeartbeats 4000000 in
set_option maxRecDepth 100000 in
theorem rcell_any (R : RulesM) (v : Value) (c : Int) (w : World) (hR : RulesAt w v R) (hL : Lets R.pieces) (h0 : 0 ≤ c) (h1 : c ≤ 2 * (R.pieces.length : Int)) (h6 : R.pieces.length ≤ 6) :
    Calls Tryd.prog 34 #[v, .int .i64 c] w fun e w' => e = .returned (.int .u8 ((cellT R.pieces c).toNat : Int)) ∧ Ext w w' := by
  obtain ⟨pA, pc, sA, sc, eA, ec, rfl, hp, -⟩ := hR
  obtain ⟨m, hm⟩ : ∃ m, R.pieces.length = m := ⟨_, rfl⟩
  rw [hm] at h1 h6 ⊢
  obtain ⟨xa, k1⟩ := blks1 w #[.string R.name, .int .i64 R.width, .int .i64 R.height, .slice pA m pc, .slice sA R.start.length sc, .bool R.falls, .bool R.keeps, .slice eA R.ends.length ec, .int .i64 R.blocked, .int .i64 R.quiet, .int .i64 R.rept] 26
  have XA := Lib.hid xa
  have HPX := Lib.hid (hp.ext xa)
  have hc := k1.cell
  have HM := Lib.hid hm
  clear xa k1 hp hm
  go_enter Tryd.func34, Tryd.ntmps34
  go_upto_region 1 with fail
  generalize w.alloc _ = wA at *
  generalize w.heap.size = B at *
  by_cases h : c = 0
  · subst h
    go_wp2
    go_ret
    exact ⟨rfl, XA.out⟩
  · have hb : (c == 0) = false := beq_eq_false_iff_ne.2 h
    obtain ⟨q, hq⟩ : ∃ q : Nat, (c - 1) / 2 = (q : Int) := ⟨((c - 1) / 2).toNat, by omega⟩
    have hqm : q < m := by omega
    obtain ⟨p, hpq⟩ : ∃ p, R.pieces[q]? = some p := ⟨_, List.getElem?_eq_getElem (by rw [HM.out]; exact hqm)⟩
    obtain ⟨pb, po, wA2, wc, rfl, c0, -, -, -, -⟩ := HPX.out.get hpq
    have hlt := hL.in_ q p hpq
    obtain ⟨z, hz⟩ := Int.eq_ofNat_of_zero_le (show 0 ≤ p.letter by omega)
    have hz2 : 65 ≤ z ∧ z ≤ 90 := by omega
    rw [hz] at c0
    have i1 : IntKind.i64.wrap (c - 1) = c - 1 := by rw [IntKind.wrap_i64]; omega
    have i2 : (c - 1).tdiv 2 = (q : Int) := by rw [Int.tdiv_eq_ediv_of_nonneg (by omega)]; exact hq
    have i3 : (q : Int) < (m : Int) := by omega
    have i5 : q ≤ 6 := by omega
    have i6 : IntKind.i64.wrap (q : Int) = (q : Int) := by rw [IntKind.wrap_i64]; omega
    have HZ := Lib.hid (show cellT R.pieces c = chU ((z : Int) + (if c % 2 = 0 then 32 else 0)) by
      unfold cellT cellU
      rw [if_neg h, hq, Int.toNat_natCast, List.getD_eq_getElem?_getD, List.getElem?_map, hpq, ← hz]
      rfl)
    by_cases hpar : c % 2 = 0
    · have i4 : (c - 1).tmod 2 = 1 := by rw [Int.tmod_eq_emod_of_nonneg (by omega)]; omega
      have u8 : IntKind.u8.wrap ((z : Int) + 32) = (z : Int) + 32 := by rw [IntKind.wrap_u8]; omega
      have HV := Lib.hid (show ((cellT R.pieces c).toNat : Int) = (z : Int) + 32 by
        rw [HZ.out, if_pos hpar]
        unfold chU
        rw [UInt8.toNat_ofNat']
        omega)
      clear hpar hz hz2 hlt hpq hq h hL h0 h1 h6
      go_wp2
      go_ret
      refine ⟨?_, XA.out⟩
      rw [HV.out]
      rfl
    · have i4 : (c - 1).tmod 2 = 0 := by rw [Int.tmod_eq_emod_of_nonneg (by omega)]; omega
      have HV := Lib.hid (show ((cellT R.pieces c).toNat : Int) = (z : Int) by
        rw [HZ.out, if_neg hpar, Int.add_zero]
        unfold chU
        rw [UInt8.toNat_ofNat']
        omega)
      clear hpar hz hz2 hlt hpq hq h hL h0 h1 h6
      go_wp2
      go_ret
      refine ⟨?_, XA.out⟩
      rw [HV.out]
      rfl
/-- The three forms of a line of a condition. -/
theorem endT_line {ps : List PieceM} {x : EndM} (h : x.kind = 0) : lineT (endWs ps x) = [101, 110, 100, 32, 108, 105, 110, 101, 32] ++ Lib.itoa x.count ++ (32 :: howT x) := by
  unfold endWs
  rw [if_pos h]
  simp [lineT, joinL]
theorem endT_reach {ps : List PieceM} {x : EndM} (h : x.kind = 1) : lineT (endWs ps x) = [101, 110, 100, 32, 114, 101, 97, 99, 104, 32] ++ letT ps (x.piece + 1) ++ (32 :: howT x) := by
  unfold endWs
  rw [if_neg (by omega), if_pos h]
  simp [lineT, joinL]
theorem endT_take {ps : List PieceM} {x : EndM} (h0 : x.kind ≠ 0) (h1 : x.kind ≠ 1) : lineT (endWs ps x) = [101, 110, 100, 32, 116, 97, 107, 101, 32] ++ letT ps (x.piece + 1) ++ [32] ++ Lib.itoa x.count ++ (32 :: howT x) := by
  unfold endWs
  rw [if_neg h0, if_neg h1]
  simp [lineT, joinL]
abbrev endVal (x : EndM) : Value := .agg #[.int .i64 x.kind, .int .i64 x.piece, .int .i64 x.count, .bool x.loses]
set_option maxHeartbeats 4000000 in
set_option maxRecDepth 100000 in
theorem rend_any (R : RulesM) (v : Value) (x : EndM) (w : World) (hR : RulesAt w v R) (hL : Lets R.pieces) (h6 : R.pieces.length ≤ 6) (hx : EndOk R.pieces.length x) (hw : LibW w) :
    Calls Tryd.prog 35 #[v, endVal x] w fun e w' => e = .returned (.string (strU (lineT (endWs R.pieces x)))) ∧ Ext w w' := by
  have HLT := Lib.hid (fun W (x : Ext w W) (n : Nat) (hn : n ≤ R.pieces.length) => letter_any R v n W (hR.ext x) hL hn h6)
  have HIT := Lib.hid (fun W (x : Ext w W) (n : Int) (h0 : 0 ≤ n) (h1 : n ≤ 1000) => itoa_any n h0 h1 W (hw.ext x))
  obtain ⟨pA, pc, sA, sc, eA, ec, rfl, hp, -⟩ := hR
  obtain ⟨kd, pk, ct, ls⟩ := x
  have HX := Lib.hid hx
  obtain ⟨xa, k1, k2⟩ := blks2 w #[.string R.name, .int .i64 R.width, .int .i64 R.height, .slice pA R.pieces.length pc, .slice sA R.start.length sc, .bool R.falls, .bool R.keeps, .slice eA R.ends.length ec, .int .i64 R.blocked, .int .i64 R.quiet, .int .i64 R.rept] 26 #[.int .i64 kd, .int .i64 pk, .int .i64 ct, .bool ls] 73
  have XA := Lib.hid xa
  have KA := Lib.hid k1
  have KE := Lib.hid k2
  have hc1 := k1.cell
  have hc2 := k2.cell
  clear xa k1 k2 hp hx hL hw
  go_enter Tryd.func35, Tryd.ntmps35
  go_upto_region 1 with fail
  generalize (w.alloc _).alloc _ = wA at *
  obtain ⟨B, hB⟩ : ∃ B, B = w.heap.size := ⟨_, rfl⟩
  rw [← hB] at hc1 hc2 KA KE ⊢
  obtain ⟨C, hC⟩ : ∃ C, C = B + 1 := ⟨_, rfl⟩
  rw [← hC] at hc2 KE ⊢
  clear hB hC
  rcases ls with _ | _
  · have zh : (⟨#[32, 119, 105, 110, 115]⟩ : ByteArray).size = 5 := rfl
    by_cases hk0 : kd = 0
    · subst hk0
      have hcr := (HX.out.line rfl).1
      simp only at hcr
      have HIC := Lib.hid (HIT.out _ XA.out ct (by omega) (by omega))
      have hil : (strU (Lib.itoa ct)).size ≤ 4 := by rw [strU_size]; exact itoa_len (by omega) (by omega)
      have HF := Lib.hid (show strU (lineT (endWs R.pieces ⟨0, pk, ct, false⟩)) = strU [101, 110, 100, 32, 108, 105, 110, 101, 32] ++ strU (Lib.itoa ct) ++ strU [32, 119, 105, 110, 115] by
        rw [endT_line rfl, strU_app, strU_app]
        rfl)
      have za : (⟨#[101, 110, 100, 32, 108, 105, 110, 101, 32]⟩ : ByteArray).size = 9 := rfl
      have q1 : ¬ (9223372036854775807 < 9 + (strU (Lib.itoa ct)).size) := by omega
      have q2 : ¬ (9223372036854775807 < 9 + (strU (Lib.itoa ct)).size + 5) := by omega
      have q3 : ¬ (9223372036854775807 < 9 + ((strU (Lib.itoa ct)).size + 5)) := by omega
      clear hcr hil
      go_wp2_with fail
      refine HIC.out.mono ?_
      rintro e w2 ⟨rfl, x2⟩
      generalize strU (Lib.itoa ct) = S1 at *
      have X2 := Lib.hid (ext_trans XA.out x2)
      clear x2
      go_wp2
      go_ret
      refine ⟨?_, X2.out⟩
      rw [HF.out]
      rfl
    · have tk0 : (kd == 0) = false := beq_eq_false_iff_ne.2 hk0
      by_cases hk1 : kd = 1
      · subst hk1
        have hpr := (HX.out.reach rfl).2
        simp only at hpr
        obtain ⟨q, hq⟩ := Int.eq_ofNat_of_zero_le (show 0 ≤ pk + 1 by omega)
        have HLC := Lib.hid (HLT.out _ XA.out q (by omega))
        rw [← hq] at HLC
        have wk : IntKind.i64.wrap (pk + 1) = pk + 1 := by rw [IntKind.wrap_i64]; omega
        have hil : (strU (letT R.pieces (pk + 1))).size ≤ 4 := by
          rw [strU_size]
          unfold letT
          split <;> simp
        have HF := Lib.hid (show strU (lineT (endWs R.pieces ⟨1, pk, ct, false⟩)) = strU [101, 110, 100, 32, 114, 101, 97, 99, 104, 32] ++ strU (letT R.pieces (pk + 1)) ++ strU [32, 119, 105, 110, 115] by
          rw [endT_reach rfl, strU_app, strU_app]
          rfl)
        have za : (⟨#[101, 110, 100, 32, 114, 101, 97, 99, 104, 32]⟩ : ByteArray).size = 10 := rfl
        have q1 : ¬ (9223372036854775807 < 10 + (strU (letT R.pieces (pk + 1))).size) := by omega
        have q2 : ¬ (9223372036854775807 < 10 + (strU (letT R.pieces (pk + 1))).size + 5) := by omega
        have q3 : ¬ (9223372036854775807 < 10 + ((strU (letT R.pieces (pk + 1))).size + 5)) := by omega
        clear hpr hil hk0 hq
        go_wp2_with fail
        refine HLC.out.mono ?_
        rintro e w2 ⟨rfl, x2⟩
        generalize strU (letT R.pieces (pk + 1)) = S1 at *
        have X2 := Lib.hid (ext_trans XA.out x2)
        clear x2
        go_wp2
        go_ret
        refine ⟨?_, X2.out⟩
        rw [HF.out]
        rfl
      · have tk1 : (kd == 1) = false := beq_eq_false_iff_ne.2 hk1
        have hk2 : kd = 2 := by rcases HX.out.kind with h | h | h <;> simp_all
        have hcr := HX.out.take hk2
        simp only at hcr
        obtain ⟨q, hq⟩ := Int.eq_ofNat_of_zero_le (show 0 ≤ pk + 1 by omega)
        have HLC := Lib.hid (HLT.out _ (XA.out.drew) q (by omega))
        rw [← hq] at HLC
        have HIC := Lib.hid (fun W (y : Ext w W) => HIT.out W y ct (by omega) (by omega))
        have wk : IntKind.i64.wrap (pk + 1) = pk + 1 := by rw [IntKind.wrap_i64]; omega
        have hil : (strU (letT R.pieces (pk + 1))).size ≤ 4 := by
          rw [strU_size]
          unfold letT
          split <;> simp
        have hil2 : (strU (Lib.itoa ct)).size ≤ 4 := by rw [strU_size]; exact itoa_len (by omega) (by omega)
        have HF := Lib.hid (show strU (lineT (endWs R.pieces ⟨kd, pk, ct, false⟩)) = strU [101, 110, 100, 32, 116, 97, 107, 101, 32] ++ strU (letT R.pieces (pk + 1)) ++ strU [32] ++ strU (Lib.itoa ct) ++ strU [32, 119, 105, 110, 115] by
          rw [endT_take hk0 hk1, strU_app, strU_app, strU_app, strU_app]
          rfl)
        obtain ⟨S1, hS1⟩ : ∃ S1, S1 = strU (letT R.pieces (pk + 1)) := ⟨_, rfl⟩
        obtain ⟨S2, hS2⟩ : ∃ S2, S2 = strU (Lib.itoa ct) := ⟨_, rfl⟩
        rw [← hS1] at hil HF HLC
        rw [← hS2] at hil2 HF HIC
        have za : (⟨#[101, 110, 100, 32, 116, 97, 107, 101, 32]⟩ : ByteArray).size = 9 := rfl
        have zb : (⟨#[32]⟩ : ByteArray).size = 1 := rfl
        have q1 : ¬ (9223372036854775807 < 9 + S1.size) := by omega
        have q2 : ¬ (9223372036854775807 < 9 + S1.size + 1) := by omega
        have q2r : ¬ (9223372036854775807 < 9 + (S1.size + 1)) := by omega
        have q3 : ¬ (9223372036854775807 < 9 + S1.size + 1 + S2.size) := by omega
        have q3r : ¬ (9223372036854775807 < 9 + (S1.size + (1 + S2.size))) := by omega
        have q4 : ¬ (9223372036854775807 < 9 + S1.size + 1 + S2.size + 5) := by omega
        have q4r : ¬ (9223372036854775807 < 9 + (S1.size + (1 + (S2.size + 5)))) := by omega
        clear hcr hil hil2 hk0 hk1 hk2 hq hS1 hS2
        go_upto_region 9 with fail
        have keepK := hide (fun W (h : Ext wA W) => (show (fun W => W.cell? ⟨B, 0, none⟩ = some (.string R.name) ∧ W.cell? ⟨B, 1, none⟩ = some (.int .i64 R.width) ∧ W.cell? ⟨B, 2, none⟩ = some (.int .i64 R.height) ∧ W.cell? ⟨B, 3, none⟩ = some (.slice pA R.pieces.length pc) ∧ W.cell? ⟨B, 4, none⟩ = some (.slice sA R.start.length sc) ∧ W.cell? ⟨B, 5, none⟩ = some (.bool R.falls) ∧ W.cell? ⟨B, 6, none⟩ = some (.bool R.keeps) ∧ W.cell? ⟨B, 7, none⟩ = some (.slice eA R.ends.length ec) ∧ W.cell? ⟨B, 8, none⟩ = some (.int .i64 R.blocked) ∧ W.cell? ⟨B, 9, none⟩ = some (.int .i64 R.quiet) ∧ W.cell? ⟨B, 10, none⟩ = some (.int .i64 R.rept) ∧ W.cell? ⟨C, 0, none⟩ = some (.int .i64 kd) ∧ W.cell? ⟨C, 1, none⟩ = some (.int .i64 pk) ∧ W.cell? ⟨C, 2, none⟩ = some (.int .i64 ct) ∧ Ext wA W) W from ⟨(KA.out.ext h).cell 0, (KA.out.ext h).cell 1, (KA.out.ext h).cell 2, (KA.out.ext h).cell 3, (KA.out.ext h).cell 4, (KA.out.ext h).cell 5, (KA.out.ext h).cell 6, (KA.out.ext h).cell 7, (KA.out.ext h).cell 8, (KA.out.ext h).cell 9, (KA.out.ext h).cell 10, (KE.out.ext h).cell 0, (KE.out.ext h).cell 1, (KE.out.ext h).cell 2, h⟩))
        have yy : Ext wA wA.drew := Below.drew (Below.refl _ _)
        refine region_K (fun W => W.cell? ⟨B, 0, none⟩ = some (.string R.name) ∧ W.cell? ⟨B, 1, none⟩ = some (.int .i64 R.width) ∧ W.cell? ⟨B, 2, none⟩ = some (.int .i64 R.height) ∧ W.cell? ⟨B, 3, none⟩ = some (.slice pA R.pieces.length pc) ∧ W.cell? ⟨B, 4, none⟩ = some (.slice sA R.start.length sc) ∧ W.cell? ⟨B, 5, none⟩ = some (.bool R.falls) ∧ W.cell? ⟨B, 6, none⟩ = some (.bool R.keeps) ∧ W.cell? ⟨B, 7, none⟩ = some (.slice eA R.ends.length ec) ∧ W.cell? ⟨B, 8, none⟩ = some (.int .i64 R.blocked) ∧ W.cell? ⟨B, 9, none⟩ = some (.int .i64 R.quiet) ∧ W.cell? ⟨B, 10, none⟩ = some (.int .i64 R.rept) ∧ W.cell? ⟨C, 0, none⟩ = some (.int .i64 kd) ∧ W.cell? ⟨C, 1, none⟩ = some (.int .i64 pk) ∧ W.cell? ⟨C, 2, none⟩ = some (.int .i64 ct) ∧ Ext wA W) (fun _ => True) [] (by kernel_rfl) ?_
        have hT0 := keepK.out _ yy
        refine anyK_take 0 (oi := ?oo1) ?ho1 (by kernel_rfl) (by kernel_rfl) (by kernel_rfl) (by kernel_rfl) ?hq1 ?hw1 hT0 (fun _ => trivial) (v := ?vv1) ?hy1 ?hk1
        case ho1 => (simp only [List.getElem?_toArray, List.getElem?_cons_succ, List.getElem?_cons_zero]; rfl)
        case hq1 => exact fun _ _ _ h => h
        case hw1 => rfl
        case hy1 =>
          intro W hW
          obtain ⟨z0, z1, z2, z3, z4, z5, z6, z7, z8, z9, z10, z11, z12, z13, z14⟩ := hW
          go_simp
          first | done | with_reducible rfl
        case hk1 =>
        try simp only [Act.put, List.setIfInBounds_toArray, List.set_cons_zero, List.set_cons_succ]
        refine anyK_take 1 (oi := ?oo2) ?ho2 (by kernel_rfl) (by kernel_rfl) (by kernel_rfl) (by kernel_rfl) ?hq2 ?hw2 hT0 (fun _ => trivial) (v := ?vv2) ?hy2 ?hk2
        case ho2 => (simp only [List.getElem?_toArray, List.getElem?_cons_succ, List.getElem?_cons_zero]; rfl)
        case hq2 => exact fun _ _ _ h => h
        case hw2 => rfl
        case hy2 =>
          intro W hW
          go_simp
          first | done | with_reducible rfl
        case hk2 =>
        try simp only [Act.put, List.setIfInBounds_toArray, List.set_cons_zero, List.set_cons_succ]
        refine anyK_take 2 (oi := ?oo3) ?ho3 (by kernel_rfl) (by kernel_rfl) (by kernel_rfl) (by kernel_rfl) ?hq3 ?hw3 hT0 (fun _ => trivial) (v := ?vv3) ?hy3 ?hk3
        case ho3 => (simp only [List.getElem?_toArray, List.getElem?_cons_succ, List.getElem?_cons_zero]; rfl)
        case hq3 => exact fun _ _ _ h => h
        case hw3 => rfl
        case hy3 =>
          intro W hW
          obtain ⟨z0, z1, z2, z3, z4, z5, z6, z7, z8, z9, z10, z11, z12, z13, z14⟩ := hW
          go_simp
          first | done | with_reducible rfl
        case hk3 =>
        try simp only [Act.put, List.setIfInBounds_toArray, List.set_cons_zero, List.set_cons_succ]
        refine anyK_take 3 (oi := ?oo4) ?ho4 (by kernel_rfl) (by kernel_rfl) (by kernel_rfl) (by kernel_rfl) ?hq4 ?hw4 hT0 (fun _ => trivial) (v := ?vv4) ?hy4 ?hk4
        case ho4 => (simp only [List.getElem?_toArray, List.getElem?_cons_succ, List.getElem?_cons_zero]; rfl)
        case hq4 => exact fun _ _ _ h => h
        case hw4 => rfl
        case hy4 =>
          intro W hW
          go_simp
          first | done | with_reducible rfl
        case hk4 =>
        try simp only [Act.put, List.setIfInBounds_toArray, List.set_cons_zero, List.set_cons_succ]
        refine anyK_take 7 (oi := ?oo5) ?ho5 (by kernel_rfl) (by kernel_rfl) (by kernel_rfl) (by kernel_rfl) ?hq5 ?hw5 hT0 (fun _ => trivial) (v := ?vv5) ?hy5 ?hk5
        case ho5 => (simp only [List.getElem?_toArray, List.getElem?_cons_succ, List.getElem?_cons_zero]; rfl)
        case hq5 => exact fun _ _ _ h => h
        case hw5 => rfl
        case hy5 =>
          intro W hW
          go_simp
          first | done | with_reducible rfl
        case hk5 =>
        try simp only [Act.put, List.setIfInBounds_toArray, List.set_cons_zero, List.set_cons_succ]
        refine anyK_take 8 (oi := ?oo6) ?ho6 (by kernel_rfl) (by kernel_rfl) (by kernel_rfl) (by kernel_rfl) ?hq6 ?hw6 hT0 (fun _ => trivial) (v := ?vv6) ?hy6 ?hk6
        case ho6 => (simp only [List.getElem?_toArray, List.getElem?_cons_succ, List.getElem?_cons_zero]; rfl)
        case hq6 => exact fun _ _ _ h => h
        case hw6 => rfl
        case hy6 =>
          intro W hW
          obtain ⟨z0, z1, z2, z3, z4, z5, z6, z7, z8, z9, z10, z11, z12, z13, z14⟩ := hW
          go_simp
          first | done | with_reducible rfl
        case hk6 =>
        try simp only [Act.put, List.setIfInBounds_toArray, List.set_cons_zero, List.set_cons_succ]
        refine anyK_take 11 (oi := ?oo7) ?ho7 (by kernel_rfl) (by kernel_rfl) (by kernel_rfl) (by kernel_rfl) ?hq7 ?hw7 hT0 (fun _ => trivial) (v := ?vv7) ?hy7 ?hk7
        case ho7 => (simp only [List.getElem?_toArray, List.getElem?_cons_succ, List.getElem?_cons_zero]; rfl)
        case hq7 => exact fun _ _ _ h => h
        case hw7 => rfl
        case hy7 =>
          intro W hW
          go_simp
          first | done | with_reducible rfl
        case hk7 =>
        try simp only [Act.put, List.setIfInBounds_toArray, List.set_cons_zero, List.set_cons_succ]
        refine anyK_on1 4 (by kernel_rfl) ?_
        refine anyK_one 4 (o := ?oo8) ?ho8 ?hk8
        case ho8 => (simp only [List.getElem?_toArray, List.getElem?_cons_succ, List.getElem?_cons_zero]; rfl)
        case hk8 =>
        intro K hK
        go_simp
        refine (HLC.out).mono ?_
        rintro e w2 ⟨rfl, xx⟩
        try go_wp2_with fail
        replace yy := ext_trans yy xx
        have hT1 := keepK.out _ yy
        refine hK.out _ _ hT1 (fun _ => trivial) ?_
        clear hK K
        try simp only [Act.put, List.setIfInBounds_toArray, List.set_cons_zero, List.set_cons_succ]
        refine anyK_take 5 (oi := ?oo9) ?ho9 (by kernel_rfl) (by kernel_rfl) (by kernel_rfl) (by kernel_rfl) ?hq9 ?hw9 hT1 (fun _ => trivial) (v := ?vv9) ?hy9 ?hk9
        case ho9 => (simp only [List.getElem?_toArray, List.getElem?_cons_succ, List.getElem?_cons_zero]; rfl)
        case hq9 => exact fun _ _ _ h => h
        case hw9 => rfl
        case hy9 =>
          intro W hW
          go_simp
          first | done | with_reducible rfl
        case hk9 =>
        try simp only [Act.put, List.setIfInBounds_toArray, List.set_cons_zero, List.set_cons_succ]
        refine anyK_take 6 (oi := ?oo10) ?ho10 (by kernel_rfl) (by kernel_rfl) (by kernel_rfl) (by kernel_rfl) ?hq10 ?hw10 hT1 (fun _ => trivial) (v := ?vv10) ?hy10 ?hk10
        case ho10 => (simp only [List.getElem?_toArray, List.getElem?_cons_succ, List.getElem?_cons_zero]; rfl)
        case hq10 => exact fun _ _ _ h => h
        case hw10 => rfl
        case hy10 =>
          intro W hW
          go_simp
          first | done | with_reducible rfl
        case hk10 =>
        try simp only [Act.put, List.setIfInBounds_toArray, List.set_cons_zero, List.set_cons_succ]
        refine anyK_on1 9 (by kernel_rfl) ?_
        refine anyK_one 9 (o := ?oo11) ?ho11 ?hk11
        case ho11 => (simp only [List.getElem?_toArray, List.getElem?_cons_succ, List.getElem?_cons_zero]; rfl)
        case hk11 =>
        intro K hK
        go_simp
        refine (HIC.out _ (ext_trans XA.out yy)).mono ?_
        rintro e w3 ⟨rfl, xx⟩
        try go_wp2_with fail
        replace yy := ext_trans yy xx
        have hT2 := keepK.out _ yy
        refine hK.out _ _ hT2 (fun _ => trivial) ?_
        clear hK K
        try simp only [Act.put, List.setIfInBounds_toArray, List.set_cons_zero, List.set_cons_succ]
        refine anyK_take 10 (oi := ?oo12) ?ho12 (by kernel_rfl) (by kernel_rfl) (by kernel_rfl) (by kernel_rfl) ?hq12 ?hw12 hT2 (fun _ => trivial) (v := ?vv12) ?hy12 ?hk12
        case ho12 => (simp only [List.getElem?_toArray, List.getElem?_cons_succ, List.getElem?_cons_zero]; rfl)
        case hq12 => exact fun _ _ _ h => h
        case hw12 => rfl
        case hy12 =>
          intro W hW
          go_simp
          first | done | with_reducible rfl
        case hk12 =>
        try simp only [Act.put, List.setIfInBounds_toArray, List.set_cons_zero, List.set_cons_succ]
        refine anyK_take 12 (oi := ?oo13) ?ho13 (by kernel_rfl) (by kernel_rfl) (by kernel_rfl) (by kernel_rfl) ?hq13 ?hw13 hT2 (fun _ => trivial) (v := ?vv13) ?hy13 ?hk13
        case ho13 => (simp only [List.getElem?_toArray, List.getElem?_cons_succ, List.getElem?_cons_zero]; rfl)
        case hq13 => exact fun _ _ _ h => h
        case hw13 => rfl
        case hy13 =>
          intro W hW
          go_simp
          first | done | with_reducible rfl
        case hk13 =>
        try simp only [Act.put, List.setIfInBounds_toArray, List.set_cons_zero, List.set_cons_succ]
        refine anyK_take 13 (oi := ?oo14) ?ho14 (by kernel_rfl) (by kernel_rfl) (by kernel_rfl) (by kernel_rfl) ?hq14 ?hw14 hT2 (fun _ => trivial) (v := ?vv14) ?hy14 ?hk14
        case ho14 => (simp only [List.getElem?_toArray, List.getElem?_cons_succ, List.getElem?_cons_zero]; rfl)
        case hq14 => exact fun _ _ _ h => h
        case hw14 => rfl
        case hy14 =>
          intro W hW
          go_simp
          first | done | with_reducible rfl
        case hk14 =>
        try simp only [Act.put, List.setIfInBounds_toArray, List.set_cons_zero, List.set_cons_succ]
        refine anyK_done (by kernel_rfl) ?_ _
        clear keepK hT0 hT1 hT2
        have X2 := Lib.hid (ext_trans XA.out yy)
        clear yy
        go_wp2
        go_ret
        refine ⟨?_, X2.out⟩
        rw [HF.out]
        rfl
  · have zh : (⟨#[32, 108, 111, 115, 101, 115]⟩ : ByteArray).size = 6 := rfl
    by_cases hk0 : kd = 0
    · subst hk0
      have hcr := (HX.out.line rfl).1
      simp only at hcr
      have HIC := Lib.hid (HIT.out _ XA.out ct (by omega) (by omega))
      have hil : (strU (Lib.itoa ct)).size ≤ 4 := by rw [strU_size]; exact itoa_len (by omega) (by omega)
      have HF := Lib.hid (show strU (lineT (endWs R.pieces ⟨0, pk, ct, true⟩)) = strU [101, 110, 100, 32, 108, 105, 110, 101, 32] ++ strU (Lib.itoa ct) ++ strU [32, 108, 111, 115, 101, 115] by
        rw [endT_line rfl, strU_app, strU_app]
        rfl)
      have za : (⟨#[101, 110, 100, 32, 108, 105, 110, 101, 32]⟩ : ByteArray).size = 9 := rfl
      have q1 : ¬ (9223372036854775807 < 9 + (strU (Lib.itoa ct)).size) := by omega
      have q2 : ¬ (9223372036854775807 < 9 + (strU (Lib.itoa ct)).size + 6) := by omega
      have q3 : ¬ (9223372036854775807 < 9 + ((strU (Lib.itoa ct)).size + 6)) := by omega
      clear hcr hil
      go_wp2_with fail
      refine HIC.out.mono ?_
      rintro e w2 ⟨rfl, x2⟩
      generalize strU (Lib.itoa ct) = S1 at *
      have X2 := Lib.hid (ext_trans XA.out x2)
      clear x2
      go_wp2
      go_ret
      refine ⟨?_, X2.out⟩
      rw [HF.out]
      rfl
    · have tk0 : (kd == 0) = false := beq_eq_false_iff_ne.2 hk0
      by_cases hk1 : kd = 1
      · subst hk1
        have hpr := (HX.out.reach rfl).2
        simp only at hpr
        obtain ⟨q, hq⟩ := Int.eq_ofNat_of_zero_le (show 0 ≤ pk + 1 by omega)
        have HLC := Lib.hid (HLT.out _ XA.out q (by omega))
        rw [← hq] at HLC
        have wk : IntKind.i64.wrap (pk + 1) = pk + 1 := by rw [IntKind.wrap_i64]; omega
        have hil : (strU (letT R.pieces (pk + 1))).size ≤ 4 := by
          rw [strU_size]
          unfold letT
          split <;> simp
        have HF := Lib.hid (show strU (lineT (endWs R.pieces ⟨1, pk, ct, true⟩)) = strU [101, 110, 100, 32, 114, 101, 97, 99, 104, 32] ++ strU (letT R.pieces (pk + 1)) ++ strU [32, 108, 111, 115, 101, 115] by
          rw [endT_reach rfl, strU_app, strU_app]
          rfl)
        have za : (⟨#[101, 110, 100, 32, 114, 101, 97, 99, 104, 32]⟩ : ByteArray).size = 10 := rfl
        have q1 : ¬ (9223372036854775807 < 10 + (strU (letT R.pieces (pk + 1))).size) := by omega
        have q2 : ¬ (9223372036854775807 < 10 + (strU (letT R.pieces (pk + 1))).size + 6) := by omega
        have q3 : ¬ (9223372036854775807 < 10 + ((strU (letT R.pieces (pk + 1))).size + 6)) := by omega
        clear hpr hil hk0 hq
        go_wp2_with fail
        refine HLC.out.mono ?_
        rintro e w2 ⟨rfl, x2⟩
        generalize strU (letT R.pieces (pk + 1)) = S1 at *
        have X2 := Lib.hid (ext_trans XA.out x2)
        clear x2
        go_wp2
        go_ret
        refine ⟨?_, X2.out⟩
        rw [HF.out]
        rfl
      · have tk1 : (kd == 1) = false := beq_eq_false_iff_ne.2 hk1
        have hk2 : kd = 2 := by rcases HX.out.kind with h | h | h <;> simp_all
        have hcr := HX.out.take hk2
        simp only at hcr
        obtain ⟨q, hq⟩ := Int.eq_ofNat_of_zero_le (show 0 ≤ pk + 1 by omega)
        have HLC := Lib.hid (HLT.out _ (XA.out.drew) q (by omega))
        rw [← hq] at HLC
        have HIC := Lib.hid (fun W (y : Ext w W) => HIT.out W y ct (by omega) (by omega))
        have wk : IntKind.i64.wrap (pk + 1) = pk + 1 := by rw [IntKind.wrap_i64]; omega
        have hil : (strU (letT R.pieces (pk + 1))).size ≤ 4 := by
          rw [strU_size]
          unfold letT
          split <;> simp
        have hil2 : (strU (Lib.itoa ct)).size ≤ 4 := by rw [strU_size]; exact itoa_len (by omega) (by omega)
        have HF := Lib.hid (show strU (lineT (endWs R.pieces ⟨kd, pk, ct, true⟩)) = strU [101, 110, 100, 32, 116, 97, 107, 101, 32] ++ strU (letT R.pieces (pk + 1)) ++ strU [32] ++ strU (Lib.itoa ct) ++ strU [32, 108, 111, 115, 101, 115] by
          rw [endT_take hk0 hk1, strU_app, strU_app, strU_app, strU_app]
          rfl)
        obtain ⟨S1, hS1⟩ : ∃ S1, S1 = strU (letT R.pieces (pk + 1)) := ⟨_, rfl⟩
        obtain ⟨S2, hS2⟩ : ∃ S2, S2 = strU (Lib.itoa ct) := ⟨_, rfl⟩
        rw [← hS1] at hil HF HLC
        rw [← hS2] at hil2 HF HIC
        have za : (⟨#[101, 110, 100, 32, 116, 97, 107, 101, 32]⟩ : ByteArray).size = 9 := rfl
        have zb : (⟨#[32]⟩ : ByteArray).size = 1 := rfl
        have q1 : ¬ (9223372036854775807 < 9 + S1.size) := by omega
        have q2 : ¬ (9223372036854775807 < 9 + S1.size + 1) := by omega
        have q2r : ¬ (9223372036854775807 < 9 + (S1.size + 1)) := by omega
        have q3 : ¬ (9223372036854775807 < 9 + S1.size + 1 + S2.size) := by omega
        have q3r : ¬ (9223372036854775807 < 9 + (S1.size + (1 + S2.size))) := by omega
        have q4 : ¬ (9223372036854775807 < 9 + S1.size + 1 + S2.size + 6) := by omega
        have q4r : ¬ (9223372036854775807 < 9 + (S1.size + (1 + (S2.size + 6)))) := by omega
        clear hcr hil hil2 hk0 hk1 hk2 hq hS1 hS2
        go_upto_region 9 with fail
        have keepK := hide (fun W (h : Ext wA W) => (show (fun W => W.cell? ⟨B, 0, none⟩ = some (.string R.name) ∧ W.cell? ⟨B, 1, none⟩ = some (.int .i64 R.width) ∧ W.cell? ⟨B, 2, none⟩ = some (.int .i64 R.height) ∧ W.cell? ⟨B, 3, none⟩ = some (.slice pA R.pieces.length pc) ∧ W.cell? ⟨B, 4, none⟩ = some (.slice sA R.start.length sc) ∧ W.cell? ⟨B, 5, none⟩ = some (.bool R.falls) ∧ W.cell? ⟨B, 6, none⟩ = some (.bool R.keeps) ∧ W.cell? ⟨B, 7, none⟩ = some (.slice eA R.ends.length ec) ∧ W.cell? ⟨B, 8, none⟩ = some (.int .i64 R.blocked) ∧ W.cell? ⟨B, 9, none⟩ = some (.int .i64 R.quiet) ∧ W.cell? ⟨B, 10, none⟩ = some (.int .i64 R.rept) ∧ W.cell? ⟨C, 0, none⟩ = some (.int .i64 kd) ∧ W.cell? ⟨C, 1, none⟩ = some (.int .i64 pk) ∧ W.cell? ⟨C, 2, none⟩ = some (.int .i64 ct) ∧ Ext wA W) W from ⟨(KA.out.ext h).cell 0, (KA.out.ext h).cell 1, (KA.out.ext h).cell 2, (KA.out.ext h).cell 3, (KA.out.ext h).cell 4, (KA.out.ext h).cell 5, (KA.out.ext h).cell 6, (KA.out.ext h).cell 7, (KA.out.ext h).cell 8, (KA.out.ext h).cell 9, (KA.out.ext h).cell 10, (KE.out.ext h).cell 0, (KE.out.ext h).cell 1, (KE.out.ext h).cell 2, h⟩))
        have yy : Ext wA wA.drew := Below.drew (Below.refl _ _)
        refine region_K (fun W => W.cell? ⟨B, 0, none⟩ = some (.string R.name) ∧ W.cell? ⟨B, 1, none⟩ = some (.int .i64 R.width) ∧ W.cell? ⟨B, 2, none⟩ = some (.int .i64 R.height) ∧ W.cell? ⟨B, 3, none⟩ = some (.slice pA R.pieces.length pc) ∧ W.cell? ⟨B, 4, none⟩ = some (.slice sA R.start.length sc) ∧ W.cell? ⟨B, 5, none⟩ = some (.bool R.falls) ∧ W.cell? ⟨B, 6, none⟩ = some (.bool R.keeps) ∧ W.cell? ⟨B, 7, none⟩ = some (.slice eA R.ends.length ec) ∧ W.cell? ⟨B, 8, none⟩ = some (.int .i64 R.blocked) ∧ W.cell? ⟨B, 9, none⟩ = some (.int .i64 R.quiet) ∧ W.cell? ⟨B, 10, none⟩ = some (.int .i64 R.rept) ∧ W.cell? ⟨C, 0, none⟩ = some (.int .i64 kd) ∧ W.cell? ⟨C, 1, none⟩ = some (.int .i64 pk) ∧ W.cell? ⟨C, 2, none⟩ = some (.int .i64 ct) ∧ Ext wA W) (fun _ => True) [] (by kernel_rfl) ?_
        have hT0 := keepK.out _ yy
        refine anyK_take 0 (oi := ?oo15) ?ho15 (by kernel_rfl) (by kernel_rfl) (by kernel_rfl) (by kernel_rfl) ?hq15 ?hw15 hT0 (fun _ => trivial) (v := ?vv15) ?hy15 ?hk15
        case ho15 => (simp only [List.getElem?_toArray, List.getElem?_cons_succ, List.getElem?_cons_zero]; rfl)
        case hq15 => exact fun _ _ _ h => h
        case hw15 => rfl
        case hy15 =>
          intro W hW
          obtain ⟨z0, z1, z2, z3, z4, z5, z6, z7, z8, z9, z10, z11, z12, z13, z14⟩ := hW
          go_simp
          first | done | with_reducible rfl
        case hk15 =>
        try simp only [Act.put, List.setIfInBounds_toArray, List.set_cons_zero, List.set_cons_succ]
        refine anyK_take 1 (oi := ?oo16) ?ho16 (by kernel_rfl) (by kernel_rfl) (by kernel_rfl) (by kernel_rfl) ?hq16 ?hw16 hT0 (fun _ => trivial) (v := ?vv16) ?hy16 ?hk16
        case ho16 => (simp only [List.getElem?_toArray, List.getElem?_cons_succ, List.getElem?_cons_zero]; rfl)
        case hq16 => exact fun _ _ _ h => h
        case hw16 => rfl
        case hy16 =>
          intro W hW
          go_simp
          first | done | with_reducible rfl
        case hk16 =>
        try simp only [Act.put, List.setIfInBounds_toArray, List.set_cons_zero, List.set_cons_succ]
        refine anyK_take 2 (oi := ?oo17) ?ho17 (by kernel_rfl) (by kernel_rfl) (by kernel_rfl) (by kernel_rfl) ?hq17 ?hw17 hT0 (fun _ => trivial) (v := ?vv17) ?hy17 ?hk17
        case ho17 => (simp only [List.getElem?_toArray, List.getElem?_cons_succ, List.getElem?_cons_zero]; rfl)
        case hq17 => exact fun _ _ _ h => h
        case hw17 => rfl
        case hy17 =>
          intro W hW
          obtain ⟨z0, z1, z2, z3, z4, z5, z6, z7, z8, z9, z10, z11, z12, z13, z14⟩ := hW
          go_simp
          first | done | with_reducible rfl
        case hk17 =>
        try simp only [Act.put, List.setIfInBounds_toArray, List.set_cons_zero, List.set_cons_succ]
        refine anyK_take 3 (oi := ?oo18) ?ho18 (by kernel_rfl) (by kernel_rfl) (by kernel_rfl) (by kernel_rfl) ?hq18 ?hw18 hT0 (fun _ => trivial) (v := ?vv18) ?hy18 ?hk18
        case ho18 => (simp only [List.getElem?_toArray, List.getElem?_cons_succ, List.getElem?_cons_zero]; rfl)
        case hq18 => exact fun _ _ _ h => h
        case hw18 => rfl
        case hy18 =>
          intro W hW
          go_simp
          first | done | with_reducible rfl
        case hk18 =>
        try simp only [Act.put, List.setIfInBounds_toArray, List.set_cons_zero, List.set_cons_succ]
        refine anyK_take 7 (oi := ?oo19) ?ho19 (by kernel_rfl) (by kernel_rfl) (by kernel_rfl) (by kernel_rfl) ?hq19 ?hw19 hT0 (fun _ => trivial) (v := ?vv19) ?hy19 ?hk19
        case ho19 => (simp only [List.getElem?_toArray, List.getElem?_cons_succ, List.getElem?_cons_zero]; rfl)
        case hq19 => exact fun _ _ _ h => h
        case hw19 => rfl
        case hy19 =>
          intro W hW
          go_simp
          first | done | with_reducible rfl
        case hk19 =>
        try simp only [Act.put, List.setIfInBounds_toArray, List.set_cons_zero, List.set_cons_succ]
        refine anyK_take 8 (oi := ?oo20) ?ho20 (by kernel_rfl) (by kernel_rfl) (by kernel_rfl) (by kernel_rfl) ?hq20 ?hw20 hT0 (fun _ => trivial) (v := ?vv20) ?hy20 ?hk20
        case ho20 => (simp only [List.getElem?_toArray, List.getElem?_cons_succ, List.getElem?_cons_zero]; rfl)
        case hq20 => exact fun _ _ _ h => h
        case hw20 => rfl
        case hy20 =>
          intro W hW
          obtain ⟨z0, z1, z2, z3, z4, z5, z6, z7, z8, z9, z10, z11, z12, z13, z14⟩ := hW
          go_simp
          first | done | with_reducible rfl
        case hk20 =>
        try simp only [Act.put, List.setIfInBounds_toArray, List.set_cons_zero, List.set_cons_succ]
        refine anyK_take 11 (oi := ?oo21) ?ho21 (by kernel_rfl) (by kernel_rfl) (by kernel_rfl) (by kernel_rfl) ?hq21 ?hw21 hT0 (fun _ => trivial) (v := ?vv21) ?hy21 ?hk21
        case ho21 => (simp only [List.getElem?_toArray, List.getElem?_cons_succ, List.getElem?_cons_zero]; rfl)
        case hq21 => exact fun _ _ _ h => h
        case hw21 => rfl
        case hy21 =>
          intro W hW
          go_simp
          first | done | with_reducible rfl
        case hk21 =>
        try simp only [Act.put, List.setIfInBounds_toArray, List.set_cons_zero, List.set_cons_succ]
        refine anyK_on1 4 (by kernel_rfl) ?_
        refine anyK_one 4 (o := ?oo22) ?ho22 ?hk22
        case ho22 => (simp only [List.getElem?_toArray, List.getElem?_cons_succ, List.getElem?_cons_zero]; rfl)
        case hk22 =>
        intro K hK
        go_simp
        refine (HLC.out).mono ?_
        rintro e w2 ⟨rfl, xx⟩
        try go_wp2_with fail
        replace yy := ext_trans yy xx
        have hT1 := keepK.out _ yy
        refine hK.out _ _ hT1 (fun _ => trivial) ?_
        clear hK K
        try simp only [Act.put, List.setIfInBounds_toArray, List.set_cons_zero, List.set_cons_succ]
        refine anyK_take 5 (oi := ?oo23) ?ho23 (by kernel_rfl) (by kernel_rfl) (by kernel_rfl) (by kernel_rfl) ?hq23 ?hw23 hT1 (fun _ => trivial) (v := ?vv23) ?hy23 ?hk23
        case ho23 => (simp only [List.getElem?_toArray, List.getElem?_cons_succ, List.getElem?_cons_zero]; rfl)
        case hq23 => exact fun _ _ _ h => h
        case hw23 => rfl
        case hy23 =>
          intro W hW
          go_simp
          first | done | with_reducible rfl
        case hk23 =>
        try simp only [Act.put, List.setIfInBounds_toArray, List.set_cons_zero, List.set_cons_succ]
        refine anyK_take 6 (oi := ?oo24) ?ho24 (by kernel_rfl) (by kernel_rfl) (by kernel_rfl) (by kernel_rfl) ?hq24 ?hw24 hT1 (fun _ => trivial) (v := ?vv24) ?hy24 ?hk24
        case ho24 => (simp only [List.getElem?_toArray, List.getElem?_cons_succ, List.getElem?_cons_zero]; rfl)
        case hq24 => exact fun _ _ _ h => h
        case hw24 => rfl
        case hy24 =>
          intro W hW
          go_simp
          first | done | with_reducible rfl
        case hk24 =>
        try simp only [Act.put, List.setIfInBounds_toArray, List.set_cons_zero, List.set_cons_succ]
        refine anyK_on1 9 (by kernel_rfl) ?_
        refine anyK_one 9 (o := ?oo25) ?ho25 ?hk25
        case ho25 => (simp only [List.getElem?_toArray, List.getElem?_cons_succ, List.getElem?_cons_zero]; rfl)
        case hk25 =>
        intro K hK
        go_simp
        refine (HIC.out _ (ext_trans XA.out yy)).mono ?_
        rintro e w3 ⟨rfl, xx⟩
        try go_wp2_with fail
        replace yy := ext_trans yy xx
        have hT2 := keepK.out _ yy
        refine hK.out _ _ hT2 (fun _ => trivial) ?_
        clear hK K
        try simp only [Act.put, List.setIfInBounds_toArray, List.set_cons_zero, List.set_cons_succ]
        refine anyK_take 10 (oi := ?oo26) ?ho26 (by kernel_rfl) (by kernel_rfl) (by kernel_rfl) (by kernel_rfl) ?hq26 ?hw26 hT2 (fun _ => trivial) (v := ?vv26) ?hy26 ?hk26
        case ho26 => (simp only [List.getElem?_toArray, List.getElem?_cons_succ, List.getElem?_cons_zero]; rfl)
        case hq26 => exact fun _ _ _ h => h
        case hw26 => rfl
        case hy26 =>
          intro W hW
          go_simp
          first | done | with_reducible rfl
        case hk26 =>
        try simp only [Act.put, List.setIfInBounds_toArray, List.set_cons_zero, List.set_cons_succ]
        refine anyK_take 12 (oi := ?oo27) ?ho27 (by kernel_rfl) (by kernel_rfl) (by kernel_rfl) (by kernel_rfl) ?hq27 ?hw27 hT2 (fun _ => trivial) (v := ?vv27) ?hy27 ?hk27
        case ho27 => (simp only [List.getElem?_toArray, List.getElem?_cons_succ, List.getElem?_cons_zero]; rfl)
        case hq27 => exact fun _ _ _ h => h
        case hw27 => rfl
        case hy27 =>
          intro W hW
          go_simp
          first | done | with_reducible rfl
        case hk27 =>
        try simp only [Act.put, List.setIfInBounds_toArray, List.set_cons_zero, List.set_cons_succ]
        refine anyK_take 13 (oi := ?oo28) ?ho28 (by kernel_rfl) (by kernel_rfl) (by kernel_rfl) (by kernel_rfl) ?hq28 ?hw28 hT2 (fun _ => trivial) (v := ?vv28) ?hy28 ?hk28
        case ho28 => (simp only [List.getElem?_toArray, List.getElem?_cons_succ, List.getElem?_cons_zero]; rfl)
        case hq28 => exact fun _ _ _ h => h
        case hw28 => rfl
        case hy28 =>
          intro W hW
          go_simp
          first | done | with_reducible rfl
        case hk28 =>
        try simp only [Act.put, List.setIfInBounds_toArray, List.set_cons_zero, List.set_cons_succ]
        refine anyK_done (by kernel_rfl) ?_ _
        clear keepK hT0 hT1 hT2
        have X2 := Lib.hid (ext_trans XA.out yy)
        clear yy
        go_wp2
        go_ret
        refine ⟨?_, X2.out⟩
        rw [HF.out]
        rfl
end Go.Proofs.YtdoibgmmijhlfaaDoor
