/- Walks: the samples of gamehalltop. Walk: the law TopProved. -/
import Derived.Test.YtnaggpibfmednaaGSamples
import Derived.Test.YtnaggpibfmednaaGSmall
import Derived.Test.YtnaggpibfmednaaGRowP
import Derived.Test.YtnaggpibfmednaaGPerft
import Derived.Test.YtnaggpibfmednaaGCertB
import Derived.Test.YtnaggpibfmednaaGLBR
namespace Go.Proofs.Ytnaggpibfmednaa
open Go.ChangeShapes Go.WideShapes Go.ChangeAt Go.RowKit Go.Shelf
set_option linter.unusedVariables false
set_option linter.unusedSimpArgs false
def bheavyB (R : RulesM) (P : PosM) (D : Int) : Bool := perftE R P D == 17 || decide (2000 < perftN R P D) || decide ((16 : Int) < (P.cells.length : Int))
set_option maxHeartbeats 4000000 in
set_option maxRecDepth 100000 in
theorem bheavy_any (R : RulesM) (P : PosM) (v u : Value) (D : Int) (w : World) (hR : RulesAt w v R) (hP : PosAt w u P) :
    Calls Try.prog 11 #[v, u, .int .i64 D] w fun e w' => e = .returned (.bool (bheavyB R P D)) ∧ Ext w w' := by
  have HV := hide (show bheavyB R P D = (perftE R P D == 17 || decide (2000 < perftN R P D) || decide ((16 : Int) < (P.cells.length : Int))) from rfl)
  have HT := hide (fun W (v1 v2 : Value) (h1 : RulesAt W v1 R) (h2 : PosAt W v2 P) => PfTree_any R P v1 v2 D W h1 h2)
  have hR0 := hR
  have hP0 := hP
  obtain ⟨pA, pc, sA, sc, eA, ec, rfl, -⟩ := hR0
  obtain ⟨cA, cc, aA, ac, bA, bc, rfl, -⟩ := hP0
  generalize perftE R P D = E at *
  generalize perftN R P D = N at *
  generalize bheavyB R P D = B at *
  go_enter Try.func11, Try.ntmps11
  go_wp2_with fail
  obtain ⟨xa, kR, kP⟩ := blks2 w #[.string R.name, .int .i64 R.width, .int .i64 R.height, .slice pA R.pieces.length pc, .slice sA R.start.length sc, .bool R.falls, .bool R.keeps, .slice eA R.ends.length ec, .int .i64 R.blocked, .int .i64 R.quiet, .int .i64 R.rept] 26 #[.slice cA P.cells.length cc, .slice aA P.hand0.length ac, .slice bA P.hand1.length bc, .int .i64 P.turn, .int .i64 P.quiet] 29
  replace hR := hR.ext xa
  replace hP := hP.ext xa
  have X := xa
  clear xa
  generalize ((w.alloc (.cells #[.string R.name, .int .i64 R.width, .int .i64 R.height, .slice pA R.pieces.length pc, .slice sA R.start.length sc, .bool R.falls, .bool R.keeps, .slice eA R.ends.length ec, .int .i64 R.blocked, .int .i64 R.quiet, .int .i64 R.rept] 26)).alloc (.cells #[.slice cA P.cells.length cc, .slice aA P.hand0.length ac, .slice bA P.hand1.length bc, .int .i64 P.turn, .int .i64 P.quiet] 29)) = w2 at *
  generalize w.heap.size + 1 = BP at *
  generalize w.heap.size = BR at *
  have fR := kR.cell
  have fP := kP.cell
  go_wp2_with fail
  refine (HT.out _ _ _ hR hP).mono ?_
  rintro e w3 ⟨rfl, x⟩
  replace hR := hR.ext x
  replace hP := hP.ext x
  replace kR := kR.ext x
  replace kP := kP.ext x
  replace X := ext_trans X x
  replace fR := kR.cell
  replace fP := kP.cell
  clear x
  cases t0 : (E == 17)
  · cases t1 : decide (2000 < N)
    · cases t2 : decide ((16 : Int) < (P.cells.length : Int))
      · go_wp2
        go_ret
        exact ⟨by rw [HV.out, t0, t1, t2]; rfl, X⟩
      · go_wp2
        go_ret
        exact ⟨by rw [HV.out, t0, t1, t2]; rfl, X⟩
    · go_wp2
      go_ret
      exact ⟨by rw [HV.out, t0, t1]; rfl, X⟩
  · go_wp2
    go_ret
    exact ⟨by rw [HV.out, t0]; rfl, X⟩

theorem near_tree : perftN threeR nearP 1 = 6 := by decide +kernel
set_option maxHeartbeats 4000000 in
set_option maxRecDepth 100000 in
theorem bscored_any (w : World) : Calls Try.prog 9 #[] w fun e w' => e = .returned (.bool true) ∧ Ext w w' := by
  have HA := hide (fun W (v1 v2 : Value) (h1 : RulesAt W v1 threeR) (h2 : PosAt W v2 nearP) => MScore_any threeR nearP v1 v2 1 W h1 h2)
  rw [near_score.1, near_score.2.1] at HA
  have HB := hide (fun W (v1 v2 : Value) (h1 : RulesAt W v1 threeR) (h2 : PosAt W v2 nearP) => PfTree_any threeR nearP v1 v2 1 W h1 h2)
  rw [near_tree, near_score.2.1] at HB
  have HC := hide (fun W (v1 v2 : Value) (h1 : PosAt W v1 nearP) (h2 : PosAt W v2 nearP) => PSame_yes nearP v1 v2 W h1 h2 (by decide) (by decide) (by decide))
  go_enter Try.func9, Try.ntmps9
  go_wp2_with fail
  refine (three_any _).mono ?_
  rintro e w2 ⟨v1, rfl, h1, x⟩
  have X := x
  clear x
  go_wp2_with fail
  refine (near_any _).mono ?_
  rintro e w3 ⟨v2, rfl, h2, x⟩
  replace h1 := h1.ext x
  replace X := ext_trans X x
  clear x
  replace h2 := h2.at_
  go_wp2_with fail
  refine (HA.out _ _ _ h1 h2).mono ?_
  rintro e w4 ⟨rfl, x⟩
  replace h1 := h1.ext x
  replace h2 := h2.ext x
  replace X := ext_trans X x
  clear x
  clear h1 h2
  clear HA
  go_wp2_with fail
  refine (three_any _).mono ?_
  rintro e w5 ⟨v3, rfl, h3, x⟩
  replace X := ext_trans X x
  clear x
  go_wp2_with fail
  refine (near_any _).mono ?_
  rintro e w6 ⟨v4, rfl, h4, x⟩
  replace h3 := h3.ext x
  replace X := ext_trans X x
  clear x
  replace h4 := h4.at_
  go_wp2_with fail
  refine (HB.out _ _ _ h3 h4).mono ?_
  rintro e w7 ⟨rfl, x⟩
  replace h3 := h3.ext x
  replace h4 := h4.ext x
  replace X := ext_trans X x
  clear x
  clear h3 h4
  clear HB
  obtain ⟨xa, kE⟩ := blks1 w7 #[.int .i64 0, .int .i64 0] 31
  replace X := ext_trans X xa
  clear xa
  go_wp2_with fail
  generalize (w7.alloc (.cells #[.int .i64 0, .int .i64 0] 31)) = w8 at *
  generalize w7.heap.size = BE at *
  refine (fine_ext (fine_any (some ⟨BE, 0, none⟩) 2 2 [0, 0] _ rfl (by omega) (blk_ints kE))).mono ?_
  rintro e w9 ⟨rfl, x⟩
  replace kE := kE.ext x
  replace X := ext_trans X x
  clear x
  rw [show allZero [0, 0] = true from rfl]
  clear kE
  go_wp2_with fail
  refine (near_any _).mono ?_
  rintro e w10 ⟨v5, rfl, h5, x⟩
  replace X := ext_trans X x
  clear x
  replace h5 := h5.at_
  go_wp2_with fail
  refine (near_any _).mono ?_
  rintro e w11 ⟨v6, rfl, h6, x⟩
  replace h5 := h5.ext x
  replace X := ext_trans X x
  clear x
  replace h6 := h6.at_
  go_wp2_with fail
  refine (HC.out _ _ _ h5 h6).mono ?_
  rintro e w12 ⟨rfl, x⟩
  replace h5 := h5.ext x
  replace h6 := h6.ext x
  replace X := ext_trans X x
  clear x
  clear h5 h6
  clear HC
  go_wp2
  all_goals go_ret
  all_goals exact ⟨by first | rfl | simp, X⟩
end Go.Proofs.Ytnaggpibfmednaa
namespace Go.Proofs.Ytnaggpibfmednaa
open Go.ChangeShapes Go.WideShapes Go.ChangeAt Go.RowKit Go.Shelf
set_option linter.unusedVariables false
set_option linter.unusedSimpArgs false
set_option maxHeartbeats 4000000 in
set_option maxRecDepth 100000 in
theorem topProved_heavy (R : RulesM) (P : PosM) (v u : Value) (D b : Int) (w : World) (hR : RulesAt w v R) (hP : PosAt w u P) (K : Int) (hK : (wrap64 (b.tmod 50 + 50)).tmod 50 = K) (k0 : 0 ≤ K) (k1 : K < 50) (hh : bheavyB R P D = true) :
    Calls Try.prog 4 #[v, u, .int .i64 D, .int .i64 b] w fun e w' => e = .returned (.bool true) ∧ Ext w w' := by
  obtain ⟨nl, -⟩ := near_cert.2.2.2
  clear nl
  have HM0 := hide (fun W (v1 v2 : Value) (h1 : RulesAt W v1 threeR) (h2 : PosAt W v2 nearP) => near_make v1 v2 W h1 h2)
  have HC0 := hide (fun W (v1 v2 : Value) (A : Option Addr) (c : Nat) (h1 : RulesAt W v1 threeR) (h2 : PosAt W v2 nearP) (h3 : CertAt W A (certM threeR 3 0 nearP)) => near_check v1 v2 A c W h1 h2 h3)
  have HA := hide (fun W (v1 v2 : Value) (h1 : RulesAt W v1 threeR) (h2 : PosAt W v2 nearP) => Prove_yes threeR nearP v1 v2 10 W h1 h2 near_prov.1)
  rw [near_prov.2.1, near_prov.2.2.1, near_prov.2.2.2.1] at HA
  generalize (provT threeR nearP 10).1.b = bb at HA
  generalize certM threeR 3 0 nearP = L0 at *
  have HHV := hide (fun W (v1 v2 : Value) (h1 : RulesAt W v1 R) (h2 : PosAt W v2 P) => bheavy_any R P v1 v2 D W h1 h2)
  rw [hh] at HHV
  clear hh
  
  have hR0 := hR
  have hP0 := hP
  obtain ⟨pA, pc, sA, sc, eA, ec, rfl, -⟩ := hR0
  obtain ⟨cA, cc, aA, ac, bA, bc, rfl, -⟩ := hP0
  go_enter Try.func4, Try.ntmps4
  go_wp2_with fail
  obtain ⟨xa, kR, kP⟩ := blks2 w #[.string R.name, .int .i64 R.width, .int .i64 R.height, .slice pA R.pieces.length pc, .slice sA R.start.length sc, .bool R.falls, .bool R.keeps, .slice eA R.ends.length ec, .int .i64 R.blocked, .int .i64 R.quiet, .int .i64 R.rept] 26 #[.slice cA P.cells.length cc, .slice aA P.hand0.length ac, .slice bA P.hand1.length bc, .int .i64 P.turn, .int .i64 P.quiet] 29
  replace hR := hR.ext xa
  replace hP := hP.ext xa
  have X := xa
  clear xa
  generalize ((w.alloc (.cells #[.string R.name, .int .i64 R.width, .int .i64 R.height, .slice pA R.pieces.length pc, .slice sA R.start.length sc, .bool R.falls, .bool R.keeps, .slice eA R.ends.length ec, .int .i64 R.blocked, .int .i64 R.quiet, .int .i64 R.rept] 26)).alloc (.cells #[.slice cA P.cells.length cc, .slice aA P.hand0.length ac, .slice bA P.hand1.length bc, .int .i64 P.turn, .int .i64 P.quiet] 29)) = w2 at *
  generalize w.heap.size + 1 = BP at *
  generalize w.heap.size = BR at *
  refine (three_any _).mono ?_
  rintro e w3 ⟨v1, rfl, h1, x⟩
  replace hR := hR.ext x
  replace hP := hP.ext x
  replace kR := kR.ext x
  replace kP := kP.ext x
  replace X := ext_trans X x
  clear x
  go_wp2_with fail
  refine (near_any _).mono ?_
  rintro e w4 ⟨v2, rfl, h2, x⟩
  replace hR := hR.ext x
  replace hP := hP.ext x
  replace kR := kR.ext x
  replace kP := kP.ext x
  replace h1 := h1.ext x
  replace X := ext_trans X x
  clear x
  replace h2 := h2.at_
  go_wp2_with fail
  refine (HM0.out _ _ _ h1 h2).mono ?_
  rintro e w5 ⟨A0, c0, rfl, ca0, x⟩
  replace hR := hR.ext x
  replace hP := hP.ext x
  replace kR := kR.ext x
  replace kP := kP.ext x
  replace h1 := h1.ext x
  replace h2 := h2.ext x
  replace X := ext_trans X x
  clear x
  clear h1 h2
  clear HM0
  go_wp2_with fail
  refine (three_any _).mono ?_
  rintro e w6 ⟨v3, rfl, h3, x⟩
  replace hR := hR.ext x
  replace hP := hP.ext x
  replace kR := kR.ext x
  replace kP := kP.ext x
  replace ca0 := ca0.ext x
  replace X := ext_trans X x
  clear x
  go_wp2_with fail
  refine (near_any _).mono ?_
  rintro e w7 ⟨v4, rfl, h4, x⟩
  replace hR := hR.ext x
  replace hP := hP.ext x
  replace kR := kR.ext x
  replace kP := kP.ext x
  replace ca0 := ca0.ext x
  replace h3 := h3.ext x
  replace X := ext_trans X x
  clear x
  replace h4 := h4.at_
  go_wp2_with fail
  refine (HC0.out _ _ _ _ _ h3 h4 ca0).mono ?_
  rintro e w8 ⟨rfl, x⟩
  replace hR := hR.ext x
  replace hP := hP.ext x
  replace kR := kR.ext x
  replace kP := kP.ext x
  replace ca0 := ca0.ext x
  replace h3 := h3.ext x
  replace h4 := h4.ext x
  replace X := ext_trans X x
  clear x
  clear h3 h4 ca0
  clear HC0
  obtain ⟨xa, kE⟩ := blks1 w8 #[.int .i64 0, .int .i64 0] 31
  replace hR := hR.ext xa
  replace hP := hP.ext xa
  replace kR := kR.ext xa
  replace kP := kP.ext xa
  replace X := ext_trans X xa
  clear xa
  go_wp2_with fail
  generalize (w8.alloc (.cells #[.int .i64 0, .int .i64 0] 31)) = w9 at *
  generalize w8.heap.size = BE at *
  refine (fine_ext (fine_any (some ⟨BE, 0, none⟩) 2 2 [0, 0] _ rfl (by omega) (blk_ints kE))).mono ?_
  rintro e w10 ⟨rfl, x⟩
  replace hR := hR.ext x
  replace hP := hP.ext x
  replace kR := kR.ext x
  replace kP := kP.ext x
  replace kE := kE.ext x
  replace X := ext_trans X x
  clear x
  rw [show allZero [0, 0] = true from rfl]
  clear kE
  go_wp2_with fail
  refine (bscored_any _).mono ?_
  rintro e w11 ⟨rfl, x⟩
  replace hR := hR.ext x
  replace hP := hP.ext x
  replace kR := kR.ext x
  replace kP := kP.ext x
  replace X := ext_trans X x
  clear x
  go_wp2_with fail
  refine (three_any _).mono ?_
  rintro e w12 ⟨v5, rfl, h5, x⟩
  replace hR := hR.ext x
  replace hP := hP.ext x
  replace kR := kR.ext x
  replace kP := kP.ext x
  replace X := ext_trans X x
  clear x
  go_wp2_with fail
  refine (near_any _).mono ?_
  rintro e w13 ⟨v6, rfl, h6, x⟩
  replace hR := hR.ext x
  replace hP := hP.ext x
  replace kR := kR.ext x
  replace kP := kP.ext x
  replace h5 := h5.ext x
  replace X := ext_trans X x
  clear x
  replace h6 := h6.at_
  go_wp2_with fail
  refine (HA.out _ _ _ h5 h6).mono ?_
  rintro e w14 ⟨rfl, x⟩
  replace hR := hR.ext x
  replace hP := hP.ext x
  replace kR := kR.ext x
  replace kP := kP.ext x
  replace h5 := h5.ext x
  replace h6 := h6.ext x
  replace X := ext_trans X x
  clear x
  clear h5 h6
  clear HA
  obtain ⟨xa, kX⟩ := blks1 w14 #[.int .i64 0, .int .i64 0, .int .i64 bb, .int .i64 ((1 : Nat) : Int)] 57
  replace hR := hR.ext xa
  replace hP := hP.ext xa
  replace kR := kR.ext xa
  replace kP := kP.ext xa
  replace X := ext_trans X xa
  clear xa
  go_upto_region 6 with fail
  generalize (w14.alloc (.cells #[.int .i64 0, .int .i64 0, .int .i64 bb, .int .i64 ((1 : Nat) : Int)] 57)) = w15 at *
  generalize w14.heap.size = BX at *
  have fX := kX.cell
  have fR := kR.cell
  have fP := kP.cell
  go_wp2_with fail
  refine (HHV.out _ _ _ hR hP).mono ?_
  rintro e w16 ⟨rfl, x⟩
  replace hR := hR.ext x
  replace hP := hP.ext x
  replace kR := kR.ext x
  replace kP := kP.ext x
  replace kX := kX.ext x
  replace X := ext_trans X x
  replace fX := kX.cell
  replace fR := kR.cell
  replace fP := kP.cell
  clear x
  clear HHV
  clear fX
  clear fR fP
  go_wp2
  all_goals go_ret
  all_goals exact ⟨by first | rfl | simp, X⟩
set_option maxHeartbeats 4000000 in
set_option maxRecDepth 100000 in
theorem topProved_bad1 (R : RulesM) (P : PosM) (v u : Value) (D b : Int) (w : World) (hR : RulesAt w v R) (hP : PosAt w u P) (K : Int) (hK : (wrap64 (b.tmod 50 + 50)).tmod 50 = K) (k0 : 0 ≤ K) (k1 : K < 50) (hh : bheavyB R P D = false) (hne : makeE R P D ≠ 0) (hp : perftE R P D ≠ 0) (he : provE R P K ≠ 0) :
    Calls Try.prog 4 #[v, u, .int .i64 D, .int .i64 b] w fun e w' => e = .returned (.bool true) ∧ Ext w w' := by
  obtain ⟨nl, -⟩ := near_cert.2.2.2
  clear nl
  have HM0 := hide (fun W (v1 v2 : Value) (h1 : RulesAt W v1 threeR) (h2 : PosAt W v2 nearP) => near_make v1 v2 W h1 h2)
  have HC0 := hide (fun W (v1 v2 : Value) (A : Option Addr) (c : Nat) (h1 : RulesAt W v1 threeR) (h2 : PosAt W v2 nearP) (h3 : CertAt W A (certM threeR 3 0 nearP)) => near_check v1 v2 A c W h1 h2 h3)
  have HA := hide (fun W (v1 v2 : Value) (h1 : RulesAt W v1 threeR) (h2 : PosAt W v2 nearP) => Prove_yes threeR nearP v1 v2 10 W h1 h2 near_prov.1)
  rw [near_prov.2.1, near_prov.2.2.1, near_prov.2.2.2.1] at HA
  generalize (provT threeR nearP 10).1.b = bb at HA
  generalize certM threeR 3 0 nearP = L0 at *
  have HHV := hide (fun W (v1 v2 : Value) (h1 : RulesAt W v1 R) (h2 : PosAt W v2 P) => bheavy_any R P v1 v2 D W h1 h2)
  rw [hh] at HHV
  clear hh
  have HMK := hide (fun W (v1 v2 : Value) (h1 : RulesAt W v1 R) (h2 : PosAt W v2 P) => Make_no R P v1 v2 D W h1 h2 hne)
  have HS := hide (fun W (v1 v2 : Value) (h1 : RulesAt W v1 R) (h2 : PosAt W v2 P) => MScore_any R P v1 v2 D W h1 h2)
  have HB1 := hide (fun W (v1 v2 : Value) (h1 : RulesAt W v1 R) (h2 : PosAt W v2 P) => Prove_no R P v1 v2 K W h1 h2 he)
  rw [makeE_bad hp] at HMK
  have t0 : (perftE R P D != 0) = true := by simpa using hp
  clear hp hne he
  generalize perftE R P D = E at *
  generalize provE R P K = F at *
  generalize scoreM R P D = s at *
  have t1 : (E == E) = true := beq_self_eq_true E
  have hR0 := hR
  have hP0 := hP
  obtain ⟨pA, pc, sA, sc, eA, ec, rfl, -⟩ := hR0
  obtain ⟨cA, cc, aA, ac, bA, bc, rfl, -⟩ := hP0
  go_enter Try.func4, Try.ntmps4
  go_wp2_with fail
  obtain ⟨xa, kR, kP⟩ := blks2 w #[.string R.name, .int .i64 R.width, .int .i64 R.height, .slice pA R.pieces.length pc, .slice sA R.start.length sc, .bool R.falls, .bool R.keeps, .slice eA R.ends.length ec, .int .i64 R.blocked, .int .i64 R.quiet, .int .i64 R.rept] 26 #[.slice cA P.cells.length cc, .slice aA P.hand0.length ac, .slice bA P.hand1.length bc, .int .i64 P.turn, .int .i64 P.quiet] 29
  replace hR := hR.ext xa
  replace hP := hP.ext xa
  have X := xa
  clear xa
  generalize ((w.alloc (.cells #[.string R.name, .int .i64 R.width, .int .i64 R.height, .slice pA R.pieces.length pc, .slice sA R.start.length sc, .bool R.falls, .bool R.keeps, .slice eA R.ends.length ec, .int .i64 R.blocked, .int .i64 R.quiet, .int .i64 R.rept] 26)).alloc (.cells #[.slice cA P.cells.length cc, .slice aA P.hand0.length ac, .slice bA P.hand1.length bc, .int .i64 P.turn, .int .i64 P.quiet] 29)) = w2 at *
  generalize w.heap.size + 1 = BP at *
  generalize w.heap.size = BR at *
  refine (three_any _).mono ?_
  rintro e w3 ⟨v1, rfl, h1, x⟩
  replace hR := hR.ext x
  replace hP := hP.ext x
  replace kR := kR.ext x
  replace kP := kP.ext x
  replace X := ext_trans X x
  clear x
  go_wp2_with fail
  refine (near_any _).mono ?_
  rintro e w4 ⟨v2, rfl, h2, x⟩
  replace hR := hR.ext x
  replace hP := hP.ext x
  replace kR := kR.ext x
  replace kP := kP.ext x
  replace h1 := h1.ext x
  replace X := ext_trans X x
  clear x
  replace h2 := h2.at_
  go_wp2_with fail
  refine (HM0.out _ _ _ h1 h2).mono ?_
  rintro e w5 ⟨A0, c0, rfl, ca0, x⟩
  replace hR := hR.ext x
  replace hP := hP.ext x
  replace kR := kR.ext x
  replace kP := kP.ext x
  replace h1 := h1.ext x
  replace h2 := h2.ext x
  replace X := ext_trans X x
  clear x
  clear h1 h2
  clear HM0
  go_wp2_with fail
  refine (three_any _).mono ?_
  rintro e w6 ⟨v3, rfl, h3, x⟩
  replace hR := hR.ext x
  replace hP := hP.ext x
  replace kR := kR.ext x
  replace kP := kP.ext x
  replace ca0 := ca0.ext x
  replace X := ext_trans X x
  clear x
  go_wp2_with fail
  refine (near_any _).mono ?_
  rintro e w7 ⟨v4, rfl, h4, x⟩
  replace hR := hR.ext x
  replace hP := hP.ext x
  replace kR := kR.ext x
  replace kP := kP.ext x
  replace ca0 := ca0.ext x
  replace h3 := h3.ext x
  replace X := ext_trans X x
  clear x
  replace h4 := h4.at_
  go_wp2_with fail
  refine (HC0.out _ _ _ _ _ h3 h4 ca0).mono ?_
  rintro e w8 ⟨rfl, x⟩
  replace hR := hR.ext x
  replace hP := hP.ext x
  replace kR := kR.ext x
  replace kP := kP.ext x
  replace ca0 := ca0.ext x
  replace h3 := h3.ext x
  replace h4 := h4.ext x
  replace X := ext_trans X x
  clear x
  clear h3 h4 ca0
  clear HC0
  obtain ⟨xa, kE⟩ := blks1 w8 #[.int .i64 0, .int .i64 0] 31
  replace hR := hR.ext xa
  replace hP := hP.ext xa
  replace kR := kR.ext xa
  replace kP := kP.ext xa
  replace X := ext_trans X xa
  clear xa
  go_wp2_with fail
  generalize (w8.alloc (.cells #[.int .i64 0, .int .i64 0] 31)) = w9 at *
  generalize w8.heap.size = BE at *
  refine (fine_ext (fine_any (some ⟨BE, 0, none⟩) 2 2 [0, 0] _ rfl (by omega) (blk_ints kE))).mono ?_
  rintro e w10 ⟨rfl, x⟩
  replace hR := hR.ext x
  replace hP := hP.ext x
  replace kR := kR.ext x
  replace kP := kP.ext x
  replace kE := kE.ext x
  replace X := ext_trans X x
  clear x
  rw [show allZero [0, 0] = true from rfl]
  clear kE
  go_wp2_with fail
  refine (bscored_any _).mono ?_
  rintro e w11 ⟨rfl, x⟩
  replace hR := hR.ext x
  replace hP := hP.ext x
  replace kR := kR.ext x
  replace kP := kP.ext x
  replace X := ext_trans X x
  clear x
  go_wp2_with fail
  refine (three_any _).mono ?_
  rintro e w12 ⟨v5, rfl, h5, x⟩
  replace hR := hR.ext x
  replace hP := hP.ext x
  replace kR := kR.ext x
  replace kP := kP.ext x
  replace X := ext_trans X x
  clear x
  go_wp2_with fail
  refine (near_any _).mono ?_
  rintro e w13 ⟨v6, rfl, h6, x⟩
  replace hR := hR.ext x
  replace hP := hP.ext x
  replace kR := kR.ext x
  replace kP := kP.ext x
  replace h5 := h5.ext x
  replace X := ext_trans X x
  clear x
  replace h6 := h6.at_
  go_wp2_with fail
  refine (HA.out _ _ _ h5 h6).mono ?_
  rintro e w14 ⟨rfl, x⟩
  replace hR := hR.ext x
  replace hP := hP.ext x
  replace kR := kR.ext x
  replace kP := kP.ext x
  replace h5 := h5.ext x
  replace h6 := h6.ext x
  replace X := ext_trans X x
  clear x
  clear h5 h6
  clear HA
  obtain ⟨xa, kX⟩ := blks1 w14 #[.int .i64 0, .int .i64 0, .int .i64 bb, .int .i64 ((1 : Nat) : Int)] 57
  replace hR := hR.ext xa
  replace hP := hP.ext xa
  replace kR := kR.ext xa
  replace kP := kP.ext xa
  replace X := ext_trans X xa
  clear xa
  go_upto_region 6 with fail
  generalize (w14.alloc (.cells #[.int .i64 0, .int .i64 0, .int .i64 bb, .int .i64 ((1 : Nat) : Int)] 57)) = w15 at *
  generalize w14.heap.size = BX at *
  have fX := kX.cell
  have fR := kR.cell
  have fP := kP.cell
  go_wp2_with fail
  refine (HHV.out _ _ _ hR hP).mono ?_
  rintro e w16 ⟨rfl, x⟩
  replace hR := hR.ext x
  replace hP := hP.ext x
  replace kR := kR.ext x
  replace kP := kP.ext x
  replace kX := kX.ext x
  replace X := ext_trans X x
  replace fX := kX.cell
  replace fR := kR.cell
  replace fP := kP.cell
  clear x
  clear HHV
  clear fX
  go_wp2_with fail
  refine (HS.out _ _ _ hR hP).mono ?_
  rintro e w17 ⟨rfl, x⟩
  replace hR := hR.ext x
  replace hP := hP.ext x
  replace kR := kR.ext x
  replace kP := kP.ext x
  replace kX := kX.ext x
  replace X := ext_trans X x
  replace fR := kR.cell
  replace fP := kP.cell
  clear x
  clear HS
  go_wp2_with fail
  refine (HMK.out _ _ _ hR hP).mono ?_
  rintro e w18 ⟨rfl, x⟩
  replace hR := hR.ext x
  replace hP := hP.ext x
  replace kR := kR.ext x
  replace kP := kP.ext x
  replace kX := kX.ext x
  replace X := ext_trans X x
  replace fR := kR.cell
  replace fP := kP.cell
  clear x
  clear HMK
  go_wp2_with fail
  refine (HB1.out _ _ _ hR hP).mono ?_
  rintro e w19 ⟨rfl, x⟩
  replace hR := hR.ext x
  replace hP := hP.ext x
  replace kR := kR.ext x
  replace kP := kP.ext x
  replace kX := kX.ext x
  replace X := ext_trans X x
  replace fR := kR.cell
  replace fP := kP.cell
  clear x
  clear HB1
  clear fR fP
  obtain ⟨xa, k9⟩ := blks1 w19 #[.int .i64 0, .int .i64 0, .int .i64 0, .int .i64 0] 57
  replace hR := hR.ext xa
  replace hP := hP.ext xa
  replace kR := kR.ext xa
  replace kP := kP.ext xa
  replace kX := kX.ext xa
  replace X := ext_trans X xa
  clear xa
  go_upto_region 13 with fail
  generalize (w19.alloc (.cells #[.int .i64 0, .int .i64 0, .int .i64 0, .int .i64 0] 57)) = w20 at *
  generalize w19.heap.size = B9 at *
  have f9 := k9.cell
  go_wp2
  all_goals go_ret
  all_goals exact ⟨by first | rfl | simp, X⟩
set_option maxHeartbeats 4000000 in
set_option maxRecDepth 100000 in
theorem topProved_bad2 (R : RulesM) (P : PosM) (v u : Value) (D b : Int) (w : World) (hR : RulesAt w v R) (hP : PosAt w u P) (K : Int) (hK : (wrap64 (b.tmod 50 + 50)).tmod 50 = K) (k0 : 0 ≤ K) (k1 : K < 50) (hh : bheavyB R P D = false) (hne : makeE R P D ≠ 0) (hp : perftE R P D ≠ 0) (he : provE R P K = 0) :
    Calls Try.prog 4 #[v, u, .int .i64 D, .int .i64 b] w fun e w' => e = .returned (.bool true) ∧ Ext w w' := by
  obtain ⟨nl, -⟩ := near_cert.2.2.2
  clear nl
  have HM0 := hide (fun W (v1 v2 : Value) (h1 : RulesAt W v1 threeR) (h2 : PosAt W v2 nearP) => near_make v1 v2 W h1 h2)
  have HC0 := hide (fun W (v1 v2 : Value) (A : Option Addr) (c : Nat) (h1 : RulesAt W v1 threeR) (h2 : PosAt W v2 nearP) (h3 : CertAt W A (certM threeR 3 0 nearP)) => near_check v1 v2 A c W h1 h2 h3)
  have HA := hide (fun W (v1 v2 : Value) (h1 : RulesAt W v1 threeR) (h2 : PosAt W v2 nearP) => Prove_yes threeR nearP v1 v2 10 W h1 h2 near_prov.1)
  rw [near_prov.2.1, near_prov.2.2.1, near_prov.2.2.2.1] at HA
  generalize (provT threeR nearP 10).1.b = bb at HA
  generalize certM threeR 3 0 nearP = L0 at *
  have HHV := hide (fun W (v1 v2 : Value) (h1 : RulesAt W v1 R) (h2 : PosAt W v2 P) => bheavy_any R P v1 v2 D W h1 h2)
  rw [hh] at HHV
  clear hh
  have HMK := hide (fun W (v1 v2 : Value) (h1 : RulesAt W v1 R) (h2 : PosAt W v2 P) => Make_no R P v1 v2 D W h1 h2 hne)
  have HS := hide (fun W (v1 v2 : Value) (h1 : RulesAt W v1 R) (h2 : PosAt W v2 P) => MScore_any R P v1 v2 D W h1 h2)
  have HB1 := hide (fun W (v1 v2 : Value) (h1 : RulesAt W v1 R) (h2 : PosAt W v2 P) => Prove_yes R P v1 v2 K W h1 h2 he)
  rw [makeE_bad hp] at HMK
  have t0 : (perftE R P D != 0) = true := by simpa using hp
  clear hp hne he
  generalize (provT R P K).1.a = a1 at *
  generalize (provT R P K).1.b = b1 at *
  generalize ((provT R P K).2 : Int) = c1 at *
  generalize stN (provT R P K).1 = st1 at *
  generalize perftE R P D = E at *
  generalize scoreM R P D = s at *
  have t1 : (E == E) = true := beq_self_eq_true E
  have hR0 := hR
  have hP0 := hP
  obtain ⟨pA, pc, sA, sc, eA, ec, rfl, -⟩ := hR0
  obtain ⟨cA, cc, aA, ac, bA, bc, rfl, -⟩ := hP0
  go_enter Try.func4, Try.ntmps4
  go_wp2_with fail
  obtain ⟨xa, kR, kP⟩ := blks2 w #[.string R.name, .int .i64 R.width, .int .i64 R.height, .slice pA R.pieces.length pc, .slice sA R.start.length sc, .bool R.falls, .bool R.keeps, .slice eA R.ends.length ec, .int .i64 R.blocked, .int .i64 R.quiet, .int .i64 R.rept] 26 #[.slice cA P.cells.length cc, .slice aA P.hand0.length ac, .slice bA P.hand1.length bc, .int .i64 P.turn, .int .i64 P.quiet] 29
  replace hR := hR.ext xa
  replace hP := hP.ext xa
  have X := xa
  clear xa
  generalize ((w.alloc (.cells #[.string R.name, .int .i64 R.width, .int .i64 R.height, .slice pA R.pieces.length pc, .slice sA R.start.length sc, .bool R.falls, .bool R.keeps, .slice eA R.ends.length ec, .int .i64 R.blocked, .int .i64 R.quiet, .int .i64 R.rept] 26)).alloc (.cells #[.slice cA P.cells.length cc, .slice aA P.hand0.length ac, .slice bA P.hand1.length bc, .int .i64 P.turn, .int .i64 P.quiet] 29)) = w2 at *
  generalize w.heap.size + 1 = BP at *
  generalize w.heap.size = BR at *
  refine (three_any _).mono ?_
  rintro e w3 ⟨v1, rfl, h1, x⟩
  replace hR := hR.ext x
  replace hP := hP.ext x
  replace kR := kR.ext x
  replace kP := kP.ext x
  replace X := ext_trans X x
  clear x
  go_wp2_with fail
  refine (near_any _).mono ?_
  rintro e w4 ⟨v2, rfl, h2, x⟩
  replace hR := hR.ext x
  replace hP := hP.ext x
  replace kR := kR.ext x
  replace kP := kP.ext x
  replace h1 := h1.ext x
  replace X := ext_trans X x
  clear x
  replace h2 := h2.at_
  go_wp2_with fail
  refine (HM0.out _ _ _ h1 h2).mono ?_
  rintro e w5 ⟨A0, c0, rfl, ca0, x⟩
  replace hR := hR.ext x
  replace hP := hP.ext x
  replace kR := kR.ext x
  replace kP := kP.ext x
  replace h1 := h1.ext x
  replace h2 := h2.ext x
  replace X := ext_trans X x
  clear x
  clear h1 h2
  clear HM0
  go_wp2_with fail
  refine (three_any _).mono ?_
  rintro e w6 ⟨v3, rfl, h3, x⟩
  replace hR := hR.ext x
  replace hP := hP.ext x
  replace kR := kR.ext x
  replace kP := kP.ext x
  replace ca0 := ca0.ext x
  replace X := ext_trans X x
  clear x
  go_wp2_with fail
  refine (near_any _).mono ?_
  rintro e w7 ⟨v4, rfl, h4, x⟩
  replace hR := hR.ext x
  replace hP := hP.ext x
  replace kR := kR.ext x
  replace kP := kP.ext x
  replace ca0 := ca0.ext x
  replace h3 := h3.ext x
  replace X := ext_trans X x
  clear x
  replace h4 := h4.at_
  go_wp2_with fail
  refine (HC0.out _ _ _ _ _ h3 h4 ca0).mono ?_
  rintro e w8 ⟨rfl, x⟩
  replace hR := hR.ext x
  replace hP := hP.ext x
  replace kR := kR.ext x
  replace kP := kP.ext x
  replace ca0 := ca0.ext x
  replace h3 := h3.ext x
  replace h4 := h4.ext x
  replace X := ext_trans X x
  clear x
  clear h3 h4 ca0
  clear HC0
  obtain ⟨xa, kE⟩ := blks1 w8 #[.int .i64 0, .int .i64 0] 31
  replace hR := hR.ext xa
  replace hP := hP.ext xa
  replace kR := kR.ext xa
  replace kP := kP.ext xa
  replace X := ext_trans X xa
  clear xa
  go_wp2_with fail
  generalize (w8.alloc (.cells #[.int .i64 0, .int .i64 0] 31)) = w9 at *
  generalize w8.heap.size = BE at *
  refine (fine_ext (fine_any (some ⟨BE, 0, none⟩) 2 2 [0, 0] _ rfl (by omega) (blk_ints kE))).mono ?_
  rintro e w10 ⟨rfl, x⟩
  replace hR := hR.ext x
  replace hP := hP.ext x
  replace kR := kR.ext x
  replace kP := kP.ext x
  replace kE := kE.ext x
  replace X := ext_trans X x
  clear x
  rw [show allZero [0, 0] = true from rfl]
  clear kE
  go_wp2_with fail
  refine (bscored_any _).mono ?_
  rintro e w11 ⟨rfl, x⟩
  replace hR := hR.ext x
  replace hP := hP.ext x
  replace kR := kR.ext x
  replace kP := kP.ext x
  replace X := ext_trans X x
  clear x
  go_wp2_with fail
  refine (three_any _).mono ?_
  rintro e w12 ⟨v5, rfl, h5, x⟩
  replace hR := hR.ext x
  replace hP := hP.ext x
  replace kR := kR.ext x
  replace kP := kP.ext x
  replace X := ext_trans X x
  clear x
  go_wp2_with fail
  refine (near_any _).mono ?_
  rintro e w13 ⟨v6, rfl, h6, x⟩
  replace hR := hR.ext x
  replace hP := hP.ext x
  replace kR := kR.ext x
  replace kP := kP.ext x
  replace h5 := h5.ext x
  replace X := ext_trans X x
  clear x
  replace h6 := h6.at_
  go_wp2_with fail
  refine (HA.out _ _ _ h5 h6).mono ?_
  rintro e w14 ⟨rfl, x⟩
  replace hR := hR.ext x
  replace hP := hP.ext x
  replace kR := kR.ext x
  replace kP := kP.ext x
  replace h5 := h5.ext x
  replace h6 := h6.ext x
  replace X := ext_trans X x
  clear x
  clear h5 h6
  clear HA
  obtain ⟨xa, kX⟩ := blks1 w14 #[.int .i64 0, .int .i64 0, .int .i64 bb, .int .i64 ((1 : Nat) : Int)] 57
  replace hR := hR.ext xa
  replace hP := hP.ext xa
  replace kR := kR.ext xa
  replace kP := kP.ext xa
  replace X := ext_trans X xa
  clear xa
  go_upto_region 6 with fail
  generalize (w14.alloc (.cells #[.int .i64 0, .int .i64 0, .int .i64 bb, .int .i64 ((1 : Nat) : Int)] 57)) = w15 at *
  generalize w14.heap.size = BX at *
  have fX := kX.cell
  have fR := kR.cell
  have fP := kP.cell
  go_wp2_with fail
  refine (HHV.out _ _ _ hR hP).mono ?_
  rintro e w16 ⟨rfl, x⟩
  replace hR := hR.ext x
  replace hP := hP.ext x
  replace kR := kR.ext x
  replace kP := kP.ext x
  replace kX := kX.ext x
  replace X := ext_trans X x
  replace fX := kX.cell
  replace fR := kR.cell
  replace fP := kP.cell
  clear x
  clear HHV
  clear fX
  go_wp2_with fail
  refine (HS.out _ _ _ hR hP).mono ?_
  rintro e w17 ⟨rfl, x⟩
  replace hR := hR.ext x
  replace hP := hP.ext x
  replace kR := kR.ext x
  replace kP := kP.ext x
  replace kX := kX.ext x
  replace X := ext_trans X x
  replace fR := kR.cell
  replace fP := kP.cell
  clear x
  clear HS
  go_wp2_with fail
  refine (HMK.out _ _ _ hR hP).mono ?_
  rintro e w18 ⟨rfl, x⟩
  replace hR := hR.ext x
  replace hP := hP.ext x
  replace kR := kR.ext x
  replace kP := kP.ext x
  replace kX := kX.ext x
  replace X := ext_trans X x
  replace fR := kR.cell
  replace fP := kP.cell
  clear x
  clear HMK
  go_wp2_with fail
  refine (HB1.out _ _ _ hR hP).mono ?_
  rintro e w19 ⟨rfl, x⟩
  replace hR := hR.ext x
  replace hP := hP.ext x
  replace kR := kR.ext x
  replace kP := kP.ext x
  replace kX := kX.ext x
  replace X := ext_trans X x
  replace fR := kR.cell
  replace fP := kP.cell
  clear x
  clear HB1
  clear fR fP
  obtain ⟨xa, k9⟩ := blks1 w19 #[.int .i64 st1, .int .i64 a1, .int .i64 b1, .int .i64 c1] 57
  replace hR := hR.ext xa
  replace hP := hP.ext xa
  replace kR := kR.ext xa
  replace kP := kP.ext xa
  replace kX := kX.ext xa
  replace X := ext_trans X xa
  clear xa
  go_upto_region 13 with fail
  generalize (w19.alloc (.cells #[.int .i64 st1, .int .i64 a1, .int .i64 b1, .int .i64 c1] 57)) = w20 at *
  generalize w19.heap.size = B9 at *
  have f9 := k9.cell
  go_wp2
  all_goals go_ret
  all_goals exact ⟨by first | rfl | simp, X⟩
set_option maxHeartbeats 4000000 in
set_option maxRecDepth 100000 in
theorem topProved_over (R : RulesM) (P : PosM) (v u : Value) (D b : Int) (w : World) (hR : RulesAt w v R) (hP : PosAt w u P) (K : Int) (hK : (wrap64 (b.tmod 50 + 50)).tmod 50 = K) (k0 : 0 ≤ K) (k1 : K < 50) (hh : bheavyB R P D = false) (hne : makeE R P D ≠ 0) (hp : perftE R P D = 0) (he : provE R P K = 0) (hs : ofM R D.toNat P = 1000) (hm : makeE R P D = 14) (ht : stN (provT R P K).1 ≠ 1) :
    Calls Try.prog 4 #[v, u, .int .i64 D, .int .i64 b] w fun e w' => e = .returned (.bool true) ∧ Ext w w' := by
  obtain ⟨nl, -⟩ := near_cert.2.2.2
  clear nl
  have HM0 := hide (fun W (v1 v2 : Value) (h1 : RulesAt W v1 threeR) (h2 : PosAt W v2 nearP) => near_make v1 v2 W h1 h2)
  have HC0 := hide (fun W (v1 v2 : Value) (A : Option Addr) (c : Nat) (h1 : RulesAt W v1 threeR) (h2 : PosAt W v2 nearP) (h3 : CertAt W A (certM threeR 3 0 nearP)) => near_check v1 v2 A c W h1 h2 h3)
  have HA := hide (fun W (v1 v2 : Value) (h1 : RulesAt W v1 threeR) (h2 : PosAt W v2 nearP) => Prove_yes threeR nearP v1 v2 10 W h1 h2 near_prov.1)
  rw [near_prov.2.1, near_prov.2.2.1, near_prov.2.2.2.1] at HA
  generalize (provT threeR nearP 10).1.b = bb at HA
  generalize certM threeR 3 0 nearP = L0 at *
  have HHV := hide (fun W (v1 v2 : Value) (h1 : RulesAt W v1 R) (h2 : PosAt W v2 P) => bheavy_any R P v1 v2 D W h1 h2)
  rw [hh] at HHV
  clear hh
  have HMK := hide (fun W (v1 v2 : Value) (h1 : RulesAt W v1 R) (h2 : PosAt W v2 P) => Make_no R P v1 v2 D W h1 h2 hne)
  have HS := hide (fun W (v1 v2 : Value) (h1 : RulesAt W v1 R) (h2 : PosAt W v2 P) => MScore_any R P v1 v2 D W h1 h2)
  have HB1 := hide (fun W (v1 v2 : Value) (h1 : RulesAt W v1 R) (h2 : PosAt W v2 P) => Prove_yes R P v1 v2 K W h1 h2 he)
  rw [hp, show scoreM R P D = ofM R D.toNat P from if_pos hp] at HS
  rw [hm] at HMK
  rw [hs] at HS
  have t3 : (stN (provT R P K).1 == 1) = false := by simpa using ht
  clear hs hm ht hp hne he
  generalize (provT R P K).1.a = a1 at *
  generalize (provT R P K).1.b = b1 at *
  generalize ((provT R P K).2 : Int) = c1 at *
  generalize stN (provT R P K).1 = st1 at *
  
  have hR0 := hR
  have hP0 := hP
  obtain ⟨pA, pc, sA, sc, eA, ec, rfl, -⟩ := hR0
  obtain ⟨cA, cc, aA, ac, bA, bc, rfl, -⟩ := hP0
  go_enter Try.func4, Try.ntmps4
  go_wp2_with fail
  obtain ⟨xa, kR, kP⟩ := blks2 w #[.string R.name, .int .i64 R.width, .int .i64 R.height, .slice pA R.pieces.length pc, .slice sA R.start.length sc, .bool R.falls, .bool R.keeps, .slice eA R.ends.length ec, .int .i64 R.blocked, .int .i64 R.quiet, .int .i64 R.rept] 26 #[.slice cA P.cells.length cc, .slice aA P.hand0.length ac, .slice bA P.hand1.length bc, .int .i64 P.turn, .int .i64 P.quiet] 29
  replace hR := hR.ext xa
  replace hP := hP.ext xa
  have X := xa
  clear xa
  generalize ((w.alloc (.cells #[.string R.name, .int .i64 R.width, .int .i64 R.height, .slice pA R.pieces.length pc, .slice sA R.start.length sc, .bool R.falls, .bool R.keeps, .slice eA R.ends.length ec, .int .i64 R.blocked, .int .i64 R.quiet, .int .i64 R.rept] 26)).alloc (.cells #[.slice cA P.cells.length cc, .slice aA P.hand0.length ac, .slice bA P.hand1.length bc, .int .i64 P.turn, .int .i64 P.quiet] 29)) = w2 at *
  generalize w.heap.size + 1 = BP at *
  generalize w.heap.size = BR at *
  refine (three_any _).mono ?_
  rintro e w3 ⟨v1, rfl, h1, x⟩
  replace hR := hR.ext x
  replace hP := hP.ext x
  replace kR := kR.ext x
  replace kP := kP.ext x
  replace X := ext_trans X x
  clear x
  go_wp2_with fail
  refine (near_any _).mono ?_
  rintro e w4 ⟨v2, rfl, h2, x⟩
  replace hR := hR.ext x
  replace hP := hP.ext x
  replace kR := kR.ext x
  replace kP := kP.ext x
  replace h1 := h1.ext x
  replace X := ext_trans X x
  clear x
  replace h2 := h2.at_
  go_wp2_with fail
  refine (HM0.out _ _ _ h1 h2).mono ?_
  rintro e w5 ⟨A0, c0, rfl, ca0, x⟩
  replace hR := hR.ext x
  replace hP := hP.ext x
  replace kR := kR.ext x
  replace kP := kP.ext x
  replace h1 := h1.ext x
  replace h2 := h2.ext x
  replace X := ext_trans X x
  clear x
  clear h1 h2
  clear HM0
  go_wp2_with fail
  refine (three_any _).mono ?_
  rintro e w6 ⟨v3, rfl, h3, x⟩
  replace hR := hR.ext x
  replace hP := hP.ext x
  replace kR := kR.ext x
  replace kP := kP.ext x
  replace ca0 := ca0.ext x
  replace X := ext_trans X x
  clear x
  go_wp2_with fail
  refine (near_any _).mono ?_
  rintro e w7 ⟨v4, rfl, h4, x⟩
  replace hR := hR.ext x
  replace hP := hP.ext x
  replace kR := kR.ext x
  replace kP := kP.ext x
  replace ca0 := ca0.ext x
  replace h3 := h3.ext x
  replace X := ext_trans X x
  clear x
  replace h4 := h4.at_
  go_wp2_with fail
  refine (HC0.out _ _ _ _ _ h3 h4 ca0).mono ?_
  rintro e w8 ⟨rfl, x⟩
  replace hR := hR.ext x
  replace hP := hP.ext x
  replace kR := kR.ext x
  replace kP := kP.ext x
  replace ca0 := ca0.ext x
  replace h3 := h3.ext x
  replace h4 := h4.ext x
  replace X := ext_trans X x
  clear x
  clear h3 h4 ca0
  clear HC0
  obtain ⟨xa, kE⟩ := blks1 w8 #[.int .i64 0, .int .i64 0] 31
  replace hR := hR.ext xa
  replace hP := hP.ext xa
  replace kR := kR.ext xa
  replace kP := kP.ext xa
  replace X := ext_trans X xa
  clear xa
  go_wp2_with fail
  generalize (w8.alloc (.cells #[.int .i64 0, .int .i64 0] 31)) = w9 at *
  generalize w8.heap.size = BE at *
  refine (fine_ext (fine_any (some ⟨BE, 0, none⟩) 2 2 [0, 0] _ rfl (by omega) (blk_ints kE))).mono ?_
  rintro e w10 ⟨rfl, x⟩
  replace hR := hR.ext x
  replace hP := hP.ext x
  replace kR := kR.ext x
  replace kP := kP.ext x
  replace kE := kE.ext x
  replace X := ext_trans X x
  clear x
  rw [show allZero [0, 0] = true from rfl]
  clear kE
  go_wp2_with fail
  refine (bscored_any _).mono ?_
  rintro e w11 ⟨rfl, x⟩
  replace hR := hR.ext x
  replace hP := hP.ext x
  replace kR := kR.ext x
  replace kP := kP.ext x
  replace X := ext_trans X x
  clear x
  go_wp2_with fail
  refine (three_any _).mono ?_
  rintro e w12 ⟨v5, rfl, h5, x⟩
  replace hR := hR.ext x
  replace hP := hP.ext x
  replace kR := kR.ext x
  replace kP := kP.ext x
  replace X := ext_trans X x
  clear x
  go_wp2_with fail
  refine (near_any _).mono ?_
  rintro e w13 ⟨v6, rfl, h6, x⟩
  replace hR := hR.ext x
  replace hP := hP.ext x
  replace kR := kR.ext x
  replace kP := kP.ext x
  replace h5 := h5.ext x
  replace X := ext_trans X x
  clear x
  replace h6 := h6.at_
  go_wp2_with fail
  refine (HA.out _ _ _ h5 h6).mono ?_
  rintro e w14 ⟨rfl, x⟩
  replace hR := hR.ext x
  replace hP := hP.ext x
  replace kR := kR.ext x
  replace kP := kP.ext x
  replace h5 := h5.ext x
  replace h6 := h6.ext x
  replace X := ext_trans X x
  clear x
  clear h5 h6
  clear HA
  obtain ⟨xa, kX⟩ := blks1 w14 #[.int .i64 0, .int .i64 0, .int .i64 bb, .int .i64 ((1 : Nat) : Int)] 57
  replace hR := hR.ext xa
  replace hP := hP.ext xa
  replace kR := kR.ext xa
  replace kP := kP.ext xa
  replace X := ext_trans X xa
  clear xa
  go_upto_region 6 with fail
  generalize (w14.alloc (.cells #[.int .i64 0, .int .i64 0, .int .i64 bb, .int .i64 ((1 : Nat) : Int)] 57)) = w15 at *
  generalize w14.heap.size = BX at *
  have fX := kX.cell
  have fR := kR.cell
  have fP := kP.cell
  go_wp2_with fail
  refine (HHV.out _ _ _ hR hP).mono ?_
  rintro e w16 ⟨rfl, x⟩
  replace hR := hR.ext x
  replace hP := hP.ext x
  replace kR := kR.ext x
  replace kP := kP.ext x
  replace kX := kX.ext x
  replace X := ext_trans X x
  replace fX := kX.cell
  replace fR := kR.cell
  replace fP := kP.cell
  clear x
  clear HHV
  clear fX
  go_wp2_with fail
  refine (HS.out _ _ _ hR hP).mono ?_
  rintro e w17 ⟨rfl, x⟩
  replace hR := hR.ext x
  replace hP := hP.ext x
  replace kR := kR.ext x
  replace kP := kP.ext x
  replace kX := kX.ext x
  replace X := ext_trans X x
  replace fR := kR.cell
  replace fP := kP.cell
  clear x
  clear HS
  go_wp2_with fail
  refine (HMK.out _ _ _ hR hP).mono ?_
  rintro e w18 ⟨rfl, x⟩
  replace hR := hR.ext x
  replace hP := hP.ext x
  replace kR := kR.ext x
  replace kP := kP.ext x
  replace kX := kX.ext x
  replace X := ext_trans X x
  replace fR := kR.cell
  replace fP := kP.cell
  clear x
  clear HMK
  go_wp2_with fail
  refine (HB1.out _ _ _ hR hP).mono ?_
  rintro e w19 ⟨rfl, x⟩
  replace hR := hR.ext x
  replace hP := hP.ext x
  replace kR := kR.ext x
  replace kP := kP.ext x
  replace kX := kX.ext x
  replace X := ext_trans X x
  replace fR := kR.cell
  replace fP := kP.cell
  clear x
  clear HB1
  clear fR fP
  obtain ⟨xa, k9⟩ := blks1 w19 #[.int .i64 st1, .int .i64 a1, .int .i64 b1, .int .i64 c1] 57
  replace hR := hR.ext xa
  replace hP := hP.ext xa
  replace kR := kR.ext xa
  replace kP := kP.ext xa
  replace kX := kX.ext xa
  replace X := ext_trans X xa
  clear xa
  go_upto_region 13 with fail
  generalize (w19.alloc (.cells #[.int .i64 st1, .int .i64 a1, .int .i64 b1, .int .i64 c1] 57)) = w20 at *
  generalize w19.heap.size = B9 at *
  have f9 := k9.cell
  go_wp2
  all_goals go_ret
  all_goals exact ⟨by first | rfl | simp, X⟩
set_option maxHeartbeats 4000000 in
set_option maxRecDepth 100000 in
theorem topProved_large (R : RulesM) (P : PosM) (v u : Value) (D b : Int) (w : World) (hR : RulesAt w v R) (hP : PosAt w u P) (K : Int) (hK : (wrap64 (b.tmod 50 + 50)).tmod 50 = K) (k0 : 0 ≤ K) (k1 : K < 50) (hh : bheavyB R P D = false) (hne : makeE R P D ≠ 0) (hp : perftE R P D = 0) (he : provE R P K = 0) (hs : 0 < ofM R D.toNat P) (hm : makeE R P D = 2) (ht : stN (provT R P K).1 ≠ 1) :
    Calls Try.prog 4 #[v, u, .int .i64 D, .int .i64 b] w fun e w' => e = .returned (.bool true) ∧ Ext w w' := by
  obtain ⟨nl, -⟩ := near_cert.2.2.2
  clear nl
  have HM0 := hide (fun W (v1 v2 : Value) (h1 : RulesAt W v1 threeR) (h2 : PosAt W v2 nearP) => near_make v1 v2 W h1 h2)
  have HC0 := hide (fun W (v1 v2 : Value) (A : Option Addr) (c : Nat) (h1 : RulesAt W v1 threeR) (h2 : PosAt W v2 nearP) (h3 : CertAt W A (certM threeR 3 0 nearP)) => near_check v1 v2 A c W h1 h2 h3)
  have HA := hide (fun W (v1 v2 : Value) (h1 : RulesAt W v1 threeR) (h2 : PosAt W v2 nearP) => Prove_yes threeR nearP v1 v2 10 W h1 h2 near_prov.1)
  rw [near_prov.2.1, near_prov.2.2.1, near_prov.2.2.2.1] at HA
  generalize (provT threeR nearP 10).1.b = bb at HA
  generalize certM threeR 3 0 nearP = L0 at *
  have HHV := hide (fun W (v1 v2 : Value) (h1 : RulesAt W v1 R) (h2 : PosAt W v2 P) => bheavy_any R P v1 v2 D W h1 h2)
  rw [hh] at HHV
  clear hh
  have HMK := hide (fun W (v1 v2 : Value) (h1 : RulesAt W v1 R) (h2 : PosAt W v2 P) => Make_no R P v1 v2 D W h1 h2 hne)
  have HS := hide (fun W (v1 v2 : Value) (h1 : RulesAt W v1 R) (h2 : PosAt W v2 P) => MScore_any R P v1 v2 D W h1 h2)
  have HB1 := hide (fun W (v1 v2 : Value) (h1 : RulesAt W v1 R) (h2 : PosAt W v2 P) => Prove_yes R P v1 v2 K W h1 h2 he)
  rw [hp, show scoreM R P D = ofM R D.toNat P from if_pos hp] at HS
  rw [hm] at HMK
  have t3 : (stN (provT R P K).1 == 1) = false := by simpa using ht
  have t1 : decide (0 < ofM R D.toNat P) = true := decide_eq_true hs
  have t2 : decide (ofM R D.toNat P < 0) = false := decide_eq_false (by omega)
  have t4 : decide (ofM R D.toNat P ≤ 0) = false := decide_eq_false (by omega)
  have t5 : (ofM R D.toNat P == 1000) = (ofM R D.toNat P == 1000) := rfl
  clear t5 hs hm ht hp hne he
  generalize (provT R P K).1.a = a1 at *
  generalize (provT R P K).1.b = b1 at *
  generalize ((provT R P K).2 : Int) = c1 at *
  generalize stN (provT R P K).1 = st1 at *
  generalize ofM R D.toNat P = s at *
  
  have hR0 := hR
  have hP0 := hP
  obtain ⟨pA, pc, sA, sc, eA, ec, rfl, -⟩ := hR0
  obtain ⟨cA, cc, aA, ac, bA, bc, rfl, -⟩ := hP0
  go_enter Try.func4, Try.ntmps4
  go_wp2_with fail
  obtain ⟨xa, kR, kP⟩ := blks2 w #[.string R.name, .int .i64 R.width, .int .i64 R.height, .slice pA R.pieces.length pc, .slice sA R.start.length sc, .bool R.falls, .bool R.keeps, .slice eA R.ends.length ec, .int .i64 R.blocked, .int .i64 R.quiet, .int .i64 R.rept] 26 #[.slice cA P.cells.length cc, .slice aA P.hand0.length ac, .slice bA P.hand1.length bc, .int .i64 P.turn, .int .i64 P.quiet] 29
  replace hR := hR.ext xa
  replace hP := hP.ext xa
  have X := xa
  clear xa
  generalize ((w.alloc (.cells #[.string R.name, .int .i64 R.width, .int .i64 R.height, .slice pA R.pieces.length pc, .slice sA R.start.length sc, .bool R.falls, .bool R.keeps, .slice eA R.ends.length ec, .int .i64 R.blocked, .int .i64 R.quiet, .int .i64 R.rept] 26)).alloc (.cells #[.slice cA P.cells.length cc, .slice aA P.hand0.length ac, .slice bA P.hand1.length bc, .int .i64 P.turn, .int .i64 P.quiet] 29)) = w2 at *
  generalize w.heap.size + 1 = BP at *
  generalize w.heap.size = BR at *
  refine (three_any _).mono ?_
  rintro e w3 ⟨v1, rfl, h1, x⟩
  replace hR := hR.ext x
  replace hP := hP.ext x
  replace kR := kR.ext x
  replace kP := kP.ext x
  replace X := ext_trans X x
  clear x
  go_wp2_with fail
  refine (near_any _).mono ?_
  rintro e w4 ⟨v2, rfl, h2, x⟩
  replace hR := hR.ext x
  replace hP := hP.ext x
  replace kR := kR.ext x
  replace kP := kP.ext x
  replace h1 := h1.ext x
  replace X := ext_trans X x
  clear x
  replace h2 := h2.at_
  go_wp2_with fail
  refine (HM0.out _ _ _ h1 h2).mono ?_
  rintro e w5 ⟨A0, c0, rfl, ca0, x⟩
  replace hR := hR.ext x
  replace hP := hP.ext x
  replace kR := kR.ext x
  replace kP := kP.ext x
  replace h1 := h1.ext x
  replace h2 := h2.ext x
  replace X := ext_trans X x
  clear x
  clear h1 h2
  clear HM0
  go_wp2_with fail
  refine (three_any _).mono ?_
  rintro e w6 ⟨v3, rfl, h3, x⟩
  replace hR := hR.ext x
  replace hP := hP.ext x
  replace kR := kR.ext x
  replace kP := kP.ext x
  replace ca0 := ca0.ext x
  replace X := ext_trans X x
  clear x
  go_wp2_with fail
  refine (near_any _).mono ?_
  rintro e w7 ⟨v4, rfl, h4, x⟩
  replace hR := hR.ext x
  replace hP := hP.ext x
  replace kR := kR.ext x
  replace kP := kP.ext x
  replace ca0 := ca0.ext x
  replace h3 := h3.ext x
  replace X := ext_trans X x
  clear x
  replace h4 := h4.at_
  go_wp2_with fail
  refine (HC0.out _ _ _ _ _ h3 h4 ca0).mono ?_
  rintro e w8 ⟨rfl, x⟩
  replace hR := hR.ext x
  replace hP := hP.ext x
  replace kR := kR.ext x
  replace kP := kP.ext x
  replace ca0 := ca0.ext x
  replace h3 := h3.ext x
  replace h4 := h4.ext x
  replace X := ext_trans X x
  clear x
  clear h3 h4 ca0
  clear HC0
  obtain ⟨xa, kE⟩ := blks1 w8 #[.int .i64 0, .int .i64 0] 31
  replace hR := hR.ext xa
  replace hP := hP.ext xa
  replace kR := kR.ext xa
  replace kP := kP.ext xa
  replace X := ext_trans X xa
  clear xa
  go_wp2_with fail
  generalize (w8.alloc (.cells #[.int .i64 0, .int .i64 0] 31)) = w9 at *
  generalize w8.heap.size = BE at *
  refine (fine_ext (fine_any (some ⟨BE, 0, none⟩) 2 2 [0, 0] _ rfl (by omega) (blk_ints kE))).mono ?_
  rintro e w10 ⟨rfl, x⟩
  replace hR := hR.ext x
  replace hP := hP.ext x
  replace kR := kR.ext x
  replace kP := kP.ext x
  replace kE := kE.ext x
  replace X := ext_trans X x
  clear x
  rw [show allZero [0, 0] = true from rfl]
  clear kE
  go_wp2_with fail
  refine (bscored_any _).mono ?_
  rintro e w11 ⟨rfl, x⟩
  replace hR := hR.ext x
  replace hP := hP.ext x
  replace kR := kR.ext x
  replace kP := kP.ext x
  replace X := ext_trans X x
  clear x
  go_wp2_with fail
  refine (three_any _).mono ?_
  rintro e w12 ⟨v5, rfl, h5, x⟩
  replace hR := hR.ext x
  replace hP := hP.ext x
  replace kR := kR.ext x
  replace kP := kP.ext x
  replace X := ext_trans X x
  clear x
  go_wp2_with fail
  refine (near_any _).mono ?_
  rintro e w13 ⟨v6, rfl, h6, x⟩
  replace hR := hR.ext x
  replace hP := hP.ext x
  replace kR := kR.ext x
  replace kP := kP.ext x
  replace h5 := h5.ext x
  replace X := ext_trans X x
  clear x
  replace h6 := h6.at_
  go_wp2_with fail
  refine (HA.out _ _ _ h5 h6).mono ?_
  rintro e w14 ⟨rfl, x⟩
  replace hR := hR.ext x
  replace hP := hP.ext x
  replace kR := kR.ext x
  replace kP := kP.ext x
  replace h5 := h5.ext x
  replace h6 := h6.ext x
  replace X := ext_trans X x
  clear x
  clear h5 h6
  clear HA
  obtain ⟨xa, kX⟩ := blks1 w14 #[.int .i64 0, .int .i64 0, .int .i64 bb, .int .i64 ((1 : Nat) : Int)] 57
  replace hR := hR.ext xa
  replace hP := hP.ext xa
  replace kR := kR.ext xa
  replace kP := kP.ext xa
  replace X := ext_trans X xa
  clear xa
  go_upto_region 6 with fail
  generalize (w14.alloc (.cells #[.int .i64 0, .int .i64 0, .int .i64 bb, .int .i64 ((1 : Nat) : Int)] 57)) = w15 at *
  generalize w14.heap.size = BX at *
  have fX := kX.cell
  have fR := kR.cell
  have fP := kP.cell
  go_wp2_with fail
  refine (HHV.out _ _ _ hR hP).mono ?_
  rintro e w16 ⟨rfl, x⟩
  replace hR := hR.ext x
  replace hP := hP.ext x
  replace kR := kR.ext x
  replace kP := kP.ext x
  replace kX := kX.ext x
  replace X := ext_trans X x
  replace fX := kX.cell
  replace fR := kR.cell
  replace fP := kP.cell
  clear x
  clear HHV
  clear fX
  go_wp2_with fail
  refine (HS.out _ _ _ hR hP).mono ?_
  rintro e w17 ⟨rfl, x⟩
  replace hR := hR.ext x
  replace hP := hP.ext x
  replace kR := kR.ext x
  replace kP := kP.ext x
  replace kX := kX.ext x
  replace X := ext_trans X x
  replace fR := kR.cell
  replace fP := kP.cell
  clear x
  clear HS
  go_wp2_with fail
  refine (HMK.out _ _ _ hR hP).mono ?_
  rintro e w18 ⟨rfl, x⟩
  replace hR := hR.ext x
  replace hP := hP.ext x
  replace kR := kR.ext x
  replace kP := kP.ext x
  replace kX := kX.ext x
  replace X := ext_trans X x
  replace fR := kR.cell
  replace fP := kP.cell
  clear x
  clear HMK
  go_wp2_with fail
  refine (HB1.out _ _ _ hR hP).mono ?_
  rintro e w19 ⟨rfl, x⟩
  replace hR := hR.ext x
  replace hP := hP.ext x
  replace kR := kR.ext x
  replace kP := kP.ext x
  replace kX := kX.ext x
  replace X := ext_trans X x
  replace fR := kR.cell
  replace fP := kP.cell
  clear x
  clear HB1
  clear fR fP
  obtain ⟨xa, k9⟩ := blks1 w19 #[.int .i64 st1, .int .i64 a1, .int .i64 b1, .int .i64 c1] 57
  replace hR := hR.ext xa
  replace hP := hP.ext xa
  replace kR := kR.ext xa
  replace kP := kP.ext xa
  replace kX := kX.ext xa
  replace X := ext_trans X xa
  clear xa
  go_upto_region 13 with fail
  generalize (w19.alloc (.cells #[.int .i64 st1, .int .i64 a1, .int .i64 b1, .int .i64 c1] 57)) = w20 at *
  generalize w19.heap.size = B9 at *
  have f9 := k9.cell
  go_wp2
  all_goals go_ret
  all_goals exact ⟨by first | rfl | simp, X⟩
set_option maxHeartbeats 4000000 in
set_option maxRecDepth 100000 in
theorem topProved_neg (R : RulesM) (P : PosM) (v u : Value) (D b : Int) (w : World) (hR : RulesAt w v R) (hP : PosAt w u P) (K : Int) (hK : (wrap64 (b.tmod 50 + 50)).tmod 50 = K) (k0 : 0 ≤ K) (k1 : K < 50) (hh : bheavyB R P D = false) (hne : makeE R P D ≠ 0) (hp : perftE R P D = 0) (he : provE R P K = 0) (hs : ofM R D.toNat P < 0) (ht : stN (provT R P K).1 ≠ 0) :
    Calls Try.prog 4 #[v, u, .int .i64 D, .int .i64 b] w fun e w' => e = .returned (.bool true) ∧ Ext w w' := by
  obtain ⟨nl, -⟩ := near_cert.2.2.2
  clear nl
  have HM0 := hide (fun W (v1 v2 : Value) (h1 : RulesAt W v1 threeR) (h2 : PosAt W v2 nearP) => near_make v1 v2 W h1 h2)
  have HC0 := hide (fun W (v1 v2 : Value) (A : Option Addr) (c : Nat) (h1 : RulesAt W v1 threeR) (h2 : PosAt W v2 nearP) (h3 : CertAt W A (certM threeR 3 0 nearP)) => near_check v1 v2 A c W h1 h2 h3)
  have HA := hide (fun W (v1 v2 : Value) (h1 : RulesAt W v1 threeR) (h2 : PosAt W v2 nearP) => Prove_yes threeR nearP v1 v2 10 W h1 h2 near_prov.1)
  rw [near_prov.2.1, near_prov.2.2.1, near_prov.2.2.2.1] at HA
  generalize (provT threeR nearP 10).1.b = bb at HA
  generalize certM threeR 3 0 nearP = L0 at *
  have HHV := hide (fun W (v1 v2 : Value) (h1 : RulesAt W v1 R) (h2 : PosAt W v2 P) => bheavy_any R P v1 v2 D W h1 h2)
  rw [hh] at HHV
  clear hh
  have HMK := hide (fun W (v1 v2 : Value) (h1 : RulesAt W v1 R) (h2 : PosAt W v2 P) => Make_no R P v1 v2 D W h1 h2 hne)
  have HS := hide (fun W (v1 v2 : Value) (h1 : RulesAt W v1 R) (h2 : PosAt W v2 P) => MScore_any R P v1 v2 D W h1 h2)
  have HB1 := hide (fun W (v1 v2 : Value) (h1 : RulesAt W v1 R) (h2 : PosAt W v2 P) => Prove_yes R P v1 v2 K W h1 h2 he)
  rw [hp, show scoreM R P D = ofM R D.toNat P from if_pos hp] at HS
  have t0 : (makeE R P D != 0) = true := by simpa using hne
  have t3 : (stN (provT R P K).1 == 0) = false := by simpa using ht
  have t1 : decide (0 < ofM R D.toNat P) = false := decide_eq_false (by omega)
  have t2 : decide (ofM R D.toNat P < 0) = true := decide_eq_true hs
  have t4 : decide (ofM R D.toNat P ≤ 0) = true := decide_eq_true (by omega)
  clear hs ht hp hne he
  generalize (provT R P K).1.a = a1 at *
  generalize (provT R P K).1.b = b1 at *
  generalize ((provT R P K).2 : Int) = c1 at *
  generalize stN (provT R P K).1 = st1 at *
  generalize ofM R D.toNat P = s at *
  generalize makeE R P D = E at *
  have hR0 := hR
  have hP0 := hP
  obtain ⟨pA, pc, sA, sc, eA, ec, rfl, -⟩ := hR0
  obtain ⟨cA, cc, aA, ac, bA, bc, rfl, -⟩ := hP0
  go_enter Try.func4, Try.ntmps4
  go_wp2_with fail
  obtain ⟨xa, kR, kP⟩ := blks2 w #[.string R.name, .int .i64 R.width, .int .i64 R.height, .slice pA R.pieces.length pc, .slice sA R.start.length sc, .bool R.falls, .bool R.keeps, .slice eA R.ends.length ec, .int .i64 R.blocked, .int .i64 R.quiet, .int .i64 R.rept] 26 #[.slice cA P.cells.length cc, .slice aA P.hand0.length ac, .slice bA P.hand1.length bc, .int .i64 P.turn, .int .i64 P.quiet] 29
  replace hR := hR.ext xa
  replace hP := hP.ext xa
  have X := xa
  clear xa
  generalize ((w.alloc (.cells #[.string R.name, .int .i64 R.width, .int .i64 R.height, .slice pA R.pieces.length pc, .slice sA R.start.length sc, .bool R.falls, .bool R.keeps, .slice eA R.ends.length ec, .int .i64 R.blocked, .int .i64 R.quiet, .int .i64 R.rept] 26)).alloc (.cells #[.slice cA P.cells.length cc, .slice aA P.hand0.length ac, .slice bA P.hand1.length bc, .int .i64 P.turn, .int .i64 P.quiet] 29)) = w2 at *
  generalize w.heap.size + 1 = BP at *
  generalize w.heap.size = BR at *
  refine (three_any _).mono ?_
  rintro e w3 ⟨v1, rfl, h1, x⟩
  replace hR := hR.ext x
  replace hP := hP.ext x
  replace kR := kR.ext x
  replace kP := kP.ext x
  replace X := ext_trans X x
  clear x
  go_wp2_with fail
  refine (near_any _).mono ?_
  rintro e w4 ⟨v2, rfl, h2, x⟩
  replace hR := hR.ext x
  replace hP := hP.ext x
  replace kR := kR.ext x
  replace kP := kP.ext x
  replace h1 := h1.ext x
  replace X := ext_trans X x
  clear x
  replace h2 := h2.at_
  go_wp2_with fail
  refine (HM0.out _ _ _ h1 h2).mono ?_
  rintro e w5 ⟨A0, c0, rfl, ca0, x⟩
  replace hR := hR.ext x
  replace hP := hP.ext x
  replace kR := kR.ext x
  replace kP := kP.ext x
  replace h1 := h1.ext x
  replace h2 := h2.ext x
  replace X := ext_trans X x
  clear x
  clear h1 h2
  clear HM0
  go_wp2_with fail
  refine (three_any _).mono ?_
  rintro e w6 ⟨v3, rfl, h3, x⟩
  replace hR := hR.ext x
  replace hP := hP.ext x
  replace kR := kR.ext x
  replace kP := kP.ext x
  replace ca0 := ca0.ext x
  replace X := ext_trans X x
  clear x
  go_wp2_with fail
  refine (near_any _).mono ?_
  rintro e w7 ⟨v4, rfl, h4, x⟩
  replace hR := hR.ext x
  replace hP := hP.ext x
  replace kR := kR.ext x
  replace kP := kP.ext x
  replace ca0 := ca0.ext x
  replace h3 := h3.ext x
  replace X := ext_trans X x
  clear x
  replace h4 := h4.at_
  go_wp2_with fail
  refine (HC0.out _ _ _ _ _ h3 h4 ca0).mono ?_
  rintro e w8 ⟨rfl, x⟩
  replace hR := hR.ext x
  replace hP := hP.ext x
  replace kR := kR.ext x
  replace kP := kP.ext x
  replace ca0 := ca0.ext x
  replace h3 := h3.ext x
  replace h4 := h4.ext x
  replace X := ext_trans X x
  clear x
  clear h3 h4 ca0
  clear HC0
  obtain ⟨xa, kE⟩ := blks1 w8 #[.int .i64 0, .int .i64 0] 31
  replace hR := hR.ext xa
  replace hP := hP.ext xa
  replace kR := kR.ext xa
  replace kP := kP.ext xa
  replace X := ext_trans X xa
  clear xa
  go_wp2_with fail
  generalize (w8.alloc (.cells #[.int .i64 0, .int .i64 0] 31)) = w9 at *
  generalize w8.heap.size = BE at *
  refine (fine_ext (fine_any (some ⟨BE, 0, none⟩) 2 2 [0, 0] _ rfl (by omega) (blk_ints kE))).mono ?_
  rintro e w10 ⟨rfl, x⟩
  replace hR := hR.ext x
  replace hP := hP.ext x
  replace kR := kR.ext x
  replace kP := kP.ext x
  replace kE := kE.ext x
  replace X := ext_trans X x
  clear x
  rw [show allZero [0, 0] = true from rfl]
  clear kE
  go_wp2_with fail
  refine (bscored_any _).mono ?_
  rintro e w11 ⟨rfl, x⟩
  replace hR := hR.ext x
  replace hP := hP.ext x
  replace kR := kR.ext x
  replace kP := kP.ext x
  replace X := ext_trans X x
  clear x
  go_wp2_with fail
  refine (three_any _).mono ?_
  rintro e w12 ⟨v5, rfl, h5, x⟩
  replace hR := hR.ext x
  replace hP := hP.ext x
  replace kR := kR.ext x
  replace kP := kP.ext x
  replace X := ext_trans X x
  clear x
  go_wp2_with fail
  refine (near_any _).mono ?_
  rintro e w13 ⟨v6, rfl, h6, x⟩
  replace hR := hR.ext x
  replace hP := hP.ext x
  replace kR := kR.ext x
  replace kP := kP.ext x
  replace h5 := h5.ext x
  replace X := ext_trans X x
  clear x
  replace h6 := h6.at_
  go_wp2_with fail
  refine (HA.out _ _ _ h5 h6).mono ?_
  rintro e w14 ⟨rfl, x⟩
  replace hR := hR.ext x
  replace hP := hP.ext x
  replace kR := kR.ext x
  replace kP := kP.ext x
  replace h5 := h5.ext x
  replace h6 := h6.ext x
  replace X := ext_trans X x
  clear x
  clear h5 h6
  clear HA
  obtain ⟨xa, kX⟩ := blks1 w14 #[.int .i64 0, .int .i64 0, .int .i64 bb, .int .i64 ((1 : Nat) : Int)] 57
  replace hR := hR.ext xa
  replace hP := hP.ext xa
  replace kR := kR.ext xa
  replace kP := kP.ext xa
  replace X := ext_trans X xa
  clear xa
  go_upto_region 6 with fail
  generalize (w14.alloc (.cells #[.int .i64 0, .int .i64 0, .int .i64 bb, .int .i64 ((1 : Nat) : Int)] 57)) = w15 at *
  generalize w14.heap.size = BX at *
  have fX := kX.cell
  have fR := kR.cell
  have fP := kP.cell
  go_wp2_with fail
  refine (HHV.out _ _ _ hR hP).mono ?_
  rintro e w16 ⟨rfl, x⟩
  replace hR := hR.ext x
  replace hP := hP.ext x
  replace kR := kR.ext x
  replace kP := kP.ext x
  replace kX := kX.ext x
  replace X := ext_trans X x
  replace fX := kX.cell
  replace fR := kR.cell
  replace fP := kP.cell
  clear x
  clear HHV
  clear fX
  go_wp2_with fail
  refine (HS.out _ _ _ hR hP).mono ?_
  rintro e w17 ⟨rfl, x⟩
  replace hR := hR.ext x
  replace hP := hP.ext x
  replace kR := kR.ext x
  replace kP := kP.ext x
  replace kX := kX.ext x
  replace X := ext_trans X x
  replace fR := kR.cell
  replace fP := kP.cell
  clear x
  clear HS
  go_wp2_with fail
  refine (HMK.out _ _ _ hR hP).mono ?_
  rintro e w18 ⟨rfl, x⟩
  replace hR := hR.ext x
  replace hP := hP.ext x
  replace kR := kR.ext x
  replace kP := kP.ext x
  replace kX := kX.ext x
  replace X := ext_trans X x
  replace fR := kR.cell
  replace fP := kP.cell
  clear x
  clear HMK
  go_wp2_with fail
  refine (HB1.out _ _ _ hR hP).mono ?_
  rintro e w19 ⟨rfl, x⟩
  replace hR := hR.ext x
  replace hP := hP.ext x
  replace kR := kR.ext x
  replace kP := kP.ext x
  replace kX := kX.ext x
  replace X := ext_trans X x
  replace fR := kR.cell
  replace fP := kP.cell
  clear x
  clear HB1
  clear fR fP
  obtain ⟨xa, k9⟩ := blks1 w19 #[.int .i64 st1, .int .i64 a1, .int .i64 b1, .int .i64 c1] 57
  replace hR := hR.ext xa
  replace hP := hP.ext xa
  replace kR := kR.ext xa
  replace kP := kP.ext xa
  replace kX := kX.ext xa
  replace X := ext_trans X xa
  clear xa
  go_upto_region 13 with fail
  generalize (w19.alloc (.cells #[.int .i64 st1, .int .i64 a1, .int .i64 b1, .int .i64 c1] 57)) = w20 at *
  generalize w19.heap.size = B9 at *
  have f9 := k9.cell
  go_wp2
  all_goals go_ret
  all_goals exact ⟨by first | rfl | simp, X⟩
set_option maxHeartbeats 4000000 in
set_option maxRecDepth 100000 in
theorem topProved_zero (R : RulesM) (P : PosM) (v u : Value) (D b : Int) (w : World) (hR : RulesAt w v R) (hP : PosAt w u P) (K : Int) (hK : (wrap64 (b.tmod 50 + 50)).tmod 50 = K) (k0 : 0 ≤ K) (k1 : K < 50) (hh : bheavyB R P D = false) (hne : makeE R P D ≠ 0) (hp : perftE R P D = 0) (he : provE R P K = 0) (hs : ofM R D.toNat P = 0) :
    Calls Try.prog 4 #[v, u, .int .i64 D, .int .i64 b] w fun e w' => e = .returned (.bool true) ∧ Ext w w' := by
  obtain ⟨nl, -⟩ := near_cert.2.2.2
  clear nl
  have HM0 := hide (fun W (v1 v2 : Value) (h1 : RulesAt W v1 threeR) (h2 : PosAt W v2 nearP) => near_make v1 v2 W h1 h2)
  have HC0 := hide (fun W (v1 v2 : Value) (A : Option Addr) (c : Nat) (h1 : RulesAt W v1 threeR) (h2 : PosAt W v2 nearP) (h3 : CertAt W A (certM threeR 3 0 nearP)) => near_check v1 v2 A c W h1 h2 h3)
  have HA := hide (fun W (v1 v2 : Value) (h1 : RulesAt W v1 threeR) (h2 : PosAt W v2 nearP) => Prove_yes threeR nearP v1 v2 10 W h1 h2 near_prov.1)
  rw [near_prov.2.1, near_prov.2.2.1, near_prov.2.2.2.1] at HA
  generalize (provT threeR nearP 10).1.b = bb at HA
  generalize certM threeR 3 0 nearP = L0 at *
  have HHV := hide (fun W (v1 v2 : Value) (h1 : RulesAt W v1 R) (h2 : PosAt W v2 P) => bheavy_any R P v1 v2 D W h1 h2)
  rw [hh] at HHV
  clear hh
  have HMK := hide (fun W (v1 v2 : Value) (h1 : RulesAt W v1 R) (h2 : PosAt W v2 P) => Make_no R P v1 v2 D W h1 h2 hne)
  have HS := hide (fun W (v1 v2 : Value) (h1 : RulesAt W v1 R) (h2 : PosAt W v2 P) => MScore_any R P v1 v2 D W h1 h2)
  have HB1 := hide (fun W (v1 v2 : Value) (h1 : RulesAt W v1 R) (h2 : PosAt W v2 P) => Prove_yes R P v1 v2 K W h1 h2 he)
  rw [hp, show scoreM R P D = ofM R D.toNat P from if_pos hp] at HS
  rw [hs] at HS
  have t0 : (makeE R P D != 0) = true := by simpa using hne
  clear hs hp hne he
  generalize (provT R P K).1.a = a1 at *
  generalize (provT R P K).1.b = b1 at *
  generalize ((provT R P K).2 : Int) = c1 at *
  generalize stN (provT R P K).1 = st1 at *
  generalize makeE R P D = E at *
  have hR0 := hR
  have hP0 := hP
  obtain ⟨pA, pc, sA, sc, eA, ec, rfl, -⟩ := hR0
  obtain ⟨cA, cc, aA, ac, bA, bc, rfl, -⟩ := hP0
  go_enter Try.func4, Try.ntmps4
  go_wp2_with fail
  obtain ⟨xa, kR, kP⟩ := blks2 w #[.string R.name, .int .i64 R.width, .int .i64 R.height, .slice pA R.pieces.length pc, .slice sA R.start.length sc, .bool R.falls, .bool R.keeps, .slice eA R.ends.length ec, .int .i64 R.blocked, .int .i64 R.quiet, .int .i64 R.rept] 26 #[.slice cA P.cells.length cc, .slice aA P.hand0.length ac, .slice bA P.hand1.length bc, .int .i64 P.turn, .int .i64 P.quiet] 29
  replace hR := hR.ext xa
  replace hP := hP.ext xa
  have X := xa
  clear xa
  generalize ((w.alloc (.cells #[.string R.name, .int .i64 R.width, .int .i64 R.height, .slice pA R.pieces.length pc, .slice sA R.start.length sc, .bool R.falls, .bool R.keeps, .slice eA R.ends.length ec, .int .i64 R.blocked, .int .i64 R.quiet, .int .i64 R.rept] 26)).alloc (.cells #[.slice cA P.cells.length cc, .slice aA P.hand0.length ac, .slice bA P.hand1.length bc, .int .i64 P.turn, .int .i64 P.quiet] 29)) = w2 at *
  generalize w.heap.size + 1 = BP at *
  generalize w.heap.size = BR at *
  refine (three_any _).mono ?_
  rintro e w3 ⟨v1, rfl, h1, x⟩
  replace hR := hR.ext x
  replace hP := hP.ext x
  replace kR := kR.ext x
  replace kP := kP.ext x
  replace X := ext_trans X x
  clear x
  go_wp2_with fail
  refine (near_any _).mono ?_
  rintro e w4 ⟨v2, rfl, h2, x⟩
  replace hR := hR.ext x
  replace hP := hP.ext x
  replace kR := kR.ext x
  replace kP := kP.ext x
  replace h1 := h1.ext x
  replace X := ext_trans X x
  clear x
  replace h2 := h2.at_
  go_wp2_with fail
  refine (HM0.out _ _ _ h1 h2).mono ?_
  rintro e w5 ⟨A0, c0, rfl, ca0, x⟩
  replace hR := hR.ext x
  replace hP := hP.ext x
  replace kR := kR.ext x
  replace kP := kP.ext x
  replace h1 := h1.ext x
  replace h2 := h2.ext x
  replace X := ext_trans X x
  clear x
  clear h1 h2
  clear HM0
  go_wp2_with fail
  refine (three_any _).mono ?_
  rintro e w6 ⟨v3, rfl, h3, x⟩
  replace hR := hR.ext x
  replace hP := hP.ext x
  replace kR := kR.ext x
  replace kP := kP.ext x
  replace ca0 := ca0.ext x
  replace X := ext_trans X x
  clear x
  go_wp2_with fail
  refine (near_any _).mono ?_
  rintro e w7 ⟨v4, rfl, h4, x⟩
  replace hR := hR.ext x
  replace hP := hP.ext x
  replace kR := kR.ext x
  replace kP := kP.ext x
  replace ca0 := ca0.ext x
  replace h3 := h3.ext x
  replace X := ext_trans X x
  clear x
  replace h4 := h4.at_
  go_wp2_with fail
  refine (HC0.out _ _ _ _ _ h3 h4 ca0).mono ?_
  rintro e w8 ⟨rfl, x⟩
  replace hR := hR.ext x
  replace hP := hP.ext x
  replace kR := kR.ext x
  replace kP := kP.ext x
  replace ca0 := ca0.ext x
  replace h3 := h3.ext x
  replace h4 := h4.ext x
  replace X := ext_trans X x
  clear x
  clear h3 h4 ca0
  clear HC0
  obtain ⟨xa, kE⟩ := blks1 w8 #[.int .i64 0, .int .i64 0] 31
  replace hR := hR.ext xa
  replace hP := hP.ext xa
  replace kR := kR.ext xa
  replace kP := kP.ext xa
  replace X := ext_trans X xa
  clear xa
  go_wp2_with fail
  generalize (w8.alloc (.cells #[.int .i64 0, .int .i64 0] 31)) = w9 at *
  generalize w8.heap.size = BE at *
  refine (fine_ext (fine_any (some ⟨BE, 0, none⟩) 2 2 [0, 0] _ rfl (by omega) (blk_ints kE))).mono ?_
  rintro e w10 ⟨rfl, x⟩
  replace hR := hR.ext x
  replace hP := hP.ext x
  replace kR := kR.ext x
  replace kP := kP.ext x
  replace kE := kE.ext x
  replace X := ext_trans X x
  clear x
  rw [show allZero [0, 0] = true from rfl]
  clear kE
  go_wp2_with fail
  refine (bscored_any _).mono ?_
  rintro e w11 ⟨rfl, x⟩
  replace hR := hR.ext x
  replace hP := hP.ext x
  replace kR := kR.ext x
  replace kP := kP.ext x
  replace X := ext_trans X x
  clear x
  go_wp2_with fail
  refine (three_any _).mono ?_
  rintro e w12 ⟨v5, rfl, h5, x⟩
  replace hR := hR.ext x
  replace hP := hP.ext x
  replace kR := kR.ext x
  replace kP := kP.ext x
  replace X := ext_trans X x
  clear x
  go_wp2_with fail
  refine (near_any _).mono ?_
  rintro e w13 ⟨v6, rfl, h6, x⟩
  replace hR := hR.ext x
  replace hP := hP.ext x
  replace kR := kR.ext x
  replace kP := kP.ext x
  replace h5 := h5.ext x
  replace X := ext_trans X x
  clear x
  replace h6 := h6.at_
  go_wp2_with fail
  refine (HA.out _ _ _ h5 h6).mono ?_
  rintro e w14 ⟨rfl, x⟩
  replace hR := hR.ext x
  replace hP := hP.ext x
  replace kR := kR.ext x
  replace kP := kP.ext x
  replace h5 := h5.ext x
  replace h6 := h6.ext x
  replace X := ext_trans X x
  clear x
  clear h5 h6
  clear HA
  obtain ⟨xa, kX⟩ := blks1 w14 #[.int .i64 0, .int .i64 0, .int .i64 bb, .int .i64 ((1 : Nat) : Int)] 57
  replace hR := hR.ext xa
  replace hP := hP.ext xa
  replace kR := kR.ext xa
  replace kP := kP.ext xa
  replace X := ext_trans X xa
  clear xa
  go_upto_region 6 with fail
  generalize (w14.alloc (.cells #[.int .i64 0, .int .i64 0, .int .i64 bb, .int .i64 ((1 : Nat) : Int)] 57)) = w15 at *
  generalize w14.heap.size = BX at *
  have fX := kX.cell
  have fR := kR.cell
  have fP := kP.cell
  go_wp2_with fail
  refine (HHV.out _ _ _ hR hP).mono ?_
  rintro e w16 ⟨rfl, x⟩
  replace hR := hR.ext x
  replace hP := hP.ext x
  replace kR := kR.ext x
  replace kP := kP.ext x
  replace kX := kX.ext x
  replace X := ext_trans X x
  replace fX := kX.cell
  replace fR := kR.cell
  replace fP := kP.cell
  clear x
  clear HHV
  clear fX
  go_wp2_with fail
  refine (HS.out _ _ _ hR hP).mono ?_
  rintro e w17 ⟨rfl, x⟩
  replace hR := hR.ext x
  replace hP := hP.ext x
  replace kR := kR.ext x
  replace kP := kP.ext x
  replace kX := kX.ext x
  replace X := ext_trans X x
  replace fR := kR.cell
  replace fP := kP.cell
  clear x
  clear HS
  go_wp2_with fail
  refine (HMK.out _ _ _ hR hP).mono ?_
  rintro e w18 ⟨rfl, x⟩
  replace hR := hR.ext x
  replace hP := hP.ext x
  replace kR := kR.ext x
  replace kP := kP.ext x
  replace kX := kX.ext x
  replace X := ext_trans X x
  replace fR := kR.cell
  replace fP := kP.cell
  clear x
  clear HMK
  go_wp2_with fail
  refine (HB1.out _ _ _ hR hP).mono ?_
  rintro e w19 ⟨rfl, x⟩
  replace hR := hR.ext x
  replace hP := hP.ext x
  replace kR := kR.ext x
  replace kP := kP.ext x
  replace kX := kX.ext x
  replace X := ext_trans X x
  replace fR := kR.cell
  replace fP := kP.cell
  clear x
  clear HB1
  clear fR fP
  obtain ⟨xa, k9⟩ := blks1 w19 #[.int .i64 st1, .int .i64 a1, .int .i64 b1, .int .i64 c1] 57
  replace hR := hR.ext xa
  replace hP := hP.ext xa
  replace kR := kR.ext xa
  replace kP := kP.ext xa
  replace kX := kX.ext xa
  replace X := ext_trans X xa
  clear xa
  go_upto_region 13 with fail
  generalize (w19.alloc (.cells #[.int .i64 st1, .int .i64 a1, .int .i64 b1, .int .i64 c1] 57)) = w20 at *
  generalize w19.heap.size = B9 at *
  have f9 := k9.cell
  go_wp2
  all_goals go_ret
  all_goals exact ⟨by first | rfl | simp, X⟩
set_option maxHeartbeats 4000000 in
set_option maxRecDepth 100000 in
theorem topProved_yes (R : RulesM) (P : PosM) (v u : Value) (D b : Int) (w : World) (hR : RulesAt w v R) (hP : PosAt w u P) (K : Int) (hK : (wrap64 (b.tmod 50 + 50)).tmod 50 = K) (k0 : 0 ≤ K) (k1 : K < 50) (hh : bheavyB R P D = false) (h0 : makeE R P D = 0) (he : provE R P K = 0) (ht : stN (provT R P K).1 ≠ 1) :
    Calls Try.prog 4 #[v, u, .int .i64 D, .int .i64 b] w fun e w' => e = .returned (.bool true) ∧ Ext w w' := by
  obtain ⟨nl, -⟩ := near_cert.2.2.2
  clear nl
  have HM0 := hide (fun W (v1 v2 : Value) (h1 : RulesAt W v1 threeR) (h2 : PosAt W v2 nearP) => near_make v1 v2 W h1 h2)
  have HC0 := hide (fun W (v1 v2 : Value) (A : Option Addr) (c : Nat) (h1 : RulesAt W v1 threeR) (h2 : PosAt W v2 nearP) (h3 : CertAt W A (certM threeR 3 0 nearP)) => near_check v1 v2 A c W h1 h2 h3)
  have HA := hide (fun W (v1 v2 : Value) (h1 : RulesAt W v1 threeR) (h2 : PosAt W v2 nearP) => Prove_yes threeR nearP v1 v2 10 W h1 h2 near_prov.1)
  rw [near_prov.2.1, near_prov.2.2.1, near_prov.2.2.2.1] at HA
  generalize (provT threeR nearP 10).1.b = bb at HA
  generalize certM threeR 3 0 nearP = L0 at *
  have HHV := hide (fun W (v1 v2 : Value) (h1 : RulesAt W v1 R) (h2 : PosAt W v2 P) => bheavy_any R P v1 v2 D W h1 h2)
  rw [hh] at HHV
  clear hh
  have HS := hide (fun W (v1 v2 : Value) (h1 : RulesAt W v1 R) (h2 : PosAt W v2 P) => MScore_any R P v1 v2 D W h1 h2)
  have HB1 := hide (fun W (v1 v2 : Value) (h1 : RulesAt W v1 R) (h2 : PosAt W v2 P) => Prove_yes R P v1 v2 K W h1 h2 he)
  have HMK := hide (fun W (v1 v2 : Value) (h1 : RulesAt W v1 R) (h2 : PosAt W v2 P) => Make_yes R P v1 v2 D W h1 h2 h0)
  unfold MakeOk at HMK
  have HCK := hide (fun W (v1 v2 : Value) (A : Option Addr) (c : Nat) (h1 : RulesAt W v1 R) (h2 : PosAt W v2 P) (h3 : CertAt W A (certM R D.toNat 0 P)) => Check_made R P v1 v2 D A c W h1 h2 h0 h3)
  obtain ⟨hp, hr, ho, hl⟩ := makeE_zero h0
  obtain ⟨hV, hS, d0, d1, -⟩ := perft_zero hp
  have hb := of_bound R D.toNat P hS.turn (by omega)
  rw [hp, show scoreM R P D = ofM R D.toNat P from if_pos hp] at HS
  have t3 : (stN (provT R P K).1 == 1) = false := by simpa using ht
  clear ht he
  generalize (provT R P K).1.a = a1 at *
  generalize (provT R P K).1.b = b1 at *
  generalize ((provT R P K).2 : Int) = c1 at *
  generalize stN (provT R P K).1 = st1 at *
  generalize certM R D.toNat 0 P = L at *
  generalize ofM R D.toNat P = s at *
  have hb2 : s ≤ 1000 ∧ 1000 - s ≤ D := by unfold boundB at hb; omega
  obtain ⟨hb3, hb4⟩ := hb2
  have t1 : decide (0 < s) = true := decide_eq_true ho
  have t2 : decide (s < 0) = false := decide_eq_false (by omega)
  have hw : IntKind.i64.wrap (1000 - s) = 1000 - s := by rw [IntKind.wrap_i64]; omega
  have t5 : (1000 - s == 1000 - s) = true := beq_self_eq_true _
  clear h0 hp hr hl hV hS hb d0 d1
  have hR0 := hR
  have hP0 := hP
  obtain ⟨pA, pc, sA, sc, eA, ec, rfl, -⟩ := hR0
  obtain ⟨cA, cc, aA, ac, bA, bc, rfl, -⟩ := hP0
  go_enter Try.func4, Try.ntmps4
  go_wp2_with fail
  obtain ⟨xa, kR, kP⟩ := blks2 w #[.string R.name, .int .i64 R.width, .int .i64 R.height, .slice pA R.pieces.length pc, .slice sA R.start.length sc, .bool R.falls, .bool R.keeps, .slice eA R.ends.length ec, .int .i64 R.blocked, .int .i64 R.quiet, .int .i64 R.rept] 26 #[.slice cA P.cells.length cc, .slice aA P.hand0.length ac, .slice bA P.hand1.length bc, .int .i64 P.turn, .int .i64 P.quiet] 29
  replace hR := hR.ext xa
  replace hP := hP.ext xa
  have X := xa
  clear xa
  generalize ((w.alloc (.cells #[.string R.name, .int .i64 R.width, .int .i64 R.height, .slice pA R.pieces.length pc, .slice sA R.start.length sc, .bool R.falls, .bool R.keeps, .slice eA R.ends.length ec, .int .i64 R.blocked, .int .i64 R.quiet, .int .i64 R.rept] 26)).alloc (.cells #[.slice cA P.cells.length cc, .slice aA P.hand0.length ac, .slice bA P.hand1.length bc, .int .i64 P.turn, .int .i64 P.quiet] 29)) = w2 at *
  generalize w.heap.size + 1 = BP at *
  generalize w.heap.size = BR at *
  refine (three_any _).mono ?_
  rintro e w3 ⟨v1, rfl, h1, x⟩
  replace hR := hR.ext x
  replace hP := hP.ext x
  replace kR := kR.ext x
  replace kP := kP.ext x
  replace X := ext_trans X x
  clear x
  go_wp2_with fail
  refine (near_any _).mono ?_
  rintro e w4 ⟨v2, rfl, h2, x⟩
  replace hR := hR.ext x
  replace hP := hP.ext x
  replace kR := kR.ext x
  replace kP := kP.ext x
  replace h1 := h1.ext x
  replace X := ext_trans X x
  clear x
  replace h2 := h2.at_
  go_wp2_with fail
  refine (HM0.out _ _ _ h1 h2).mono ?_
  rintro e w5 ⟨A0, c0, rfl, ca0, x⟩
  replace hR := hR.ext x
  replace hP := hP.ext x
  replace kR := kR.ext x
  replace kP := kP.ext x
  replace h1 := h1.ext x
  replace h2 := h2.ext x
  replace X := ext_trans X x
  clear x
  clear h1 h2
  clear HM0
  go_wp2_with fail
  refine (three_any _).mono ?_
  rintro e w6 ⟨v3, rfl, h3, x⟩
  replace hR := hR.ext x
  replace hP := hP.ext x
  replace kR := kR.ext x
  replace kP := kP.ext x
  replace ca0 := ca0.ext x
  replace X := ext_trans X x
  clear x
  go_wp2_with fail
  refine (near_any _).mono ?_
  rintro e w7 ⟨v4, rfl, h4, x⟩
  replace hR := hR.ext x
  replace hP := hP.ext x
  replace kR := kR.ext x
  replace kP := kP.ext x
  replace ca0 := ca0.ext x
  replace h3 := h3.ext x
  replace X := ext_trans X x
  clear x
  replace h4 := h4.at_
  go_wp2_with fail
  refine (HC0.out _ _ _ _ _ h3 h4 ca0).mono ?_
  rintro e w8 ⟨rfl, x⟩
  replace hR := hR.ext x
  replace hP := hP.ext x
  replace kR := kR.ext x
  replace kP := kP.ext x
  replace ca0 := ca0.ext x
  replace h3 := h3.ext x
  replace h4 := h4.ext x
  replace X := ext_trans X x
  clear x
  clear h3 h4 ca0
  clear HC0
  obtain ⟨xa, kE⟩ := blks1 w8 #[.int .i64 0, .int .i64 0] 31
  replace hR := hR.ext xa
  replace hP := hP.ext xa
  replace kR := kR.ext xa
  replace kP := kP.ext xa
  replace X := ext_trans X xa
  clear xa
  go_wp2_with fail
  generalize (w8.alloc (.cells #[.int .i64 0, .int .i64 0] 31)) = w9 at *
  generalize w8.heap.size = BE at *
  refine (fine_ext (fine_any (some ⟨BE, 0, none⟩) 2 2 [0, 0] _ rfl (by omega) (blk_ints kE))).mono ?_
  rintro e w10 ⟨rfl, x⟩
  replace hR := hR.ext x
  replace hP := hP.ext x
  replace kR := kR.ext x
  replace kP := kP.ext x
  replace kE := kE.ext x
  replace X := ext_trans X x
  clear x
  rw [show allZero [0, 0] = true from rfl]
  clear kE
  go_wp2_with fail
  refine (bscored_any _).mono ?_
  rintro e w11 ⟨rfl, x⟩
  replace hR := hR.ext x
  replace hP := hP.ext x
  replace kR := kR.ext x
  replace kP := kP.ext x
  replace X := ext_trans X x
  clear x
  go_wp2_with fail
  refine (three_any _).mono ?_
  rintro e w12 ⟨v5, rfl, h5, x⟩
  replace hR := hR.ext x
  replace hP := hP.ext x
  replace kR := kR.ext x
  replace kP := kP.ext x
  replace X := ext_trans X x
  clear x
  go_wp2_with fail
  refine (near_any _).mono ?_
  rintro e w13 ⟨v6, rfl, h6, x⟩
  replace hR := hR.ext x
  replace hP := hP.ext x
  replace kR := kR.ext x
  replace kP := kP.ext x
  replace h5 := h5.ext x
  replace X := ext_trans X x
  clear x
  replace h6 := h6.at_
  go_wp2_with fail
  refine (HA.out _ _ _ h5 h6).mono ?_
  rintro e w14 ⟨rfl, x⟩
  replace hR := hR.ext x
  replace hP := hP.ext x
  replace kR := kR.ext x
  replace kP := kP.ext x
  replace h5 := h5.ext x
  replace h6 := h6.ext x
  replace X := ext_trans X x
  clear x
  clear h5 h6
  clear HA
  obtain ⟨xa, kX⟩ := blks1 w14 #[.int .i64 0, .int .i64 0, .int .i64 bb, .int .i64 ((1 : Nat) : Int)] 57
  replace hR := hR.ext xa
  replace hP := hP.ext xa
  replace kR := kR.ext xa
  replace kP := kP.ext xa
  replace X := ext_trans X xa
  clear xa
  go_upto_region 6 with fail
  generalize (w14.alloc (.cells #[.int .i64 0, .int .i64 0, .int .i64 bb, .int .i64 ((1 : Nat) : Int)] 57)) = w15 at *
  generalize w14.heap.size = BX at *
  have fX := kX.cell
  have fR := kR.cell
  have fP := kP.cell
  go_wp2_with fail
  refine (HHV.out _ _ _ hR hP).mono ?_
  rintro e w16 ⟨rfl, x⟩
  replace hR := hR.ext x
  replace hP := hP.ext x
  replace kR := kR.ext x
  replace kP := kP.ext x
  replace kX := kX.ext x
  replace X := ext_trans X x
  replace fX := kX.cell
  replace fR := kR.cell
  replace fP := kP.cell
  clear x
  clear HHV
  clear fX
  go_wp2_with fail
  refine (HS.out _ _ _ hR hP).mono ?_
  rintro e w17 ⟨rfl, x⟩
  replace hR := hR.ext x
  replace hP := hP.ext x
  replace kR := kR.ext x
  replace kP := kP.ext x
  replace kX := kX.ext x
  replace X := ext_trans X x
  replace fR := kR.cell
  replace fP := kP.cell
  clear x
  clear HS
  go_wp2_with fail
  refine (HMK.out _ _ _ hR hP).mono ?_
  rintro e w18 ⟨A5, c5, rfl, ca, x⟩
  replace hR := hR.ext x
  replace hP := hP.ext x
  replace kR := kR.ext x
  replace kP := kP.ext x
  replace kX := kX.ext x
  replace X := ext_trans X x
  replace fR := kR.cell
  replace fP := kP.cell
  clear x
  clear HMK
  go_wp2_with fail
  refine (HB1.out _ _ _ hR hP).mono ?_
  rintro e w19 ⟨rfl, x⟩
  replace hR := hR.ext x
  replace hP := hP.ext x
  replace kR := kR.ext x
  replace kP := kP.ext x
  replace kX := kX.ext x
  replace ca := ca.ext x
  replace X := ext_trans X x
  replace fR := kR.cell
  replace fP := kP.cell
  clear x
  clear HB1
  clear fR fP
  obtain ⟨xa, k9⟩ := blks1 w19 #[.int .i64 st1, .int .i64 a1, .int .i64 b1, .int .i64 c1] 57
  replace hR := hR.ext xa
  replace hP := hP.ext xa
  replace kR := kR.ext xa
  replace kP := kP.ext xa
  replace kX := kX.ext xa
  replace ca := ca.ext xa
  replace X := ext_trans X xa
  clear xa
  go_upto_region 13 with fail
  generalize (w19.alloc (.cells #[.int .i64 st1, .int .i64 a1, .int .i64 b1, .int .i64 c1] 57)) = w20 at *
  generalize w19.heap.size = B9 at *
  have f9 := k9.cell
  have fR := kR.cell
  have fP := kP.cell
  go_wp2_with fail
  refine (HCK.out _ _ _ _ _ hR hP ca).mono ?_
  rintro e w21 ⟨rfl, x⟩
  replace hR := hR.ext x
  replace hP := hP.ext x
  replace kR := kR.ext x
  replace kP := kP.ext x
  replace kX := kX.ext x
  replace ca := ca.ext x
  replace k9 := k9.ext x
  replace X := ext_trans X x
  replace f9 := k9.cell
  replace fR := kR.cell
  replace fP := kP.cell
  clear x
  clear fR fP f9
  clear HCK
  clear ca
  go_wp2
  all_goals go_ret
  all_goals exact ⟨by first | rfl | simp, X⟩
theorem topProved_law (v : Value) (R : RulesM) (u : Value) (P : PosM) (D b : Int) (w : World) (hR : RulesAt w v R) (hP : PosAt w u P) :
    Calls Try.prog 4 #[v, u, .int .i64 D, .int .i64 b] w fun e w' => e = .returned (.bool true) ∧ Ext w w' := by
  obtain ⟨K, hK⟩ : ∃ K, (wrap64 (b.tmod 50 + 50)).tmod 50 = K := ⟨_, rfl⟩
  obtain ⟨k0, k1⟩ := some_mod 50 (by omega) (by omega) b K hK
  cases hh : bheavyB R P D
  · by_cases hp : perftE R P D = 0
    · have hc : checkE R P = 0 := check_iff.2 ⟨(perft_zero hp).1, (perft_zero hp).2.1⟩
      have he : provE R P K = 0 := provE_ok hc k0 (by omega)
      obtain ⟨f1, f2⟩ := right_facts he hp
      rw [show scoreM R P D = ofM R D.toNat P from if_pos hp] at f1 f2
      by_cases h0 : makeE R P D = 0
      · exact topProved_yes R P v u D b w hR hP K hK k0 k1 hh h0 he (f1 (makeE_zero h0).2.2.1)
      · by_cases hz : ofM R D.toNat P = 0
        · exact topProved_zero R P v u D b w hR hP K hK k0 k1 hh h0 hp he hz
        · by_cases hs : ofM R D.toNat P < 0
          · exact topProved_neg R P v u D b w hR hP K hK k0 k1 hh h0 hp he hs (by have := f2 hs; omega)
          · by_cases hr : resultM R P = 0
            · by_cases hl : 5000 < (certM R D.toNat 0 P).length
              · exact topProved_large R P v u D b w hR hP K hK k0 k1 hh h0 hp he (by omega) (makeE_large hp hr (by omega) hl) (f1 (by omega))
              · exact absurd (makeE_ok hp hr (by omega) (by omega)) h0
            · have e := of_over hr D.toNat
              have h1000 : ofM R D.toNat P = 1000 := by
                unfold overM at e
                split at e
                · exact e
                · split at e <;> omega
              exact topProved_over R P v u D b w hR hP K hK k0 k1 hh h0 hp he h1000 (makeE_over hp hr) (f1 (by omega))
    · have h0 : makeE R P D ≠ 0 := by rw [makeE_bad hp]; exact hp
      by_cases he : provE R P K = 0
      · exact topProved_bad2 R P v u D b w hR hP K hK k0 k1 hh h0 hp he
      · exact topProved_bad1 R P v u D b w hR hP K hK k0 k1 hh h0 hp he
  · exact topProved_heavy R P v u D b w hR hP K hK k0 k1 hh

end Go.Proofs.Ytnaggpibfmednaa
