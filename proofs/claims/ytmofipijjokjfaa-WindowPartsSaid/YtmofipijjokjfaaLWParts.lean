/- Walk: the law WindowParts. -/
import Derived.Test.YtmofipijjokjfaaScored
import Derived.Test.YtmofipijjokjfaaWindow
import Derived.Test.YtmofipijjokjfaaWinP
namespace Go.Proofs.Ytmofipijjokjfaa
open Go.ChangeShapes Go.WideShapes Go.ChangeAt Go.RowKit Go.Shelf
set_option linter.unusedVariables false
set_option linter.unusedSimpArgs false
set_option maxHeartbeats 4000000 in
set_option maxRecDepth 100000 in
theorem windowParts_h1 (R : RulesM) (P : PosM) (v u : Value) (D a : Int) (w : World) (hR : RulesAt w v R) (hP : PosAt w u P) (K : Int) (hK : (wrap64 (a.tmod 999 + 999)).tmod 999 - 499 = K) (k0 : -499 ≤ K) (k1 : K < 500) (hh : heavyB R P D = true) :
    Calls Try.prog 6 #[v, u, .int .i64 D, .int .i64 a] w fun e w' => e = .returned (.bool true) ∧ Ext w w' := by
  have HHV := hide (fun W (v1 v2 : Value) (h1 : RulesAt W v1 R) (h2 : PosAt W v2 P) => heavy_any R P v1 v2 D W h1 h2)
  rw [hh] at HHV
  clear hh
  have HW := hide (fun W (v1 v2 : Value) (h1 : RulesAt W v1 threeR) (h2 : PosAt W v2 nearP) => WScore_any threeR nearP v1 v2 2 0 1 W h1 h2)
  rw [near_win.1, near_win.2.1, near_win.2.2] at HW
  have hkw : IntKind.i64.wrap ((wrap64 (a.tmod 999 + 999)).tmod 999 - 499) = K := by rw [hK, IntKind.wrap_i64]; omega
  have hR0 := hR
  have hP0 := hP
  obtain ⟨pA, pc, sA, sc, eA, ec, rfl, -⟩ := hR0
  obtain ⟨cA, cc, aA, ac, bA, bc, rfl, -⟩ := hP0
  go_enter Try.func6, Try.ntmps6
  go_wp2_with fail
  obtain ⟨xa, kR, kP⟩ := blks2 w #[.string R.name, .int .i64 R.width, .int .i64 R.height, .slice pA R.pieces.length pc, .slice sA R.start.length sc, .bool R.falls, .bool R.keeps, .slice eA R.ends.length ec, .int .i64 R.blocked, .int .i64 R.quiet, .int .i64 R.rept] 26 #[.slice cA P.cells.length cc, .slice aA P.hand0.length ac, .slice bA P.hand1.length bc, .int .i64 P.turn, .int .i64 P.quiet] 29
  replace hR := hR.ext xa
  replace hP := hP.ext xa
  have X := xa
  clear xa
  generalize ((w.alloc (.cells #[.string R.name, .int .i64 R.width, .int .i64 R.height, .slice pA R.pieces.length pc, .slice sA R.start.length sc, .bool R.falls, .bool R.keeps, .slice eA R.ends.length ec, .int .i64 R.blocked, .int .i64 R.quiet, .int .i64 R.rept] 26)).alloc (.cells #[.slice cA P.cells.length cc, .slice aA P.hand0.length ac, .slice bA P.hand1.length bc, .int .i64 P.turn, .int .i64 P.quiet] 29)) = w2 at *
  generalize w.heap.size + 1 = BP at *
  generalize w.heap.size = BR at *
  refine (three_any _).mono ?_
  rintro e w3 ⟨v1, rfl, h1, x⟩
  replace hR := hR.ext x
  replace hP := hP.ext x
  replace kR := kR.ext x
  replace kP := kP.ext x
  replace X := ext_trans X x
  clear x
  go_wp2_with fail
  refine (near_any _).mono ?_
  rintro e w4 ⟨v2, rfl, h2, x⟩
  replace hR := hR.ext x
  replace hP := hP.ext x
  replace kR := kR.ext x
  replace kP := kP.ext x
  replace h1 := h1.ext x
  replace X := ext_trans X x
  clear x
  replace h2 := h2.at_
  go_wp2_with fail
  refine (HW.out _ _ _ h1 h2).mono ?_
  rintro e w5 ⟨rfl, x⟩
  replace hR := hR.ext x
  replace hP := hP.ext x
  replace kR := kR.ext x
  replace kP := kP.ext x
  replace h1 := h1.ext x
  replace h2 := h2.ext x
  replace X := ext_trans X x
  clear x
  clear h1 h2
  clear HW
  go_wp2_with fail
  refine (scored_any _).mono ?_
  rintro e w6 ⟨rfl, x⟩
  replace hR := hR.ext x
  replace hP := hP.ext x
  replace kR := kR.ext x
  replace kP := kP.ext x
  replace X := ext_trans X x
  clear x
  have fR := kR.cell
  have fP := kP.cell
  go_wp2_with fail
  refine (HHV.out _ _ _ hR hP).mono ?_
  rintro e w7 ⟨rfl, x⟩
  replace hR := hR.ext x
  replace hP := hP.ext x
  replace kR := kR.ext x
  replace kP := kP.ext x
  replace X := ext_trans X x
  replace fR := kR.cell
  replace fP := kP.cell
  clear x
  clear HHV
  clear fR fP
  go_wp2
  all_goals go_ret
  all_goals exact ⟨by first | rfl | simp, X⟩
set_option maxHeartbeats 4000000 in
set_option maxRecDepth 100000 in
theorem windowParts_bad (R : RulesM) (P : PosM) (v u : Value) (D a : Int) (w : World) (hR : RulesAt w v R) (hP : PosAt w u P) (K : Int) (hK : (wrap64 (a.tmod 999 + 999)).tmod 999 - 499 = K) (k0 : -499 ≤ K) (k1 : K < 500) (hh : heavyB R P D = false) (he : perftE R P D ≠ 0) :
    Calls Try.prog 6 #[v, u, .int .i64 D, .int .i64 a] w fun e w' => e = .returned (.bool true) ∧ Ext w w' := by
  have HHV := hide (fun W (v1 v2 : Value) (h1 : RulesAt W v1 R) (h2 : PosAt W v2 P) => heavy_any R P v1 v2 D W h1 h2)
  rw [hh] at HHV
  clear hh
  have HW := hide (fun W (v1 v2 : Value) (h1 : RulesAt W v1 threeR) (h2 : PosAt W v2 nearP) => WScore_any threeR nearP v1 v2 2 0 1 W h1 h2)
  rw [near_win.1, near_win.2.1, near_win.2.2] at HW
  have hkw : IntKind.i64.wrap ((wrap64 (a.tmod 999 + 999)).tmod 999 - 499) = K := by rw [hK, IntKind.wrap_i64]; omega
  have HS := hide (fun W (v1 v2 : Value) (h1 : RulesAt W v1 R) (h2 : PosAt W v2 P) => MScore_any R P v1 v2 D W h1 h2)
  have HA := hide (fun W (v1 v2 : Value) (h1 : RulesAt W v1 R) (h2 : PosAt W v2 P) => WScore_any R P v1 v2 D (-1000) K W h1 h2)
  have HB := hide (fun W (v1 v2 : Value) (h1 : RulesAt W v1 R) (h2 : PosAt W v2 P) => WScore_any R P v1 v2 D K 1000 W h1 h2)
  have HC := hide (fun W (v1 v2 : Value) (h1 : RulesAt W v1 R) (h2 : PosAt W v2 P) => WScore_any R P v1 v2 D (-1000) 1000 W h1 h2)
  rw [show scoreM R P D = 0 from if_neg he] at HS
  rw [(win_one he).1, (win_one he).2.1, (win_one he).2.2] at HA
  rw [(win_one he).1, (win_one he).2.1, (win_one he).2.2] at HB
  rw [(win_one he).1, (win_one he).2.1, (win_one he).2.2] at HC
  have t0 : (perftE R P D != 0) = true := by simpa using he
  clear he
  generalize perftE R P D = E at *
  have hR0 := hR
  have hP0 := hP
  obtain ⟨pA, pc, sA, sc, eA, ec, rfl, -⟩ := hR0
  obtain ⟨cA, cc, aA, ac, bA, bc, rfl, -⟩ := hP0
  go_enter Try.func6, Try.ntmps6
  go_wp2_with fail
  obtain ⟨xa, kR, kP⟩ := blks2 w #[.string R.name, .int .i64 R.width, .int .i64 R.height, .slice pA R.pieces.length pc, .slice sA R.start.length sc, .bool R.falls, .bool R.keeps, .slice eA R.ends.length ec, .int .i64 R.blocked, .int .i64 R.quiet, .int .i64 R.rept] 26 #[.slice cA P.cells.length cc, .slice aA P.hand0.length ac, .slice bA P.hand1.length bc, .int .i64 P.turn, .int .i64 P.quiet] 29
  replace hR := hR.ext xa
  replace hP := hP.ext xa
  have X := xa
  clear xa
  generalize ((w.alloc (.cells #[.string R.name, .int .i64 R.width, .int .i64 R.height, .slice pA R.pieces.length pc, .slice sA R.start.length sc, .bool R.falls, .bool R.keeps, .slice eA R.ends.length ec, .int .i64 R.blocked, .int .i64 R.quiet, .int .i64 R.rept] 26)).alloc (.cells #[.slice cA P.cells.length cc, .slice aA P.hand0.length ac, .slice bA P.hand1.length bc, .int .i64 P.turn, .int .i64 P.quiet] 29)) = w2 at *
  generalize w.heap.size + 1 = BP at *
  generalize w.heap.size = BR at *
  refine (three_any _).mono ?_
  rintro e w3 ⟨v1, rfl, h1, x⟩
  replace hR := hR.ext x
  replace hP := hP.ext x
  replace kR := kR.ext x
  replace kP := kP.ext x
  replace X := ext_trans X x
  clear x
  go_wp2_with fail
  refine (near_any _).mono ?_
  rintro e w4 ⟨v2, rfl, h2, x⟩
  replace hR := hR.ext x
  replace hP := hP.ext x
  replace kR := kR.ext x
  replace kP := kP.ext x
  replace h1 := h1.ext x
  replace X := ext_trans X x
  clear x
  replace h2 := h2.at_
  go_wp2_with fail
  refine (HW.out _ _ _ h1 h2).mono ?_
  rintro e w5 ⟨rfl, x⟩
  replace hR := hR.ext x
  replace hP := hP.ext x
  replace kR := kR.ext x
  replace kP := kP.ext x
  replace h1 := h1.ext x
  replace h2 := h2.ext x
  replace X := ext_trans X x
  clear x
  clear h1 h2
  clear HW
  go_wp2_with fail
  refine (scored_any _).mono ?_
  rintro e w6 ⟨rfl, x⟩
  replace hR := hR.ext x
  replace hP := hP.ext x
  replace kR := kR.ext x
  replace kP := kP.ext x
  replace X := ext_trans X x
  clear x
  have fR := kR.cell
  have fP := kP.cell
  go_wp2_with fail
  refine (HHV.out _ _ _ hR hP).mono ?_
  rintro e w7 ⟨rfl, x⟩
  replace hR := hR.ext x
  replace hP := hP.ext x
  replace kR := kR.ext x
  replace kP := kP.ext x
  replace X := ext_trans X x
  replace fR := kR.cell
  replace fP := kP.cell
  clear x
  clear HHV
  go_wp2_with fail
  refine (HS.out _ _ _ hR hP).mono ?_
  rintro e w8 ⟨rfl, x⟩
  replace hR := hR.ext x
  replace hP := hP.ext x
  replace kR := kR.ext x
  replace kP := kP.ext x
  replace X := ext_trans X x
  replace fR := kR.cell
  replace fP := kP.cell
  clear x
  go_wp2_with fail
  refine (HA.out _ _ _ hR hP).mono ?_
  rintro e w9 ⟨rfl, x⟩
  replace hR := hR.ext x
  replace hP := hP.ext x
  replace kR := kR.ext x
  replace kP := kP.ext x
  replace X := ext_trans X x
  replace fR := kR.cell
  replace fP := kP.cell
  clear x
  go_wp2_with fail
  refine (HB.out _ _ _ hR hP).mono ?_
  rintro e w10 ⟨rfl, x⟩
  replace hR := hR.ext x
  replace hP := hP.ext x
  replace kR := kR.ext x
  replace kP := kP.ext x
  replace X := ext_trans X x
  replace fR := kR.cell
  replace fP := kP.cell
  clear x
  go_wp2_with fail
  refine (HC.out _ _ _ hR hP).mono ?_
  rintro e w11 ⟨rfl, x⟩
  replace hR := hR.ext x
  replace hP := hP.ext x
  replace kR := kR.ext x
  replace kP := kP.ext x
  replace X := ext_trans X x
  replace fR := kR.cell
  replace fP := kP.cell
  clear x
  clear fR fP
  go_wp2
  all_goals go_ret
  all_goals exact ⟨by first | rfl | simp, X⟩
set_option maxHeartbeats 4000000 in
set_option maxRecDepth 100000 in
theorem windowParts_ok (R : RulesM) (P : PosM) (v u : Value) (D a : Int) (w : World) (hR : RulesAt w v R) (hP : PosAt w u P) (K : Int) (hK : (wrap64 (a.tmod 999 + 999)).tmod 999 - 499 = K) (k0 : -499 ≤ K) (k1 : K < 500) (hh : heavyB R P D = false) (he : perftE R P D = 0) :
    Calls Try.prog 6 #[v, u, .int .i64 D, .int .i64 a] w fun e w' => e = .returned (.bool true) ∧ Ext w w' := by
  have HHV := hide (fun W (v1 v2 : Value) (h1 : RulesAt W v1 R) (h2 : PosAt W v2 P) => heavy_any R P v1 v2 D W h1 h2)
  rw [hh] at HHV
  clear hh
  have HW := hide (fun W (v1 v2 : Value) (h1 : RulesAt W v1 threeR) (h2 : PosAt W v2 nearP) => WScore_any threeR nearP v1 v2 2 0 1 W h1 h2)
  rw [near_win.1, near_win.2.1, near_win.2.2] at HW
  have hkw : IntKind.i64.wrap ((wrap64 (a.tmod 999 + 999)).tmod 999 - 499) = K := by rw [hK, IntKind.wrap_i64]; omega
  have n1 : ¬ winB (-1000) K := by unfold winB; omega
  have n2 : ¬ winB K 1000 := by unfold winB; omega
  have n3 : ¬ winB (-1000) 1000 := by unfold winB; omega
  obtain ⟨hV, hS, d0, d1, -⟩ := perft_zero he
  have hb := of_bound R D.toNat P hS.turn (by omega)
  have HS := hide (fun W (v1 v2 : Value) (h1 : RulesAt W v1 R) (h2 : PosAt W v2 P) => MScore_any R P v1 v2 D W h1 h2)
  have HA := hide (fun W (v1 v2 : Value) (h1 : RulesAt W v1 R) (h2 : PosAt W v2 P) => WScore_any R P v1 v2 D (-1000) K W h1 h2)
  have HB := hide (fun W (v1 v2 : Value) (h1 : RulesAt W v1 R) (h2 : PosAt W v2 P) => WScore_any R P v1 v2 D K 1000 W h1 h2)
  have HC := hide (fun W (v1 v2 : Value) (h1 : RulesAt W v1 R) (h2 : PosAt W v2 P) => WScore_any R P v1 v2 D (-1000) 1000 W h1 h2)
  rw [show scoreM R P D = ofM R D.toNat P from if_pos he, he] at HS
  rw [(win_three he n1).1, (win_three he n1).2.1, (win_three he n1).2.2] at HA
  rw [(win_three he n2).1, (win_three he n2).2.1, (win_three he n2).2.2] at HB
  rw [(win_three he n3).1, (win_three he n3).2.1, (win_three he n3).2.2] at HC
  generalize ofM R D.toNat P = z at *
  have hz : -1000 ≤ z ∧ z ≤ 1000 := by unfold boundB at hb; omega
  obtain ⟨q1, hq1⟩ : ∃ q, min z K = q := ⟨_, rfl⟩
  obtain ⟨q2, hq2⟩ : ∃ q, max z K = q := ⟨_, rfl⟩
  rw [show max (-1000) (min K z) = q1 by omega] at HA
  rw [show max K (min 1000 z) = q2 by omega] at HB
  rw [show max (-1000) (min 1000 z) = z by omega] at HC
  have hmin : ∀ W ats ty, (Builtin.min_ ats ty #[.int .i64 z, .int .i64 K]).run Try.prog W = .ok (.int .i64 q1) W := fun W ats ty => by rw [← hq1]; exact run_min2' W ats ty z K
  have hmax : ∀ W ats ty, (Builtin.max_ ats ty #[.int .i64 z, .int .i64 K]).run Try.prog W = .ok (.int .i64 q2) W := fun W ats ty => by rw [← hq2]; exact run_max2' W ats ty z K
  clear he n1 n2 n3 hV hS d0 d1 hb hz hq1 hq2
  generalize perftN R P D = N at *
  have hR0 := hR
  have hP0 := hP
  obtain ⟨pA, pc, sA, sc, eA, ec, rfl, -⟩ := hR0
  obtain ⟨cA, cc, aA, ac, bA, bc, rfl, -⟩ := hP0
  go_enter Try.func6, Try.ntmps6
  go_wp2_with fail
  obtain ⟨xa, kR, kP⟩ := blks2 w #[.string R.name, .int .i64 R.width, .int .i64 R.height, .slice pA R.pieces.length pc, .slice sA R.start.length sc, .bool R.falls, .bool R.keeps, .slice eA R.ends.length ec, .int .i64 R.blocked, .int .i64 R.quiet, .int .i64 R.rept] 26 #[.slice cA P.cells.length cc, .slice aA P.hand0.length ac, .slice bA P.hand1.length bc, .int .i64 P.turn, .int .i64 P.quiet] 29
  replace hR := hR.ext xa
  replace hP := hP.ext xa
  have X := xa
  clear xa
  generalize ((w.alloc (.cells #[.string R.name, .int .i64 R.width, .int .i64 R.height, .slice pA R.pieces.length pc, .slice sA R.start.length sc, .bool R.falls, .bool R.keeps, .slice eA R.ends.length ec, .int .i64 R.blocked, .int .i64 R.quiet, .int .i64 R.rept] 26)).alloc (.cells #[.slice cA P.cells.length cc, .slice aA P.hand0.length ac, .slice bA P.hand1.length bc, .int .i64 P.turn, .int .i64 P.quiet] 29)) = w2 at *
  generalize w.heap.size + 1 = BP at *
  generalize w.heap.size = BR at *
  refine (three_any _).mono ?_
  rintro e w3 ⟨v1, rfl, h1, x⟩
  replace hR := hR.ext x
  replace hP := hP.ext x
  replace kR := kR.ext x
  replace kP := kP.ext x
  replace X := ext_trans X x
  clear x
  go_wp2_with fail
  refine (near_any _).mono ?_
  rintro e w4 ⟨v2, rfl, h2, x⟩
  replace hR := hR.ext x
  replace hP := hP.ext x
  replace kR := kR.ext x
  replace kP := kP.ext x
  replace h1 := h1.ext x
  replace X := ext_trans X x
  clear x
  replace h2 := h2.at_
  go_wp2_with fail
  refine (HW.out _ _ _ h1 h2).mono ?_
  rintro e w5 ⟨rfl, x⟩
  replace hR := hR.ext x
  replace hP := hP.ext x
  replace kR := kR.ext x
  replace kP := kP.ext x
  replace h1 := h1.ext x
  replace h2 := h2.ext x
  replace X := ext_trans X x
  clear x
  clear h1 h2
  clear HW
  go_wp2_with fail
  refine (scored_any _).mono ?_
  rintro e w6 ⟨rfl, x⟩
  replace hR := hR.ext x
  replace hP := hP.ext x
  replace kR := kR.ext x
  replace kP := kP.ext x
  replace X := ext_trans X x
  clear x
  have fR := kR.cell
  have fP := kP.cell
  go_wp2_with fail
  refine (HHV.out _ _ _ hR hP).mono ?_
  rintro e w7 ⟨rfl, x⟩
  replace hR := hR.ext x
  replace hP := hP.ext x
  replace kR := kR.ext x
  replace kP := kP.ext x
  replace X := ext_trans X x
  replace fR := kR.cell
  replace fP := kP.cell
  clear x
  clear HHV
  go_wp2_with fail
  refine (HS.out _ _ _ hR hP).mono ?_
  rintro e w8 ⟨rfl, x⟩
  replace hR := hR.ext x
  replace hP := hP.ext x
  replace kR := kR.ext x
  replace kP := kP.ext x
  replace X := ext_trans X x
  replace fR := kR.cell
  replace fP := kP.cell
  clear x
  go_wp2_with fail
  refine (HA.out _ _ _ hR hP).mono ?_
  rintro e w9 ⟨rfl, x⟩
  replace hR := hR.ext x
  replace hP := hP.ext x
  replace kR := kR.ext x
  replace kP := kP.ext x
  replace X := ext_trans X x
  replace fR := kR.cell
  replace fP := kP.cell
  clear x
  go_wp2_with fail
  refine (HB.out _ _ _ hR hP).mono ?_
  rintro e w10 ⟨rfl, x⟩
  replace hR := hR.ext x
  replace hP := hP.ext x
  replace kR := kR.ext x
  replace kP := kP.ext x
  replace X := ext_trans X x
  replace fR := kR.cell
  replace fP := kP.cell
  clear x
  go_wp2_with fail
  refine (HC.out _ _ _ hR hP).mono ?_
  rintro e w11 ⟨rfl, x⟩
  replace hR := hR.ext x
  replace hP := hP.ext x
  replace kR := kR.ext x
  replace kP := kP.ext x
  replace X := ext_trans X x
  replace fR := kR.cell
  replace fP := kP.cell
  clear x
  clear fR fP
  obtain ⟨xa, kE⟩ := blks1 w11 #[.int .i64 0, .int .i64 0, .int .i64 0] 32
  replace hR := hR.ext xa
  replace hP := hP.ext xa
  replace kR := kR.ext xa
  replace kP := kP.ext xa
  replace X := ext_trans X xa
  clear xa
  go_wp2_with fail
  generalize (w11.alloc (.cells #[.int .i64 0, .int .i64 0, .int .i64 0] 32)) = w12 at *
  generalize w11.heap.size = BE at *
  refine (fine_ext (fine_any (some ⟨BE, 0, none⟩) 3 3 [0, 0, 0] _ rfl (by omega) (blk_ints kE))).mono ?_
  rintro e w13 ⟨rfl, x⟩
  replace hR := hR.ext x
  replace hP := hP.ext x
  replace kR := kR.ext x
  replace kP := kP.ext x
  replace kE := kE.ext x
  replace X := ext_trans X x
  clear x
  rw [show allZero [0, 0, 0] = true from rfl]
  clear kE
  go_wp2
  all_goals go_ret
  all_goals exact ⟨by first | rfl | simp, X⟩
theorem windowParts_law (v : Value) (R : RulesM) (u : Value) (P : PosM) (D a : Int) (w : World) (hR : RulesAt w v R) (hP : PosAt w u P) :
    Calls Try.prog 6 #[v, u, .int .i64 D, .int .i64 a] w fun e w' => e = .returned (.bool true) ∧ Ext w w' := by
  obtain ⟨K0, hK0⟩ : ∃ K, (wrap64 (a.tmod 999 + 999)).tmod 999 = K := ⟨_, rfl⟩
  have hb := some_mod a 999 K0 (by omega) (by omega) hK0
  have hK : (wrap64 (a.tmod 999 + 999)).tmod 999 - 499 = K0 - 499 := by rw [hK0]
  cases hh : heavyB R P D
  · by_cases he : perftE R P D = 0
    · exact windowParts_ok R P v u D a w hR hP _ hK (by omega) (by omega) hh he
    · exact windowParts_bad R P v u D a w hR hP _ hK (by omega) (by omega) hh he
  · exact windowParts_h1 R P v u D a w hR hP _ hK (by omega) (by omega) hh

end Go.Proofs.Ytmofipijjokjfaa
