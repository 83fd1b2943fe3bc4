/- Walk: the law ProofnumFirst. -/
import Derived.Test.YteadldpoibpikaaLBudget
import Derived.Test.YteadldpoibpikaaGPlays
import Derived.Test.YteadldpoibpikaaGAfter
import Derived.Test.YteadldpoibpikaaGPerft
namespace Go.Proofs.Yteadldpoibpikaa
open Go.ChangeShapes Go.WideShapes Go.ChangeAt Go.RowKit Go.Shelf
set_option linter.unusedVariables false
set_option linter.unusedSimpArgs false
set_option maxHeartbeats 4000000 in
set_option maxRecDepth 100000 in
theorem proofnumFirst_no (R : RulesM) (P : PosM) (v u : Value) (a D : Int) (w : World) (hR : RulesAt w v R) (hP : PosAt w u P) (K : Int) (hK : (wrap64 (a.tmod 60 + 60)).tmod 60 = K) (k0 : 0 ≤ K) (k1 : K < 60) (he : provE R P K ≠ 0) :
    Calls Try.prog 5 #[v, u, .int .i64 a, .int .i64 D] w fun e w' => e = .returned (.bool true) ∧ Ext w w' := by
  have HF := hide (fun W (v1 v2 : Value) (h1 : RulesAt W v1 R) (h2 : PosAt W v2 P) => PFirst_no R P v1 v2 K W h1 h2 he)
  have t0 : (provE R P K != 0) = true := by simpa using he
  clear he
  generalize provE R P K = E at *
  have hR0 := hR
  have hP0 := hP
  obtain ⟨pA, pc, sA, sc, eA, ec, rfl, -⟩ := hR0
  obtain ⟨cA, cc, aA, ac, bA, bc, rfl, -⟩ := hP0
  go_enter Try.func5, Try.ntmps5
  go_wp2_with fail
  obtain ⟨xa, kR, kP⟩ := blks2 w #[.string R.name, .int .i64 R.width, .int .i64 R.height, .slice pA R.pieces.length pc, .slice sA R.start.length sc, .bool R.falls, .bool R.keeps, .slice eA R.ends.length ec, .int .i64 R.blocked, .int .i64 R.quiet, .int .i64 R.rept] 26 #[.slice cA P.cells.length cc, .slice aA P.hand0.length ac, .slice bA P.hand1.length bc, .int .i64 P.turn, .int .i64 P.quiet] 29
  replace hR := hR.ext xa
  replace hP := hP.ext xa
  have X := xa
  clear xa
  generalize ((w.alloc (.cells #[.string R.name, .int .i64 R.width, .int .i64 R.height, .slice pA R.pieces.length pc, .slice sA R.start.length sc, .bool R.falls, .bool R.keeps, .slice eA R.ends.length ec, .int .i64 R.blocked, .int .i64 R.quiet, .int .i64 R.rept] 26)).alloc (.cells #[.slice cA P.cells.length cc, .slice aA P.hand0.length ac, .slice bA P.hand1.length bc, .int .i64 P.turn, .int .i64 P.quiet] 29)) = w2 at *
  generalize w.heap.size + 1 = BP at *
  generalize w.heap.size = BR at *
  refine (attacked_any _).mono ?_
  rintro e w3 ⟨rfl, x⟩
  replace hR := hR.ext x
  replace hP := hP.ext x
  replace kR := kR.ext x
  replace kP := kP.ext x
  replace X := ext_trans X x
  clear x
  go_wp2_with fail
  refine (scored_any _).mono ?_
  rintro e w4 ⟨rfl, x⟩
  replace hR := hR.ext x
  replace hP := hP.ext x
  replace kR := kR.ext x
  replace kP := kP.ext x
  replace X := ext_trans X x
  clear x
  go_wp2_with fail
  refine (plays_any _).mono ?_
  rintro e w5 ⟨rfl, x⟩
  replace hR := hR.ext x
  replace hP := hP.ext x
  replace kR := kR.ext x
  replace kP := kP.ext x
  replace X := ext_trans X x
  clear x
  have fR := kR.cell
  have fP := kP.cell
  go_wp2_with fail
  refine (HF.out _ _ _ hR hP).mono ?_
  rintro e w6 ⟨rfl, x⟩
  replace hR := hR.ext x
  replace hP := hP.ext x
  replace kR := kR.ext x
  replace kP := kP.ext x
  replace X := ext_trans X x
  replace fR := kR.cell
  replace fP := kP.cell
  clear x
  clear fR fP
  obtain ⟨xa, k9⟩ := blks1 w6 #[.int .i64 0, .int .i64 0, .int .i64 0] 42
  replace hR := hR.ext xa
  replace hP := hP.ext xa
  replace kR := kR.ext xa
  replace kP := kP.ext xa
  replace X := ext_trans X xa
  clear xa
  go_upto_region 5 with fail
  generalize (w6.alloc (.cells #[.int .i64 0, .int .i64 0, .int .i64 0] 42)) = w7 at *
  generalize w6.heap.size = B9 at *
  have f9 := k9.cell
  go_wp2
  all_goals go_ret
  all_goals exact ⟨by first | rfl | simp, X⟩
set_option maxHeartbeats 4000000 in
set_option maxRecDepth 100000 in
theorem proofnumFirst_none (R : RulesM) (P : PosM) (v u : Value) (a D : Int) (w : World) (hR : RulesAt w v R) (hP : PosAt w u P) (K : Int) (hK : (wrap64 (a.tmod 60 + 60)).tmod 60 = K) (k0 : 0 ≤ K) (k1 : K < 60) (he : provE R P K = 0) (hm : firstP R P K = none) :
    Calls Try.prog 5 #[v, u, .int .i64 a, .int .i64 D] w fun e w' => e = .returned (.bool true) ∧ Ext w w' := by
  have HF := hide (fun W (v1 v2 : Value) (h1 : RulesAt W v1 R) (h2 : PosAt W v2 P) => PFirst_none R P v1 v2 K W h1 h2 he hm)
  clear he hm
  have hR0 := hR
  have hP0 := hP
  obtain ⟨pA, pc, sA, sc, eA, ec, rfl, -⟩ := hR0
  obtain ⟨cA, cc, aA, ac, bA, bc, rfl, -⟩ := hP0
  go_enter Try.func5, Try.ntmps5
  go_wp2_with fail
  obtain ⟨xa, kR, kP⟩ := blks2 w #[.string R.name, .int .i64 R.width, .int .i64 R.height, .slice pA R.pieces.length pc, .slice sA R.start.length sc, .bool R.falls, .bool R.keeps, .slice eA R.ends.length ec, .int .i64 R.blocked, .int .i64 R.quiet, .int .i64 R.rept] 26 #[.slice cA P.cells.length cc, .slice aA P.hand0.length ac, .slice bA P.hand1.length bc, .int .i64 P.turn, .int .i64 P.quiet] 29
  replace hR := hR.ext xa
  replace hP := hP.ext xa
  have X := xa
  clear xa
  generalize ((w.alloc (.cells #[.string R.name, .int .i64 R.width, .int .i64 R.height, .slice pA R.pieces.length pc, .slice sA R.start.length sc, .bool R.falls, .bool R.keeps, .slice eA R.ends.length ec, .int .i64 R.blocked, .int .i64 R.quiet, .int .i64 R.rept] 26)).alloc (.cells #[.slice cA P.cells.length cc, .slice aA P.hand0.length ac, .slice bA P.hand1.length bc, .int .i64 P.turn, .int .i64 P.quiet] 29)) = w2 at *
  generalize w.heap.size + 1 = BP at *
  generalize w.heap.size = BR at *
  refine (attacked_any _).mono ?_
  rintro e w3 ⟨rfl, x⟩
  replace hR := hR.ext x
  replace hP := hP.ext x
  replace kR := kR.ext x
  replace kP := kP.ext x
  replace X := ext_trans X x
  clear x
  go_wp2_with fail
  refine (scored_any _).mono ?_
  rintro e w4 ⟨rfl, x⟩
  replace hR := hR.ext x
  replace hP := hP.ext x
  replace kR := kR.ext x
  replace kP := kP.ext x
  replace X := ext_trans X x
  clear x
  go_wp2_with fail
  refine (plays_any _).mono ?_
  rintro e w5 ⟨rfl, x⟩
  replace hR := hR.ext x
  replace hP := hP.ext x
  replace kR := kR.ext x
  replace kP := kP.ext x
  replace X := ext_trans X x
  clear x
  have fR := kR.cell
  have fP := kP.cell
  go_wp2_with fail
  refine (HF.out _ _ _ hR hP).mono ?_
  rintro e w6 ⟨rfl, x⟩
  replace hR := hR.ext x
  replace hP := hP.ext x
  replace kR := kR.ext x
  replace kP := kP.ext x
  replace X := ext_trans X x
  replace fR := kR.cell
  replace fP := kP.cell
  clear x
  clear fR fP
  obtain ⟨xa, k9⟩ := blks1 w6 #[.int .i64 0, .int .i64 0, .int .i64 0] 42
  replace hR := hR.ext xa
  replace hP := hP.ext xa
  replace kR := kR.ext xa
  replace kP := kP.ext xa
  replace X := ext_trans X xa
  clear xa
  go_upto_region 5 with fail
  generalize (w6.alloc (.cells #[.int .i64 0, .int .i64 0, .int .i64 0] 42)) = w7 at *
  generalize w6.heap.size = B9 at *
  have f9 := k9.cell
  go_wp2
  all_goals go_ret
  all_goals exact ⟨by first | rfl | simp, X⟩
set_option maxHeartbeats 4000000 in
set_option maxRecDepth 100000 in
theorem proofnumFirst_h1 (R : RulesM) (P : PosM) (v u : Value) (a D : Int) (w : World) (hR : RulesAt w v R) (hP : PosAt w u P) (K : Int) (hK : (wrap64 (a.tmod 60 + 60)).tmod 60 = K) (k0 : 0 ≤ K) (k1 : K < 60) (he : provE R P K = 0) (m : MoveM) (hm : firstP R P K = some m) (hV : Valid R) (hS : Sound R P) (hml : m ∈ listM R P) (hh : heavyB R (makeM R P m) D = true) :
    Calls Try.prog 5 #[v, u, .int .i64 a, .int .i64 D] w fun e w' => e = .returned (.bool true) ∧ Ext w w' := by
  have HF := hide (fun W (v1 v2 : Value) (h1 : RulesAt W v1 R) (h2 : PosAt W v2 P) => PFirst_some R P v1 v2 K W h1 h2 he hm)
  have HA := hide (fun W (v1 v2 : Value) (h1 : RulesAt W v1 R) (h2 : PosAt W v2 P) => After_yes R P m v1 v2 W h1 h2 hV hS hml)
  clear he hm
  have HHQ := hide (fun W (v1 v2 : Value) (h1 : RulesAt W v1 R) (h2 : PosAt W v2 (makeM R P m)) => heavy_any R (makeM R P m) v1 v2 D W h1 h2 )
  rw [hh] at HHQ
  clear hh hV hS hml
  generalize makeM R P m = Q at *
  have hR0 := hR
  have hP0 := hP
  obtain ⟨pA, pc, sA, sc, eA, ec, rfl, -⟩ := hR0
  obtain ⟨cA, cc, aA, ac, bA, bc, rfl, -⟩ := hP0
  go_enter Try.func5, Try.ntmps5
  go_wp2_with fail
  obtain ⟨xa, kR, kP⟩ := blks2 w #[.string R.name, .int .i64 R.width, .int .i64 R.height, .slice pA R.pieces.length pc, .slice sA R.start.length sc, .bool R.falls, .bool R.keeps, .slice eA R.ends.length ec, .int .i64 R.blocked, .int .i64 R.quiet, .int .i64 R.rept] 26 #[.slice cA P.cells.length cc, .slice aA P.hand0.length ac, .slice bA P.hand1.length bc, .int .i64 P.turn, .int .i64 P.quiet] 29
  replace hR := hR.ext xa
  replace hP := hP.ext xa
  have X := xa
  clear xa
  generalize ((w.alloc (.cells #[.string R.name, .int .i64 R.width, .int .i64 R.height, .slice pA R.pieces.length pc, .slice sA R.start.length sc, .bool R.falls, .bool R.keeps, .slice eA R.ends.length ec, .int .i64 R.blocked, .int .i64 R.quiet, .int .i64 R.rept] 26)).alloc (.cells #[.slice cA P.cells.length cc, .slice aA P.hand0.length ac, .slice bA P.hand1.length bc, .int .i64 P.turn, .int .i64 P.quiet] 29)) = w2 at *
  generalize w.heap.size + 1 = BP at *
  generalize w.heap.size = BR at *
  refine (attacked_any _).mono ?_
  rintro e w3 ⟨rfl, x⟩
  replace hR := hR.ext x
  replace hP := hP.ext x
  replace kR := kR.ext x
  replace kP := kP.ext x
  replace X := ext_trans X x
  clear x
  go_wp2_with fail
  refine (scored_any _).mono ?_
  rintro e w4 ⟨rfl, x⟩
  replace hR := hR.ext x
  replace hP := hP.ext x
  replace kR := kR.ext x
  replace kP := kP.ext x
  replace X := ext_trans X x
  clear x
  go_wp2_with fail
  refine (plays_any _).mono ?_
  rintro e w5 ⟨rfl, x⟩
  replace hR := hR.ext x
  replace hP := hP.ext x
  replace kR := kR.ext x
  replace kP := kP.ext x
  replace X := ext_trans X x
  clear x
  have fR := kR.cell
  have fP := kP.cell
  go_wp2_with fail
  refine (HF.out _ _ _ hR hP).mono ?_
  rintro e w6 ⟨rfl, x⟩
  replace hR := hR.ext x
  replace hP := hP.ext x
  replace kR := kR.ext x
  replace kP := kP.ext x
  replace X := ext_trans X x
  replace fR := kR.cell
  replace fP := kP.cell
  clear x
  obtain ⟨xa, k9⟩ := blks1 w6 #[.int .i64 m.src, .int .i64 m.dst, .int .i64 m.piece] 42
  replace hR := hR.ext xa
  replace hP := hP.ext xa
  replace kR := kR.ext xa
  replace kP := kP.ext xa
  replace X := ext_trans X xa
  have fR' := kR.cell
  have fP' := kP.cell
  clear xa
  go_upto_region 5 with fail
  generalize (w6.alloc (.cells #[.int .i64 m.src, .int .i64 m.dst, .int .i64 m.piece] 42)) = w7 at *
  generalize w6.heap.size = B9 at *
  replace fR := kR.cell
  clear fR'
  replace fP := kP.cell
  clear fP'
  have f9 := k9.cell
  go_wp2_with fail
  refine (HA.out _ _ _ hR hP).mono ?_
  rintro e w8 ⟨v6, rfl, h6, x⟩
  replace hR := hR.ext x
  replace hP := hP.ext x
  replace kR := kR.ext x
  replace kP := kP.ext x
  replace k9 := k9.ext x
  replace X := ext_trans X x
  replace fR := kR.cell
  replace fP := kP.cell
  replace f9 := k9.cell
  clear x
  replace h6 := h6.at_
  have h6v := h6
  obtain ⟨cA6, cc6, aA6, ac6, bA6, bc6, rfl, -⟩ := h6v
  clear f9
  obtain ⟨xa, k6⟩ := blks1 w8 #[.slice cA6 Q.cells.length cc6, .slice aA6 Q.hand0.length ac6, .slice bA6 Q.hand1.length bc6, .int .i64 Q.turn, .int .i64 Q.quiet] 29
  replace hR := hR.ext xa
  replace hP := hP.ext xa
  replace kR := kR.ext xa
  replace kP := kP.ext xa
  replace k9 := k9.ext xa
  replace h6 := h6.ext xa
  replace X := ext_trans X xa
  have fR' := kR.cell
  have fP' := kP.cell
  clear xa
  go_upto_region 8 with fail
  generalize (w8.alloc (.cells #[.slice cA6 Q.cells.length cc6, .slice aA6 Q.hand0.length ac6, .slice bA6 Q.hand1.length bc6, .int .i64 Q.turn, .int .i64 Q.quiet] 29)) = w9 at *
  generalize w8.heap.size = B6 at *
  replace fR := kR.cell
  clear fR'
  replace fP := kP.cell
  clear fP'
  have f6 := k6.cell
  go_wp2_with fail
  refine (HHQ.out _ _ _ hR h6).mono ?_
  rintro e w10 ⟨rfl, x⟩
  replace hR := hR.ext x
  replace hP := hP.ext x
  replace kR := kR.ext x
  replace kP := kP.ext x
  replace k9 := k9.ext x
  replace h6 := h6.ext x
  replace k6 := k6.ext x
  replace X := ext_trans X x
  replace fR := kR.cell
  replace fP := kP.cell
  replace f6 := k6.cell
  clear x
  clear fR fP f6
  go_wp2
  all_goals go_ret
  all_goals exact ⟨by first | rfl | simp, X⟩
set_option maxHeartbeats 4000000 in
set_option maxRecDepth 100000 in
theorem proofnumFirst_bad (R : RulesM) (P : PosM) (v u : Value) (a D : Int) (w : World) (hR : RulesAt w v R) (hP : PosAt w u P) (K : Int) (hK : (wrap64 (a.tmod 60 + 60)).tmod 60 = K) (k0 : 0 ≤ K) (k1 : K < 60) (he : provE R P K = 0) (m : MoveM) (hm : firstP R P K = some m) (hV : Valid R) (hS : Sound R P) (hml : m ∈ listM R P) (hh : heavyB R (makeM R P m) D = false) (hg : perftE R (makeM R P m) D ≠ 0) :
    Calls Try.prog 5 #[v, u, .int .i64 a, .int .i64 D] w fun e w' => e = .returned (.bool true) ∧ Ext w w' := by
  have HF := hide (fun W (v1 v2 : Value) (h1 : RulesAt W v1 R) (h2 : PosAt W v2 P) => PFirst_some R P v1 v2 K W h1 h2 he hm)
  have HA := hide (fun W (v1 v2 : Value) (h1 : RulesAt W v1 R) (h2 : PosAt W v2 P) => After_yes R P m v1 v2 W h1 h2 hV hS hml)
  clear he hm
  have HHQ := hide (fun W (v1 v2 : Value) (h1 : RulesAt W v1 R) (h2 : PosAt W v2 (makeM R P m)) => heavy_any R (makeM R P m) v1 v2 D W h1 h2 )
  rw [hh] at HHQ
  have HSQ := hide (fun W (v1 v2 : Value) (h1 : RulesAt W v1 R) (h2 : PosAt W v2 (makeM R P m)) => MScore_any R (makeM R P m) v1 v2 D W h1 h2 )
  have t1 : (perftE R (makeM R P m) D != 0) = true := by simpa using hg
  clear hh hg hV hS hml
  generalize perftE R (makeM R P m) D = F at *
  generalize scoreM R (makeM R P m) D = s at *
  generalize makeM R P m = Q at *
  have hR0 := hR
  have hP0 := hP
  obtain ⟨pA, pc, sA, sc, eA, ec, rfl, -⟩ := hR0
  obtain ⟨cA, cc, aA, ac, bA, bc, rfl, -⟩ := hP0
  go_enter Try.func5, Try.ntmps5
  go_wp2_with fail
  obtain ⟨xa, kR, kP⟩ := blks2 w #[.string R.name, .int .i64 R.width, .int .i64 R.height, .slice pA R.pieces.length pc, .slice sA R.start.length sc, .bool R.falls, .bool R.keeps, .slice eA R.ends.length ec, .int .i64 R.blocked, .int .i64 R.quiet, .int .i64 R.rept] 26 #[.slice cA P.cells.length cc, .slice aA P.hand0.length ac, .slice bA P.hand1.length bc, .int .i64 P.turn, .int .i64 P.quiet] 29
  replace hR := hR.ext xa
  replace hP := hP.ext xa
  have X := xa
  clear xa
  generalize ((w.alloc (.cells #[.string R.name, .int .i64 R.width, .int .i64 R.height, .slice pA R.pieces.length pc, .slice sA R.start.length sc, .bool R.falls, .bool R.keeps, .slice eA R.ends.length ec, .int .i64 R.blocked, .int .i64 R.quiet, .int .i64 R.rept] 26)).alloc (.cells #[.slice cA P.cells.length cc, .slice aA P.hand0.length ac, .slice bA P.hand1.length bc, .int .i64 P.turn, .int .i64 P.quiet] 29)) = w2 at *
  generalize w.heap.size + 1 = BP at *
  generalize w.heap.size = BR at *
  refine (attacked_any _).mono ?_
  rintro e w3 ⟨rfl, x⟩
  replace hR := hR.ext x
  replace hP := hP.ext x
  replace kR := kR.ext x
  replace kP := kP.ext x
  replace X := ext_trans X x
  clear x
  go_wp2_with fail
  refine (scored_any _).mono ?_
  rintro e w4 ⟨rfl, x⟩
  replace hR := hR.ext x
  replace hP := hP.ext x
  replace kR := kR.ext x
  replace kP := kP.ext x
  replace X := ext_trans X x
  clear x
  go_wp2_with fail
  refine (plays_any _).mono ?_
  rintro e w5 ⟨rfl, x⟩
  replace hR := hR.ext x
  replace hP := hP.ext x
  replace kR := kR.ext x
  replace kP := kP.ext x
  replace X := ext_trans X x
  clear x
  have fR := kR.cell
  have fP := kP.cell
  go_wp2_with fail
  refine (HF.out _ _ _ hR hP).mono ?_
  rintro e w6 ⟨rfl, x⟩
  replace hR := hR.ext x
  replace hP := hP.ext x
  replace kR := kR.ext x
  replace kP := kP.ext x
  replace X := ext_trans X x
  replace fR := kR.cell
  replace fP := kP.cell
  clear x
  obtain ⟨xa, k9⟩ := blks1 w6 #[.int .i64 m.src, .int .i64 m.dst, .int .i64 m.piece] 42
  replace hR := hR.ext xa
  replace hP := hP.ext xa
  replace kR := kR.ext xa
  replace kP := kP.ext xa
  replace X := ext_trans X xa
  have fR' := kR.cell
  have fP' := kP.cell
  clear xa
  go_upto_region 5 with fail
  generalize (w6.alloc (.cells #[.int .i64 m.src, .int .i64 m.dst, .int .i64 m.piece] 42)) = w7 at *
  generalize w6.heap.size = B9 at *
  replace fR := kR.cell
  clear fR'
  replace fP := kP.cell
  clear fP'
  have f9 := k9.cell
  go_wp2_with fail
  refine (HA.out _ _ _ hR hP).mono ?_
  rintro e w8 ⟨v6, rfl, h6, x⟩
  replace hR := hR.ext x
  replace hP := hP.ext x
  replace kR := kR.ext x
  replace kP := kP.ext x
  replace k9 := k9.ext x
  replace X := ext_trans X x
  replace fR := kR.cell
  replace fP := kP.cell
  replace f9 := k9.cell
  clear x
  replace h6 := h6.at_
  have h6v := h6
  obtain ⟨cA6, cc6, aA6, ac6, bA6, bc6, rfl, -⟩ := h6v
  clear f9
  obtain ⟨xa, k6⟩ := blks1 w8 #[.slice cA6 Q.cells.length cc6, .slice aA6 Q.hand0.length ac6, .slice bA6 Q.hand1.length bc6, .int .i64 Q.turn, .int .i64 Q.quiet] 29
  replace hR := hR.ext xa
  replace hP := hP.ext xa
  replace kR := kR.ext xa
  replace kP := kP.ext xa
  replace k9 := k9.ext xa
  replace h6 := h6.ext xa
  replace X := ext_trans X xa
  have fR' := kR.cell
  have fP' := kP.cell
  clear xa
  go_upto_region 8 with fail
  generalize (w8.alloc (.cells #[.slice cA6 Q.cells.length cc6, .slice aA6 Q.hand0.length ac6, .slice bA6 Q.hand1.length bc6, .int .i64 Q.turn, .int .i64 Q.quiet] 29)) = w9 at *
  generalize w8.heap.size = B6 at *
  replace fR := kR.cell
  clear fR'
  replace fP := kP.cell
  clear fP'
  have f6 := k6.cell
  go_wp2_with fail
  refine (HHQ.out _ _ _ hR h6).mono ?_
  rintro e w10 ⟨rfl, x⟩
  replace hR := hR.ext x
  replace hP := hP.ext x
  replace kR := kR.ext x
  replace kP := kP.ext x
  replace k9 := k9.ext x
  replace h6 := h6.ext x
  replace k6 := k6.ext x
  replace X := ext_trans X x
  replace fR := kR.cell
  replace fP := kP.cell
  replace f6 := k6.cell
  clear x
  go_wp2_with fail
  refine (HSQ.out _ _ _ hR h6).mono ?_
  rintro e w11 ⟨rfl, x⟩
  replace hR := hR.ext x
  replace hP := hP.ext x
  replace kR := kR.ext x
  replace kP := kP.ext x
  replace k9 := k9.ext x
  replace h6 := h6.ext x
  replace k6 := k6.ext x
  replace X := ext_trans X x
  replace fR := kR.cell
  replace fP := kP.cell
  replace f6 := k6.cell
  clear x
  clear fR fP f6
  go_wp2
  all_goals go_ret
  all_goals exact ⟨by first | rfl | simp, X⟩
set_option maxHeartbeats 4000000 in
set_option maxRecDepth 100000 in
theorem proofnumFirst_good (R : RulesM) (P : PosM) (v u : Value) (a D : Int) (w : World) (hR : RulesAt w v R) (hP : PosAt w u P) (K : Int) (hK : (wrap64 (a.tmod 60 + 60)).tmod 60 = K) (k0 : 0 ≤ K) (k1 : K < 60) (he : provE R P K = 0) (m : MoveM) (hm : firstP R P K = some m) (hV : Valid R) (hS : Sound R P) (hml : m ∈ listM R P) (hh : heavyB R (makeM R P m) D = false) (hg : perftE R (makeM R P m) D = 0) (hs : scoreM R (makeM R P m) D ≤ 0) :
    Calls Try.prog 5 #[v, u, .int .i64 a, .int .i64 D] w fun e w' => e = .returned (.bool true) ∧ Ext w w' := by
  have HF := hide (fun W (v1 v2 : Value) (h1 : RulesAt W v1 R) (h2 : PosAt W v2 P) => PFirst_some R P v1 v2 K W h1 h2 he hm)
  have HA := hide (fun W (v1 v2 : Value) (h1 : RulesAt W v1 R) (h2 : PosAt W v2 P) => After_yes R P m v1 v2 W h1 h2 hV hS hml)
  clear he hm
  have HHQ := hide (fun W (v1 v2 : Value) (h1 : RulesAt W v1 R) (h2 : PosAt W v2 (makeM R P m)) => heavy_any R (makeM R P m) v1 v2 D W h1 h2 )
  rw [hh] at HHQ
  have HSQ := hide (fun W (v1 v2 : Value) (h1 : RulesAt W v1 R) (h2 : PosAt W v2 (makeM R P m)) => MScore_any R (makeM R P m) v1 v2 D W h1 h2 )
  rw [hg] at HSQ
  have t1 : decide (scoreM R (makeM R P m) D ≤ 0) = true := by simpa using hs
  clear hh hg hV hS hml hs
  generalize scoreM R (makeM R P m) D = s at *
  generalize makeM R P m = Q at *
  have hR0 := hR
  have hP0 := hP
  obtain ⟨pA, pc, sA, sc, eA, ec, rfl, -⟩ := hR0
  obtain ⟨cA, cc, aA, ac, bA, bc, rfl, -⟩ := hP0
  go_enter Try.func5, Try.ntmps5
  go_wp2_with fail
  obtain ⟨xa, kR, kP⟩ := blks2 w #[.string R.name, .int .i64 R.width, .int .i64 R.height, .slice pA R.pieces.length pc, .slice sA R.start.length sc, .bool R.falls, .bool R.keeps, .slice eA R.ends.length ec, .int .i64 R.blocked, .int .i64 R.quiet, .int .i64 R.rept] 26 #[.slice cA P.cells.length cc, .slice aA P.hand0.length ac, .slice bA P.hand1.length bc, .int .i64 P.turn, .int .i64 P.quiet] 29
  replace hR := hR.ext xa
  replace hP := hP.ext xa
  have X := xa
  clear xa
  generalize ((w.alloc (.cells #[.string R.name, .int .i64 R.width, .int .i64 R.height, .slice pA R.pieces.length pc, .slice sA R.start.length sc, .bool R.falls, .bool R.keeps, .slice eA R.ends.length ec, .int .i64 R.blocked, .int .i64 R.quiet, .int .i64 R.rept] 26)).alloc (.cells #[.slice cA P.cells.length cc, .slice aA P.hand0.length ac, .slice bA P.hand1.length bc, .int .i64 P.turn, .int .i64 P.quiet] 29)) = w2 at *
  generalize w.heap.size + 1 = BP at *
  generalize w.heap.size = BR at *
  refine (attacked_any _).mono ?_
  rintro e w3 ⟨rfl, x⟩
  replace hR := hR.ext x
  replace hP := hP.ext x
  replace kR := kR.ext x
  replace kP := kP.ext x
  replace X := ext_trans X x
  clear x
  go_wp2_with fail
  refine (scored_any _).mono ?_
  rintro e w4 ⟨rfl, x⟩
  replace hR := hR.ext x
  replace hP := hP.ext x
  replace kR := kR.ext x
  replace kP := kP.ext x
  replace X := ext_trans X x
  clear x
  go_wp2_with fail
  refine (plays_any _).mono ?_
  rintro e w5 ⟨rfl, x⟩
  replace hR := hR.ext x
  replace hP := hP.ext x
  replace kR := kR.ext x
  replace kP := kP.ext x
  replace X := ext_trans X x
  clear x
  have fR := kR.cell
  have fP := kP.cell
  go_wp2_with fail
  refine (HF.out _ _ _ hR hP).mono ?_
  rintro e w6 ⟨rfl, x⟩
  replace hR := hR.ext x
  replace hP := hP.ext x
  replace kR := kR.ext x
  replace kP := kP.ext x
  replace X := ext_trans X x
  replace fR := kR.cell
  replace fP := kP.cell
  clear x
  obtain ⟨xa, k9⟩ := blks1 w6 #[.int .i64 m.src, .int .i64 m.dst, .int .i64 m.piece] 42
  replace hR := hR.ext xa
  replace hP := hP.ext xa
  replace kR := kR.ext xa
  replace kP := kP.ext xa
  replace X := ext_trans X xa
  have fR' := kR.cell
  have fP' := kP.cell
  clear xa
  go_upto_region 5 with fail
  generalize (w6.alloc (.cells #[.int .i64 m.src, .int .i64 m.dst, .int .i64 m.piece] 42)) = w7 at *
  generalize w6.heap.size = B9 at *
  replace fR := kR.cell
  clear fR'
  replace fP := kP.cell
  clear fP'
  have f9 := k9.cell
  go_wp2_with fail
  refine (HA.out _ _ _ hR hP).mono ?_
  rintro e w8 ⟨v6, rfl, h6, x⟩
  replace hR := hR.ext x
  replace hP := hP.ext x
  replace kR := kR.ext x
  replace kP := kP.ext x
  replace k9 := k9.ext x
  replace X := ext_trans X x
  replace fR := kR.cell
  replace fP := kP.cell
  replace f9 := k9.cell
  clear x
  replace h6 := h6.at_
  have h6v := h6
  obtain ⟨cA6, cc6, aA6, ac6, bA6, bc6, rfl, -⟩ := h6v
  clear f9
  obtain ⟨xa, k6⟩ := blks1 w8 #[.slice cA6 Q.cells.length cc6, .slice aA6 Q.hand0.length ac6, .slice bA6 Q.hand1.length bc6, .int .i64 Q.turn, .int .i64 Q.quiet] 29
  replace hR := hR.ext xa
  replace hP := hP.ext xa
  replace kR := kR.ext xa
  replace kP := kP.ext xa
  replace k9 := k9.ext xa
  replace h6 := h6.ext xa
  replace X := ext_trans X xa
  have fR' := kR.cell
  have fP' := kP.cell
  clear xa
  go_upto_region 8 with fail
  generalize (w8.alloc (.cells #[.slice cA6 Q.cells.length cc6, .slice aA6 Q.hand0.length ac6, .slice bA6 Q.hand1.length bc6, .int .i64 Q.turn, .int .i64 Q.quiet] 29)) = w9 at *
  generalize w8.heap.size = B6 at *
  replace fR := kR.cell
  clear fR'
  replace fP := kP.cell
  clear fP'
  have f6 := k6.cell
  go_wp2_with fail
  refine (HHQ.out _ _ _ hR h6).mono ?_
  rintro e w10 ⟨rfl, x⟩
  replace hR := hR.ext x
  replace hP := hP.ext x
  replace kR := kR.ext x
  replace kP := kP.ext x
  replace k9 := k9.ext x
  replace h6 := h6.ext x
  replace k6 := k6.ext x
  replace X := ext_trans X x
  replace fR := kR.cell
  replace fP := kP.cell
  replace f6 := k6.cell
  clear x
  go_wp2_with fail
  refine (HSQ.out _ _ _ hR h6).mono ?_
  rintro e w11 ⟨rfl, x⟩
  replace hR := hR.ext x
  replace hP := hP.ext x
  replace kR := kR.ext x
  replace kP := kP.ext x
  replace k9 := k9.ext x
  replace h6 := h6.ext x
  replace k6 := k6.ext x
  replace X := ext_trans X x
  replace fR := kR.cell
  replace fP := kP.cell
  replace f6 := k6.cell
  clear x
  clear fR fP f6
  go_wp2
  all_goals go_ret
  all_goals exact ⟨by first | rfl | simp, X⟩
theorem proofnumFirst_law (v : Value) (R : RulesM) (u : Value) (P : PosM) (a D : Int) (w : World) (hR : RulesAt w v R) (hP : PosAt w u P) :
    Calls Try.prog 5 #[v, u, .int .i64 a, .int .i64 D] w fun e w' => e = .returned (.bool true) ∧ Ext w w' := by
  obtain ⟨K, hK⟩ : ∃ K, (wrap64 (a.tmod 60 + 60)).tmod 60 = K := ⟨_, rfl⟩
  obtain ⟨k0, k1⟩ := some_mod 60 (by omega) (by omega) a K hK
  by_cases he : provE R P K = 0
  · cases hm : firstP R P K with
    | none => exact proofnumFirst_none R P v u a D w hR hP K hK k0 k1 he hm
    | some m =>
      obtain ⟨hml, hof⟩ := firstP_spec he hm
      obtain ⟨hV, hS⟩ := check_iff.1 (provE_zero he).1
      cases hh : heavyB R (makeM R P m) D
      · by_cases hg : perftE R (makeM R P m) D = 0
        · refine proofnumFirst_good R P v u a D w hR hP K hK k0 k1 he m hm hV hS hml hh hg ?_
          obtain ⟨-, -, d0, d1, -⟩ := perft_zero hg
          have hs : scoreM R (makeM R P m) D = ofM R D.toNat (makeM R P m) := if_pos hg
          rw [hs]
          exact hof D.toNat (by omega)
        · exact proofnumFirst_bad R P v u a D w hR hP K hK k0 k1 he m hm hV hS hml hh hg
      · exact proofnumFirst_h1 R P v u a D w hR hP K hK k0 k1 he m hm hV hS hml hh
  · exact proofnumFirst_no R P v u a D w hR hP K hK k0 k1 he

end Go.Proofs.Yteadldpoibpikaa
