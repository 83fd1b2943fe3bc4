/- Walk: the law CertMakes. -/
import Derived.Test.YtfkcigekbgkcmaaGCertB
import Derived.Test.YtfkcigekbgkcmaaGCertC
namespace Go.Proofs.Ytfkcigekbgkcmaa
open Go.ChangeShapes Go.WideShapes Go.ChangeAt Go.RowKit Go.Shelf
set_option linter.unusedVariables false
set_option linter.unusedSimpArgs false
set_option maxHeartbeats 4000000 in
set_option maxRecDepth 100000 in
theorem certMakes_heavy (R : RulesM) (P : PosM) (v u : Value) (D : Int) (w : World) (hR : RulesAt w v R) (hP : PosAt w u P) (hh : heavyB R P D = true) :
    Calls Try.prog 10 #[v, u, .int .i64 D] w fun e w' => e = .returned (.bool true) ∧ Ext w w' := by
  have HHV := hide (fun W (v1 v2 : Value) (h1 : RulesAt W v1 R) (h2 : PosAt W v2 P) => heavy_any R P v1 v2 D W h1 h2)
  rw [hh] at HHV
  clear hh
  have hR0 := hR
  have hP0 := hP
  obtain ⟨pA, pc, sA, sc, eA, ec, rfl, -⟩ := hR0
  obtain ⟨cA, cc, aA, ac, bA, bc, rfl, -⟩ := hP0
  go_enter Try.func10, Try.ntmps10
  go_wp2_with fail
  obtain ⟨xa, kR, kP⟩ := blks2 w #[.string R.name, .int .i64 R.width, .int .i64 R.height, .slice pA R.pieces.length pc, .slice sA R.start.length sc, .bool R.falls, .bool R.keeps, .slice eA R.ends.length ec, .int .i64 R.blocked, .int .i64 R.quiet, .int .i64 R.rept] 26 #[.slice cA P.cells.length cc, .slice aA P.hand0.length ac, .slice bA P.hand1.length bc, .int .i64 P.turn, .int .i64 P.quiet] 29
  replace hR := hR.ext xa
  replace hP := hP.ext xa
  have X := xa
  clear xa
  generalize ((w.alloc (.cells #[.string R.name, .int .i64 R.width, .int .i64 R.height, .slice pA R.pieces.length pc, .slice sA R.start.length sc, .bool R.falls, .bool R.keeps, .slice eA R.ends.length ec, .int .i64 R.blocked, .int .i64 R.quiet, .int .i64 R.rept] 26)).alloc (.cells #[.slice cA P.cells.length cc, .slice aA P.hand0.length ac, .slice bA P.hand1.length bc, .int .i64 P.turn, .int .i64 P.quiet] 29)) = w2 at *
  generalize w.heap.size + 1 = BP at *
  generalize w.heap.size = BR at *
  refine (proved_any _).mono ?_
  rintro e w3 ⟨rfl, x⟩
  replace hR := hR.ext x
  replace hP := hP.ext x
  replace kR := kR.ext x
  replace kP := kP.ext x
  replace X := ext_trans X x
  clear x
  go_wp2_with fail
  refine (scored_any _).mono ?_
  rintro e w4 ⟨rfl, x⟩
  replace hR := hR.ext x
  replace hP := hP.ext x
  replace kR := kR.ext x
  replace kP := kP.ext x
  replace X := ext_trans X x
  clear x
  have fR := kR.cell
  have fP := kP.cell
  go_wp2_with fail
  refine (HHV.out _ _ _ hR hP).mono ?_
  rintro e w5 ⟨rfl, x⟩
  replace hR := hR.ext x
  replace hP := hP.ext x
  replace kR := kR.ext x
  replace kP := kP.ext x
  replace X := ext_trans X x
  replace fR := kR.cell
  replace fP := kP.cell
  clear x
  clear HHV
  clear fR fP
  go_wp2
  all_goals go_ret
  all_goals exact ⟨by first | rfl | simp, X⟩
set_option maxHeartbeats 4000000 in
set_option maxRecDepth 100000 in
theorem certMakes_bad (R : RulesM) (P : PosM) (v u : Value) (D : Int) (w : World) (hR : RulesAt w v R) (hP : PosAt w u P) (hh : heavyB R P D = false) (hne : makeE R P D ≠ 0) (hp : perftE R P D ≠ 0) :
    Calls Try.prog 10 #[v, u, .int .i64 D] w fun e w' => e = .returned (.bool true) ∧ Ext w w' := by
  have HHV := hide (fun W (v1 v2 : Value) (h1 : RulesAt W v1 R) (h2 : PosAt W v2 P) => heavy_any R P v1 v2 D W h1 h2)
  rw [hh] at HHV
  clear hh
  have HMK := hide (fun W (v1 v2 : Value) (h1 : RulesAt W v1 R) (h2 : PosAt W v2 P) => Make_no R P v1 v2 D W h1 h2 hne)
  have HS := hide (fun W (v1 v2 : Value) (h1 : RulesAt W v1 R) (h2 : PosAt W v2 P) => MScore_any R P v1 v2 D W h1 h2)
  rw [makeE_bad hp] at HMK
  have t0 : (perftE R P D != 0) = true := by simpa using hp
  clear hp hne
  generalize perftE R P D = E at *
  generalize scoreM R P D = s at *
  have t1 : (E == E) = true := beq_self_eq_true E
  have hR0 := hR
  have hP0 := hP
  obtain ⟨pA, pc, sA, sc, eA, ec, rfl, -⟩ := hR0
  obtain ⟨cA, cc, aA, ac, bA, bc, rfl, -⟩ := hP0
  go_enter Try.func10, Try.ntmps10
  go_wp2_with fail
  obtain ⟨xa, kR, kP⟩ := blks2 w #[.string R.name, .int .i64 R.width, .int .i64 R.height, .slice pA R.pieces.length pc, .slice sA R.start.length sc, .bool R.falls, .bool R.keeps, .slice eA R.ends.length ec, .int .i64 R.blocked, .int .i64 R.quiet, .int .i64 R.rept] 26 #[.slice cA P.cells.length cc, .slice aA P.hand0.length ac, .slice bA P.hand1.length bc, .int .i64 P.turn, .int .i64 P.quiet] 29
  replace hR := hR.ext xa
  replace hP := hP.ext xa
  have X := xa
  clear xa
  generalize ((w.alloc (.cells #[.string R.name, .int .i64 R.width, .int .i64 R.height, .slice pA R.pieces.length pc, .slice sA R.start.length sc, .bool R.falls, .bool R.keeps, .slice eA R.ends.length ec, .int .i64 R.blocked, .int .i64 R.quiet, .int .i64 R.rept] 26)).alloc (.cells #[.slice cA P.cells.length cc, .slice aA P.hand0.length ac, .slice bA P.hand1.length bc, .int .i64 P.turn, .int .i64 P.quiet] 29)) = w2 at *
  generalize w.heap.size + 1 = BP at *
  generalize w.heap.size = BR at *
  refine (proved_any _).mono ?_
  rintro e w3 ⟨rfl, x⟩
  replace hR := hR.ext x
  replace hP := hP.ext x
  replace kR := kR.ext x
  replace kP := kP.ext x
  replace X := ext_trans X x
  clear x
  go_wp2_with fail
  refine (scored_any _).mono ?_
  rintro e w4 ⟨rfl, x⟩
  replace hR := hR.ext x
  replace hP := hP.ext x
  replace kR := kR.ext x
  replace kP := kP.ext x
  replace X := ext_trans X x
  clear x
  have fR := kR.cell
  have fP := kP.cell
  go_wp2_with fail
  refine (HHV.out _ _ _ hR hP).mono ?_
  rintro e w5 ⟨rfl, x⟩
  replace hR := hR.ext x
  replace hP := hP.ext x
  replace kR := kR.ext x
  replace kP := kP.ext x
  replace X := ext_trans X x
  replace fR := kR.cell
  replace fP := kP.cell
  clear x
  clear HHV
  go_wp2_with fail
  refine (HMK.out _ _ _ hR hP).mono ?_
  rintro e w6 ⟨rfl, x⟩
  replace hR := hR.ext x
  replace hP := hP.ext x
  replace kR := kR.ext x
  replace kP := kP.ext x
  replace X := ext_trans X x
  replace fR := kR.cell
  replace fP := kP.cell
  clear x
  clear HMK
  go_wp2_with fail
  refine (HS.out _ _ _ hR hP).mono ?_
  rintro e w7 ⟨rfl, x⟩
  replace hR := hR.ext x
  replace hP := hP.ext x
  replace kR := kR.ext x
  replace kP := kP.ext x
  replace X := ext_trans X x
  replace fR := kR.cell
  replace fP := kP.cell
  clear x
  clear fR fP
  clear HS
  go_wp2
  all_goals go_ret
  all_goals exact ⟨by first | rfl | simp, X⟩
set_option maxHeartbeats 4000000 in
set_option maxRecDepth 100000 in
theorem certMakes_over (R : RulesM) (P : PosM) (v u : Value) (D : Int) (w : World) (hR : RulesAt w v R) (hP : PosAt w u P) (hh : heavyB R P D = false) (hne : makeE R P D ≠ 0) (hp : perftE R P D = 0) (hr : resultM R P ≠ 0) :
    Calls Try.prog 10 #[v, u, .int .i64 D] w fun e w' => e = .returned (.bool true) ∧ Ext w w' := by
  have HHV := hide (fun W (v1 v2 : Value) (h1 : RulesAt W v1 R) (h2 : PosAt W v2 P) => heavy_any R P v1 v2 D W h1 h2)
  rw [hh] at HHV
  clear hh
  have HMK := hide (fun W (v1 v2 : Value) (h1 : RulesAt W v1 R) (h2 : PosAt W v2 P) => Make_no R P v1 v2 D W h1 h2 hne)
  have HS := hide (fun W (v1 v2 : Value) (h1 : RulesAt W v1 R) (h2 : PosAt W v2 P) => MScore_any R P v1 v2 D W h1 h2)
  rw [makeE_over hp hr] at HMK
  rw [hp] at HS
  clear hp hne hr
  generalize scoreM R P D = s at *
  have hR0 := hR
  have hP0 := hP
  obtain ⟨pA, pc, sA, sc, eA, ec, rfl, -⟩ := hR0
  obtain ⟨cA, cc, aA, ac, bA, bc, rfl, -⟩ := hP0
  go_enter Try.func10, Try.ntmps10
  go_wp2_with fail
  obtain ⟨xa, kR, kP⟩ := blks2 w #[.string R.name, .int .i64 R.width, .int .i64 R.height, .slice pA R.pieces.length pc, .slice sA R.start.length sc, .bool R.falls, .bool R.keeps, .slice eA R.ends.length ec, .int .i64 R.blocked, .int .i64 R.quiet, .int .i64 R.rept] 26 #[.slice cA P.cells.length cc, .slice aA P.hand0.length ac, .slice bA P.hand1.length bc, .int .i64 P.turn, .int .i64 P.quiet] 29
  replace hR := hR.ext xa
  replace hP := hP.ext xa
  have X := xa
  clear xa
  generalize ((w.alloc (.cells #[.string R.name, .int .i64 R.width, .int .i64 R.height, .slice pA R.pieces.length pc, .slice sA R.start.length sc, .bool R.falls, .bool R.keeps, .slice eA R.ends.length ec, .int .i64 R.blocked, .int .i64 R.quiet, .int .i64 R.rept] 26)).alloc (.cells #[.slice cA P.cells.length cc, .slice aA P.hand0.length ac, .slice bA P.hand1.length bc, .int .i64 P.turn, .int .i64 P.quiet] 29)) = w2 at *
  generalize w.heap.size + 1 = BP at *
  generalize w.heap.size = BR at *
  refine (proved_any _).mono ?_
  rintro e w3 ⟨rfl, x⟩
  replace hR := hR.ext x
  replace hP := hP.ext x
  replace kR := kR.ext x
  replace kP := kP.ext x
  replace X := ext_trans X x
  clear x
  go_wp2_with fail
  refine (scored_any _).mono ?_
  rintro e w4 ⟨rfl, x⟩
  replace hR := hR.ext x
  replace hP := hP.ext x
  replace kR := kR.ext x
  replace kP := kP.ext x
  replace X := ext_trans X x
  clear x
  have fR := kR.cell
  have fP := kP.cell
  go_wp2_with fail
  refine (HHV.out _ _ _ hR hP).mono ?_
  rintro e w5 ⟨rfl, x⟩
  replace hR := hR.ext x
  replace hP := hP.ext x
  replace kR := kR.ext x
  replace kP := kP.ext x
  replace X := ext_trans X x
  replace fR := kR.cell
  replace fP := kP.cell
  clear x
  clear HHV
  go_wp2_with fail
  refine (HMK.out _ _ _ hR hP).mono ?_
  rintro e w6 ⟨rfl, x⟩
  replace hR := hR.ext x
  replace hP := hP.ext x
  replace kR := kR.ext x
  replace kP := kP.ext x
  replace X := ext_trans X x
  replace fR := kR.cell
  replace fP := kP.cell
  clear x
  clear HMK
  go_wp2_with fail
  refine (HS.out _ _ _ hR hP).mono ?_
  rintro e w7 ⟨rfl, x⟩
  replace hR := hR.ext x
  replace hP := hP.ext x
  replace kR := kR.ext x
  replace kP := kP.ext x
  replace X := ext_trans X x
  replace fR := kR.cell
  replace fP := kP.cell
  clear x
  clear fR fP
  clear HS
  go_wp2
  all_goals go_ret
  all_goals exact ⟨by first | rfl | simp, X⟩
set_option maxHeartbeats 4000000 in
set_option maxRecDepth 100000 in
theorem certMakes_none (R : RulesM) (P : PosM) (v u : Value) (D : Int) (w : World) (hR : RulesAt w v R) (hP : PosAt w u P) (hh : heavyB R P D = false) (hne : makeE R P D ≠ 0) (hp : perftE R P D = 0) (hr : resultM R P = 0) (ho : ofM R D.toNat P ≤ 0) :
    Calls Try.prog 10 #[v, u, .int .i64 D] w fun e w' => e = .returned (.bool true) ∧ Ext w w' := by
  have HHV := hide (fun W (v1 v2 : Value) (h1 : RulesAt W v1 R) (h2 : PosAt W v2 P) => heavy_any R P v1 v2 D W h1 h2)
  rw [hh] at HHV
  clear hh
  have HMK := hide (fun W (v1 v2 : Value) (h1 : RulesAt W v1 R) (h2 : PosAt W v2 P) => Make_no R P v1 v2 D W h1 h2 hne)
  have HS := hide (fun W (v1 v2 : Value) (h1 : RulesAt W v1 R) (h2 : PosAt W v2 P) => MScore_any R P v1 v2 D W h1 h2)
  rw [makeE_none hp hr ho] at HMK
  rw [hp, show scoreM R P D = ofM R D.toNat P from if_pos hp] at HS
  have t1 : decide (ofM R D.toNat P ≤ 0) = true := decide_eq_true ho
  clear hp hne hr ho
  generalize ofM R D.toNat P = s at *
  have hR0 := hR
  have hP0 := hP
  obtain ⟨pA, pc, sA, sc, eA, ec, rfl, -⟩ := hR0
  obtain ⟨cA, cc, aA, ac, bA, bc, rfl, -⟩ := hP0
  go_enter Try.func10, Try.ntmps10
  go_wp2_with fail
  obtain ⟨xa, kR, kP⟩ := blks2 w #[.string R.name, .int .i64 R.width, .int .i64 R.height, .slice pA R.pieces.length pc, .slice sA R.start.length sc, .bool R.falls, .bool R.keeps, .slice eA R.ends.length ec, .int .i64 R.blocked, .int .i64 R.quiet, .int .i64 R.rept] 26 #[.slice cA P.cells.length cc, .slice aA P.hand0.length ac, .slice bA P.hand1.length bc, .int .i64 P.turn, .int .i64 P.quiet] 29
  replace hR := hR.ext xa
  replace hP := hP.ext xa
  have X := xa
  clear xa
  generalize ((w.alloc (.cells #[.string R.name, .int .i64 R.width, .int .i64 R.height, .slice pA R.pieces.length pc, .slice sA R.start.length sc, .bool R.falls, .bool R.keeps, .slice eA R.ends.length ec, .int .i64 R.blocked, .int .i64 R.quiet, .int .i64 R.rept] 26)).alloc (.cells #[.slice cA P.cells.length cc, .slice aA P.hand0.length ac, .slice bA P.hand1.length bc, .int .i64 P.turn, .int .i64 P.quiet] 29)) = w2 at *
  generalize w.heap.size + 1 = BP at *
  generalize w.heap.size = BR at *
  refine (proved_any _).mono ?_
  rintro e w3 ⟨rfl, x⟩
  replace hR := hR.ext x
  replace hP := hP.ext x
  replace kR := kR.ext x
  replace kP := kP.ext x
  replace X := ext_trans X x
  clear x
  go_wp2_with fail
  refine (scored_any _).mono ?_
  rintro e w4 ⟨rfl, x⟩
  replace hR := hR.ext x
  replace hP := hP.ext x
  replace kR := kR.ext x
  replace kP := kP.ext x
  replace X := ext_trans X x
  clear x
  have fR := kR.cell
  have fP := kP.cell
  go_wp2_with fail
  refine (HHV.out _ _ _ hR hP).mono ?_
  rintro e w5 ⟨rfl, x⟩
  replace hR := hR.ext x
  replace hP := hP.ext x
  replace kR := kR.ext x
  replace kP := kP.ext x
  replace X := ext_trans X x
  replace fR := kR.cell
  replace fP := kP.cell
  clear x
  clear HHV
  go_wp2_with fail
  refine (HMK.out _ _ _ hR hP).mono ?_
  rintro e w6 ⟨rfl, x⟩
  replace hR := hR.ext x
  replace hP := hP.ext x
  replace kR := kR.ext x
  replace kP := kP.ext x
  replace X := ext_trans X x
  replace fR := kR.cell
  replace fP := kP.cell
  clear x
  clear HMK
  go_wp2_with fail
  refine (HS.out _ _ _ hR hP).mono ?_
  rintro e w7 ⟨rfl, x⟩
  replace hR := hR.ext x
  replace hP := hP.ext x
  replace kR := kR.ext x
  replace kP := kP.ext x
  replace X := ext_trans X x
  replace fR := kR.cell
  replace fP := kP.cell
  clear x
  clear fR fP
  clear HS
  go_wp2
  all_goals go_ret
  all_goals exact ⟨by first | rfl | simp, X⟩
set_option maxHeartbeats 4000000 in
set_option maxRecDepth 100000 in
theorem certMakes_large (R : RulesM) (P : PosM) (v u : Value) (D : Int) (w : World) (hR : RulesAt w v R) (hP : PosAt w u P) (hh : heavyB R P D = false) (hne : makeE R P D ≠ 0) (hp : perftE R P D = 0) (hr : resultM R P = 0) (ho : 0 < ofM R D.toNat P) (hl : 5000 < (certM R D.toNat 0 P).length) :
    Calls Try.prog 10 #[v, u, .int .i64 D] w fun e w' => e = .returned (.bool true) ∧ Ext w w' := by
  have HHV := hide (fun W (v1 v2 : Value) (h1 : RulesAt W v1 R) (h2 : PosAt W v2 P) => heavy_any R P v1 v2 D W h1 h2)
  rw [hh] at HHV
  clear hh
  have HMK := hide (fun W (v1 v2 : Value) (h1 : RulesAt W v1 R) (h2 : PosAt W v2 P) => Make_no R P v1 v2 D W h1 h2 hne)
  have HS := hide (fun W (v1 v2 : Value) (h1 : RulesAt W v1 R) (h2 : PosAt W v2 P) => MScore_any R P v1 v2 D W h1 h2)
  rw [makeE_large hp hr ho hl] at HMK
  rw [hp] at HS
  clear hp hne hr ho hl
  generalize scoreM R P D = s at *
  have hR0 := hR
  have hP0 := hP
  obtain ⟨pA, pc, sA, sc, eA, ec, rfl, -⟩ := hR0
  obtain ⟨cA, cc, aA, ac, bA, bc, rfl, -⟩ := hP0
  go_enter Try.func10, Try.ntmps10
  go_wp2_with fail
  obtain ⟨xa, kR, kP⟩ := blks2 w #[.string R.name, .int .i64 R.width, .int .i64 R.height, .slice pA R.pieces.length pc, .slice sA R.start.length sc, .bool R.falls, .bool R.keeps, .slice eA R.ends.length ec, .int .i64 R.blocked, .int .i64 R.quiet, .int .i64 R.rept] 26 #[.slice cA P.cells.length cc, .slice aA P.hand0.length ac, .slice bA P.hand1.length bc, .int .i64 P.turn, .int .i64 P.quiet] 29
  replace hR := hR.ext xa
  replace hP := hP.ext xa
  have X := xa
  clear xa
  generalize ((w.alloc (.cells #[.string R.name, .int .i64 R.width, .int .i64 R.height, .slice pA R.pieces.length pc, .slice sA R.start.length sc, .bool R.falls, .bool R.keeps, .slice eA R.ends.length ec, .int .i64 R.blocked, .int .i64 R.quiet, .int .i64 R.rept] 26)).alloc (.cells #[.slice cA P.cells.length cc, .slice aA P.hand0.length ac, .slice bA P.hand1.length bc, .int .i64 P.turn, .int .i64 P.quiet] 29)) = w2 at *
  generalize w.heap.size + 1 = BP at *
  generalize w.heap.size = BR at *
  refine (proved_any _).mono ?_
  rintro e w3 ⟨rfl, x⟩
  replace hR := hR.ext x
  replace hP := hP.ext x
  replace kR := kR.ext x
  replace kP := kP.ext x
  replace X := ext_trans X x
  clear x
  go_wp2_with fail
  refine (scored_any _).mono ?_
  rintro e w4 ⟨rfl, x⟩
  replace hR := hR.ext x
  replace hP := hP.ext x
  replace kR := kR.ext x
  replace kP := kP.ext x
  replace X := ext_trans X x
  clear x
  have fR := kR.cell
  have fP := kP.cell
  go_wp2_with fail
  refine (HHV.out _ _ _ hR hP).mono ?_
  rintro e w5 ⟨rfl, x⟩
  replace hR := hR.ext x
  replace hP := hP.ext x
  replace kR := kR.ext x
  replace kP := kP.ext x
  replace X := ext_trans X x
  replace fR := kR.cell
  replace fP := kP.cell
  clear x
  clear HHV
  go_wp2_with fail
  refine (HMK.out _ _ _ hR hP).mono ?_
  rintro e w6 ⟨rfl, x⟩
  replace hR := hR.ext x
  replace hP := hP.ext x
  replace kR := kR.ext x
  replace kP := kP.ext x
  replace X := ext_trans X x
  replace fR := kR.cell
  replace fP := kP.cell
  clear x
  clear HMK
  go_wp2_with fail
  refine (HS.out _ _ _ hR hP).mono ?_
  rintro e w7 ⟨rfl, x⟩
  replace hR := hR.ext x
  replace hP := hP.ext x
  replace kR := kR.ext x
  replace kP := kP.ext x
  replace X := ext_trans X x
  replace fR := kR.cell
  replace fP := kP.cell
  clear x
  clear fR fP
  clear HS
  go_wp2
  all_goals go_ret
  all_goals exact ⟨by first | rfl | simp, X⟩
set_option maxHeartbeats 4000000 in
set_option maxRecDepth 100000 in
theorem certMakes_yes (R : RulesM) (P : PosM) (v u : Value) (D : Int) (w : World) (hR : RulesAt w v R) (hP : PosAt w u P) (hh : heavyB R P D = false) (h0 : makeE R P D = 0) :
    Calls Try.prog 10 #[v, u, .int .i64 D] w fun e w' => e = .returned (.bool true) ∧ Ext w w' := by
  have HHV := hide (fun W (v1 v2 : Value) (h1 : RulesAt W v1 R) (h2 : PosAt W v2 P) => heavy_any R P v1 v2 D W h1 h2)
  rw [hh] at HHV
  clear hh
  have HMK := hide (fun W (v1 v2 : Value) (h1 : RulesAt W v1 R) (h2 : PosAt W v2 P) => Make_yes R P v1 v2 D W h1 h2 h0)
  unfold MakeOk at HMK
  have HCK := hide (fun W (v1 v2 : Value) (A : Option Addr) (c : Nat) (h1 : RulesAt W v1 R) (h2 : PosAt W v2 P) (h3 : CertAt W A (certM R D.toNat 0 P)) => Check_made R P v1 v2 D A c W h1 h2 h0 h3)
  have HS := hide (fun W (v1 v2 : Value) (h1 : RulesAt W v1 R) (h2 : PosAt W v2 P) => MScore_any R P v1 v2 D W h1 h2)
  obtain ⟨hp, hr, ho, hl⟩ := makeE_zero h0
  obtain ⟨hV, hS, d0, d1, -⟩ := perft_zero hp
  have hb := of_bound R D.toNat P hS.turn (by omega)
  rw [hp, show scoreM R P D = ofM R D.toNat P from if_pos hp] at HS
  generalize certM R D.toNat 0 P = L at *
  generalize ofM R D.toNat P = s at *
  have hb2 : s ≤ 1000 ∧ 1000 - s ≤ D := by unfold boundB at hb; omega
  have t1 : decide (0 < s) = true := decide_eq_true ho
  have hw : IntKind.i64.wrap (1000 - s) = 1000 - s := by rw [IntKind.wrap_i64]; omega
  have t2 : (1000 - s == 1000 - s) = true := beq_self_eq_true _
  have t3 : decide (1000 - s ≤ D) = true := decide_eq_true hb2.2
  obtain ⟨hb3, hb4⟩ := hb2
  clear h0 hp hr hl hV hS hb d0 d1
  have hR0 := hR
  have hP0 := hP
  obtain ⟨pA, pc, sA, sc, eA, ec, rfl, -⟩ := hR0
  obtain ⟨cA, cc, aA, ac, bA, bc, rfl, -⟩ := hP0
  go_enter Try.func10, Try.ntmps10
  go_wp2_with fail
  obtain ⟨xa, kR, kP⟩ := blks2 w #[.string R.name, .int .i64 R.width, .int .i64 R.height, .slice pA R.pieces.length pc, .slice sA R.start.length sc, .bool R.falls, .bool R.keeps, .slice eA R.ends.length ec, .int .i64 R.blocked, .int .i64 R.quiet, .int .i64 R.rept] 26 #[.slice cA P.cells.length cc, .slice aA P.hand0.length ac, .slice bA P.hand1.length bc, .int .i64 P.turn, .int .i64 P.quiet] 29
  replace hR := hR.ext xa
  replace hP := hP.ext xa
  have X := xa
  clear xa
  generalize ((w.alloc (.cells #[.string R.name, .int .i64 R.width, .int .i64 R.height, .slice pA R.pieces.length pc, .slice sA R.start.length sc, .bool R.falls, .bool R.keeps, .slice eA R.ends.length ec, .int .i64 R.blocked, .int .i64 R.quiet, .int .i64 R.rept] 26)).alloc (.cells #[.slice cA P.cells.length cc, .slice aA P.hand0.length ac, .slice bA P.hand1.length bc, .int .i64 P.turn, .int .i64 P.quiet] 29)) = w2 at *
  generalize w.heap.size + 1 = BP at *
  generalize w.heap.size = BR at *
  refine (proved_any _).mono ?_
  rintro e w3 ⟨rfl, x⟩
  replace hR := hR.ext x
  replace hP := hP.ext x
  replace kR := kR.ext x
  replace kP := kP.ext x
  replace X := ext_trans X x
  clear x
  go_wp2_with fail
  refine (scored_any _).mono ?_
  rintro e w4 ⟨rfl, x⟩
  replace hR := hR.ext x
  replace hP := hP.ext x
  replace kR := kR.ext x
  replace kP := kP.ext x
  replace X := ext_trans X x
  clear x
  have fR := kR.cell
  have fP := kP.cell
  go_wp2_with fail
  refine (HHV.out _ _ _ hR hP).mono ?_
  rintro e w5 ⟨rfl, x⟩
  replace hR := hR.ext x
  replace hP := hP.ext x
  replace kR := kR.ext x
  replace kP := kP.ext x
  replace X := ext_trans X x
  replace fR := kR.cell
  replace fP := kP.cell
  clear x
  clear HHV
  go_wp2_with fail
  refine (HMK.out _ _ _ hR hP).mono ?_
  rintro e w6 ⟨A5, c5, rfl, ca, x⟩
  replace hR := hR.ext x
  replace hP := hP.ext x
  replace kR := kR.ext x
  replace kP := kP.ext x
  replace X := ext_trans X x
  replace fR := kR.cell
  replace fP := kP.cell
  clear x
  clear HMK
  go_wp2_with fail
  refine (HS.out _ _ _ hR hP).mono ?_
  rintro e w7 ⟨rfl, x⟩
  replace hR := hR.ext x
  replace hP := hP.ext x
  replace kR := kR.ext x
  replace kP := kP.ext x
  replace ca := ca.ext x
  replace X := ext_trans X x
  replace fR := kR.cell
  replace fP := kP.cell
  clear x
  clear HS
  go_wp2_with fail
  refine (HCK.out _ _ _ _ _ hR hP ca).mono ?_
  rintro e w8 ⟨rfl, x⟩
  replace hR := hR.ext x
  replace hP := hP.ext x
  replace kR := kR.ext x
  replace kP := kP.ext x
  replace ca := ca.ext x
  replace X := ext_trans X x
  replace fR := kR.cell
  replace fP := kP.cell
  clear x
  clear fR fP
  clear HCK
  clear ca
  obtain ⟨xa, kE⟩ := blks1 w8 #[.int .i64 0, .int .i64 0] 32
  replace hR := hR.ext xa
  replace hP := hP.ext xa
  replace kR := kR.ext xa
  replace kP := kP.ext xa
  replace X := ext_trans X xa
  clear xa
  go_wp2_with fail
  generalize (w8.alloc (.cells #[.int .i64 0, .int .i64 0] 32)) = w9 at *
  generalize w8.heap.size = BE at *
  refine (fine_ext (fine_any (some ⟨BE, 0, none⟩) 2 2 [0, 0] _ rfl (by omega) (blk_ints kE))).mono ?_
  rintro e w10 ⟨rfl, x⟩
  replace hR := hR.ext x
  replace hP := hP.ext x
  replace kR := kR.ext x
  replace kP := kP.ext x
  replace kE := kE.ext x
  replace X := ext_trans X x
  clear x
  rw [show allZero [0, 0] = true from rfl]
  clear kE
  go_wp2
  all_goals go_ret
  all_goals exact ⟨by first | rfl | simp, X⟩
theorem certMakes_law (v : Value) (R : RulesM) (u : Value) (P : PosM) (D : Int) (w : World) (hR : RulesAt w v R) (hP : PosAt w u P) :
    Calls Try.prog 10 #[v, u, .int .i64 D] w fun e w' => e = .returned (.bool true) ∧ Ext w w' := by
  cases hh : heavyB R P D
  · by_cases h0 : makeE R P D = 0
    · exact certMakes_yes R P v u D w hR hP hh h0
    · by_cases hp : perftE R P D = 0
      · by_cases hr : resultM R P = 0
        · by_cases ho : ofM R D.toNat P ≤ 0
          · exact certMakes_none R P v u D w hR hP hh h0 hp hr ho
          · by_cases hl : 5000 < (certM R D.toNat 0 P).length
            · exact certMakes_large R P v u D w hR hP hh h0 hp hr (by omega) hl
            · exact absurd (makeE_ok hp hr (by omega) (by omega)) h0
        · exact certMakes_over R P v u D w hR hP hh h0 hp hr
      · exact certMakes_bad R P v u D w hR hP hh h0 hp
  · exact certMakes_heavy R P v u D w hR hP hh

end Go.Proofs.Ytfkcigekbgkcmaa
