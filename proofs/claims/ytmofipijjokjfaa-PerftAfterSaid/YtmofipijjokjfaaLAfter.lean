/- Walk: the law PerftAfter. -/
import Derived.Test.YtmofipijjokjfaaPartsP
import Derived.Test.YtmofipijjokjfaaScored
namespace Go.Proofs.Ytmofipijjokjfaa
open Go.ChangeShapes Go.WideShapes Go.ChangeAt Go.RowKit Go.Shelf
set_option linter.unusedVariables false
set_option linter.unusedSimpArgs false
set_option maxHeartbeats 4000000 in
set_option maxRecDepth 100000 in
theorem perftAfter_h1 (R : RulesM) (P : PosM) (v u : Value) (D a : Int) (w : World) (hR : RulesAt w v R) (hP : PosAt w u P) (hh : heavyB R P D = true) :
    Calls Try.prog 3 #[v, u, .int .i64 D, .int .i64 a] w fun e w' => e = .returned (.bool true) ∧ Ext w w' := by
  have HHV := hide (fun W (v1 v2 : Value) (h1 : RulesAt W v1 R) (h2 : PosAt W v2 P) => heavy_any R P v1 v2 D W h1 h2)
  rw [hh] at HHV
  clear hh
  have HD1 := hide (fun W (v1 v2 : Value) (h1 : RulesAt W v1 threeR) (h2 : PosAt W v2 nearP) => Divide_yes threeR nearP v1 v2 1 W h1 h2 near_div.1)
  have hR0 := hR
  have hP0 := hP
  obtain ⟨pA, pc, sA, sc, eA, ec, rfl, -⟩ := hR0
  obtain ⟨cA, cc, aA, ac, bA, bc, rfl, -⟩ := hP0
  go_enter Try.func3, Try.ntmps3
  go_wp2_with fail
  obtain ⟨xa, kR, kP⟩ := blks2 w #[.string R.name, .int .i64 R.width, .int .i64 R.height, .slice pA R.pieces.length pc, .slice sA R.start.length sc, .bool R.falls, .bool R.keeps, .slice eA R.ends.length ec, .int .i64 R.blocked, .int .i64 R.quiet, .int .i64 R.rept] 26 #[.slice cA P.cells.length cc, .slice aA P.hand0.length ac, .slice bA P.hand1.length bc, .int .i64 P.turn, .int .i64 P.quiet] 29
  replace hR := hR.ext xa
  replace hP := hP.ext xa
  have X := xa
  clear xa
  generalize ((w.alloc (.cells #[.string R.name, .int .i64 R.width, .int .i64 R.height, .slice pA R.pieces.length pc, .slice sA R.start.length sc, .bool R.falls, .bool R.keeps, .slice eA R.ends.length ec, .int .i64 R.blocked, .int .i64 R.quiet, .int .i64 R.rept] 26)).alloc (.cells #[.slice cA P.cells.length cc, .slice aA P.hand0.length ac, .slice bA P.hand1.length bc, .int .i64 P.turn, .int .i64 P.quiet] 29)) = w2 at *
  generalize w.heap.size + 1 = BP at *
  generalize w.heap.size = BR at *
  refine (counted_any _).mono ?_
  rintro e w3 ⟨rfl, x⟩
  replace hR := hR.ext x
  replace hP := hP.ext x
  replace kR := kR.ext x
  replace kP := kP.ext x
  replace X := ext_trans X x
  clear x
  go_wp2_with fail
  refine (plays_any _).mono ?_
  rintro e w4 ⟨rfl, x⟩
  replace hR := hR.ext x
  replace hP := hP.ext x
  replace kR := kR.ext x
  replace kP := kP.ext x
  replace X := ext_trans X x
  clear x
  go_wp2_with fail
  refine (three_any _).mono ?_
  rintro e w5 ⟨v1, rfl, h1, x⟩
  replace hR := hR.ext x
  replace hP := hP.ext x
  replace kR := kR.ext x
  replace kP := kP.ext x
  replace X := ext_trans X x
  clear x
  go_wp2_with fail
  refine (near_any _).mono ?_
  rintro e w6 ⟨v2, rfl, h2, x⟩
  replace hR := hR.ext x
  replace hP := hP.ext x
  replace kR := kR.ext x
  replace kP := kP.ext x
  replace h1 := h1.ext x
  replace X := ext_trans X x
  clear x
  replace h2 := h2.at_
  go_wp2_with fail
  refine (HD1.out _ _ _ h1 h2).mono ?_
  rintro e w7 ⟨v3, rfl, own3, x⟩
  replace hR := hR.ext x
  replace hP := hP.ext x
  replace kR := kR.ext x
  replace kP := kP.ext x
  replace h1 := h1.ext x
  replace h2 := h2.ext x
  replace X := ext_trans X x
  clear x
  obtain ⟨g3, c3, rfl, -⟩ := div_near own3
  clear own3
  clear h1 h2
  clear HD1
  have fR := kR.cell
  have fP := kP.cell
  go_wp2_with fail
  refine (HHV.out _ _ _ hR hP).mono ?_
  rintro e w8 ⟨rfl, x⟩
  replace hR := hR.ext x
  replace hP := hP.ext x
  replace kR := kR.ext x
  replace kP := kP.ext x
  replace X := ext_trans X x
  replace fR := kR.cell
  replace fP := kP.cell
  clear x
  clear HHV
  clear fR fP
  go_wp2
  all_goals go_ret
  all_goals exact ⟨by first | rfl | simp, X⟩
set_option maxHeartbeats 4000000 in
set_option maxRecDepth 100000 in
theorem perftAfter_bad (R : RulesM) (P : PosM) (v u : Value) (D a : Int) (w : World) (hR : RulesAt w v R) (hP : PosAt w u P) (hh : heavyB R P D = false) (he : divE R P D ≠ 0) :
    Calls Try.prog 3 #[v, u, .int .i64 D, .int .i64 a] w fun e w' => e = .returned (.bool true) ∧ Ext w w' := by
  have HHV := hide (fun W (v1 v2 : Value) (h1 : RulesAt W v1 R) (h2 : PosAt W v2 P) => heavy_any R P v1 v2 D W h1 h2)
  rw [hh] at HHV
  clear hh
  have HD1 := hide (fun W (v1 v2 : Value) (h1 : RulesAt W v1 threeR) (h2 : PosAt W v2 nearP) => Divide_yes threeR nearP v1 v2 1 W h1 h2 near_div.1)
  have HD := hide (fun W (v1 v2 : Value) (h1 : RulesAt W v1 R) (h2 : PosAt W v2 P) => Divide_no R P v1 v2 D W h1 h2 he)
  have t0 : (divE R P D != 0) = true := by simpa using he
  clear he
  generalize divE R P D = E at *
  have hR0 := hR
  have hP0 := hP
  obtain ⟨pA, pc, sA, sc, eA, ec, rfl, -⟩ := hR0
  obtain ⟨cA, cc, aA, ac, bA, bc, rfl, -⟩ := hP0
  go_enter Try.func3, Try.ntmps3
  go_wp2_with fail
  obtain ⟨xa, kR, kP⟩ := blks2 w #[.string R.name, .int .i64 R.width, .int .i64 R.height, .slice pA R.pieces.length pc, .slice sA R.start.length sc, .bool R.falls, .bool R.keeps, .slice eA R.ends.length ec, .int .i64 R.blocked, .int .i64 R.quiet, .int .i64 R.rept] 26 #[.slice cA P.cells.length cc, .slice aA P.hand0.length ac, .slice bA P.hand1.length bc, .int .i64 P.turn, .int .i64 P.quiet] 29
  replace hR := hR.ext xa
  replace hP := hP.ext xa
  have X := xa
  clear xa
  generalize ((w.alloc (.cells #[.string R.name, .int .i64 R.width, .int .i64 R.height, .slice pA R.pieces.length pc, .slice sA R.start.length sc, .bool R.falls, .bool R.keeps, .slice eA R.ends.length ec, .int .i64 R.blocked, .int .i64 R.quiet, .int .i64 R.rept] 26)).alloc (.cells #[.slice cA P.cells.length cc, .slice aA P.hand0.length ac, .slice bA P.hand1.length bc, .int .i64 P.turn, .int .i64 P.quiet] 29)) = w2 at *
  generalize w.heap.size + 1 = BP at *
  generalize w.heap.size = BR at *
  refine (counted_any _).mono ?_
  rintro e w3 ⟨rfl, x⟩
  replace hR := hR.ext x
  replace hP := hP.ext x
  replace kR := kR.ext x
  replace kP := kP.ext x
  replace X := ext_trans X x
  clear x
  go_wp2_with fail
  refine (plays_any _).mono ?_
  rintro e w4 ⟨rfl, x⟩
  replace hR := hR.ext x
  replace hP := hP.ext x
  replace kR := kR.ext x
  replace kP := kP.ext x
  replace X := ext_trans X x
  clear x
  go_wp2_with fail
  refine (three_any _).mono ?_
  rintro e w5 ⟨v1, rfl, h1, x⟩
  replace hR := hR.ext x
  replace hP := hP.ext x
  replace kR := kR.ext x
  replace kP := kP.ext x
  replace X := ext_trans X x
  clear x
  go_wp2_with fail
  refine (near_any _).mono ?_
  rintro e w6 ⟨v2, rfl, h2, x⟩
  replace hR := hR.ext x
  replace hP := hP.ext x
  replace kR := kR.ext x
  replace kP := kP.ext x
  replace h1 := h1.ext x
  replace X := ext_trans X x
  clear x
  replace h2 := h2.at_
  go_wp2_with fail
  refine (HD1.out _ _ _ h1 h2).mono ?_
  rintro e w7 ⟨v3, rfl, own3, x⟩
  replace hR := hR.ext x
  replace hP := hP.ext x
  replace kR := kR.ext x
  replace kP := kP.ext x
  replace h1 := h1.ext x
  replace h2 := h2.ext x
  replace X := ext_trans X x
  clear x
  obtain ⟨g3, c3, rfl, -⟩ := div_near own3
  clear own3
  clear h1 h2
  clear HD1
  have fR := kR.cell
  have fP := kP.cell
  go_wp2_with fail
  refine (HHV.out _ _ _ hR hP).mono ?_
  rintro e w8 ⟨rfl, x⟩
  replace hR := hR.ext x
  replace hP := hP.ext x
  replace kR := kR.ext x
  replace kP := kP.ext x
  replace X := ext_trans X x
  replace fR := kR.cell
  replace fP := kP.cell
  clear x
  clear HHV
  go_wp2_with fail
  refine (HD.out _ _ _ hR hP).mono ?_
  rintro e w9 ⟨rfl, x⟩
  replace hR := hR.ext x
  replace hP := hP.ext x
  replace kR := kR.ext x
  replace kP := kP.ext x
  replace X := ext_trans X x
  replace fR := kR.cell
  replace fP := kP.cell
  clear x
  clear fR fP
  go_wp2
  all_goals go_ret
  all_goals exact ⟨by first | rfl | simp, X⟩
set_option maxHeartbeats 4000000 in
set_option maxRecDepth 100000 in
theorem perftAfter_none (R : RulesM) (P : PosM) (v u : Value) (D a : Int) (w : World) (hR : RulesAt w v R) (hP : PosAt w u P) (hh : heavyB R P D = false) (he : divE R P D = 0) (hps : divM R P D = []) :
    Calls Try.prog 3 #[v, u, .int .i64 D, .int .i64 a] w fun e w' => e = .returned (.bool true) ∧ Ext w w' := by
  have HHV := hide (fun W (v1 v2 : Value) (h1 : RulesAt W v1 R) (h2 : PosAt W v2 P) => heavy_any R P v1 v2 D W h1 h2)
  rw [hh] at HHV
  clear hh
  have HD1 := hide (fun W (v1 v2 : Value) (h1 : RulesAt W v1 threeR) (h2 : PosAt W v2 nearP) => Divide_yes threeR nearP v1 v2 1 W h1 h2 near_div.1)
  have HD := hide (fun W (v1 v2 : Value) (h1 : RulesAt W v1 R) (h2 : PosAt W v2 P) => Divide_yes R P v1 v2 D W h1 h2 he)
  clear he
  generalize divM R P D = ps at *
  have hR0 := hR
  have hP0 := hP
  obtain ⟨pA, pc, sA, sc, eA, ec, rfl, -⟩ := hR0
  obtain ⟨cA, cc, aA, ac, bA, bc, rfl, -⟩ := hP0
  go_enter Try.func3, Try.ntmps3
  go_wp2_with fail
  obtain ⟨xa, kR, kP⟩ := blks2 w #[.string R.name, .int .i64 R.width, .int .i64 R.height, .slice pA R.pieces.length pc, .slice sA R.start.length sc, .bool R.falls, .bool R.keeps, .slice eA R.ends.length ec, .int .i64 R.blocked, .int .i64 R.quiet, .int .i64 R.rept] 26 #[.slice cA P.cells.length cc, .slice aA P.hand0.length ac, .slice bA P.hand1.length bc, .int .i64 P.turn, .int .i64 P.quiet] 29
  replace hR := hR.ext xa
  replace hP := hP.ext xa
  have X := xa
  clear xa
  generalize ((w.alloc (.cells #[.string R.name, .int .i64 R.width, .int .i64 R.height, .slice pA R.pieces.length pc, .slice sA R.start.length sc, .bool R.falls, .bool R.keeps, .slice eA R.ends.length ec, .int .i64 R.blocked, .int .i64 R.quiet, .int .i64 R.rept] 26)).alloc (.cells #[.slice cA P.cells.length cc, .slice aA P.hand0.length ac, .slice bA P.hand1.length bc, .int .i64 P.turn, .int .i64 P.quiet] 29)) = w2 at *
  generalize w.heap.size + 1 = BP at *
  generalize w.heap.size = BR at *
  refine (counted_any _).mono ?_
  rintro e w3 ⟨rfl, x⟩
  replace hR := hR.ext x
  replace hP := hP.ext x
  replace kR := kR.ext x
  replace kP := kP.ext x
  replace X := ext_trans X x
  clear x
  go_wp2_with fail
  refine (plays_any _).mono ?_
  rintro e w4 ⟨rfl, x⟩
  replace hR := hR.ext x
  replace hP := hP.ext x
  replace kR := kR.ext x
  replace kP := kP.ext x
  replace X := ext_trans X x
  clear x
  go_wp2_with fail
  refine (three_any _).mono ?_
  rintro e w5 ⟨v1, rfl, h1, x⟩
  replace hR := hR.ext x
  replace hP := hP.ext x
  replace kR := kR.ext x
  replace kP := kP.ext x
  replace X := ext_trans X x
  clear x
  go_wp2_with fail
  refine (near_any _).mono ?_
  rintro e w6 ⟨v2, rfl, h2, x⟩
  replace hR := hR.ext x
  replace hP := hP.ext x
  replace kR := kR.ext x
  replace kP := kP.ext x
  replace h1 := h1.ext x
  replace X := ext_trans X x
  clear x
  replace h2 := h2.at_
  go_wp2_with fail
  refine (HD1.out _ _ _ h1 h2).mono ?_
  rintro e w7 ⟨v3, rfl, own3, x⟩
  replace hR := hR.ext x
  replace hP := hP.ext x
  replace kR := kR.ext x
  replace kP := kP.ext x
  replace h1 := h1.ext x
  replace h2 := h2.ext x
  replace X := ext_trans X x
  clear x
  obtain ⟨g3, c3, rfl, -⟩ := div_near own3
  clear own3
  clear h1 h2
  clear HD1
  have fR := kR.cell
  have fP := kP.cell
  go_wp2_with fail
  refine (HHV.out _ _ _ hR hP).mono ?_
  rintro e w8 ⟨rfl, x⟩
  replace hR := hR.ext x
  replace hP := hP.ext x
  replace kR := kR.ext x
  replace kP := kP.ext x
  replace X := ext_trans X x
  replace fR := kR.cell
  replace fP := kP.cell
  clear x
  clear HHV
  go_wp2_with fail
  refine (HD.out _ _ _ hR hP).mono ?_
  rintro e w9 ⟨v7, rfl, own7, x⟩
  replace hR := hR.ext x
  replace hP := hP.ext x
  replace kR := kR.ext x
  replace kP := kP.ext x
  replace X := ext_trans X x
  replace fR := kR.cell
  replace fP := kP.cell
  clear x
  obtain ⟨A7, c7, rfl, hrow⟩ := own7
  clear hrow
  clear fR fP
  rw [hps]
  go_wp2
  all_goals go_ret
  all_goals exact ⟨by first | rfl | simp, X⟩
set_option maxHeartbeats 4000000 in
set_option maxRecDepth 100000 in
theorem perftAfter_some (R : RulesM) (P : PosM) (v u : Value) (D a : Int) (w : World) (hR : RulesAt w v R) (hP : PosAt w u P) (hh : heavyB R P D = false) (he : divE R P D = 0) (hps : divM R P D ≠ []) :
    Calls Try.prog 3 #[v, u, .int .i64 D, .int .i64 a] w fun e w' => e = .returned (.bool true) ∧ Ext w w' := by
  have HHV := hide (fun W (v1 v2 : Value) (h1 : RulesAt W v1 R) (h2 : PosAt W v2 P) => heavy_any R P v1 v2 D W h1 h2)
  rw [hh] at HHV
  clear hh
  have HD1 := hide (fun W (v1 v2 : Value) (h1 : RulesAt W v1 threeR) (h2 : PosAt W v2 nearP) => Divide_yes threeR nearP v1 v2 1 W h1 h2 near_div.1)
  have HD := hide (fun W (v1 v2 : Value) (h1 : RulesAt W v1 R) (h2 : PosAt W v2 P) => Divide_yes R P v1 v2 D W h1 h2 he)
  obtain ⟨hck, d1, d2, -⟩ := perft_fine he
  obtain ⟨hV, hS⟩ := check_iff.1 hck
  have HLL : (divM R P D).length ≤ 1000000 := by
    unfold divM movesM
    rw [List.length_map]
    split
    · exact listM_len hV hS
    · simp
  have HXA : Hid (∀ x ∈ divM R P D, x.1 ∈ listM R P ∧ perftE R (makeM R P x.1) (D - 1) = 0 ∧ perftL R (makeM R P x.1) (D - 1) = x.2) := hide (fun x hx => part_law he hx)
  have HSM := hide (fun W (A : Option Addr) (c : Nat) (h : CellsAt W A ((divM R P D).flatMap partV)) => some_part (divM R P D) a A c W h HLL hps)
  have HA := hide (fun (x : PartM) (hm : x.1 ∈ listM R P) W (v1 v2 : Value) (h1 : RulesAt W v1 R) (h2 : PosAt W v2 P) => After_yes R P x.1 v1 v2 W h1 h2 hV hS hm)
  have HC : Hid (∀ (x : PartM), perftE R (makeM R P x.1) (D - 1) = 0 → perftL R (makeM R P x.1) (D - 1) = x.2 → ∀ W (v1 v2 : Value) (h1 : RulesAt W v1 R) (h2 : PosAt W v2 (makeM R P x.1)), Calls Try.prog 23 #[v1, v2, .int .i64 (D - 1)] W fun e w' => e = .returned (.tuple #[.int .i64 x.2, .int .i64 0]) ∧ Ext W w') := hide (fun x e1 e2 W v1 v2 h1 h2 => by
    have := PfCount_any R (makeM R P x.1) v1 v2 (D - 1) W h1 h2
    rw [e1, e2] at this
    exact this)
  have hw1 : IntKind.i64.wrap (D - 1) = D - 1 := by rw [IntKind.wrap_i64]; omega
  have t0 : (((divM R P D).length : Int) == 0) = false := by simpa using hps
  have hpos : ¬ (divM R P D).length = 0 := fun k => hps (List.eq_nil_of_length_eq_zero k)
  clear he hck hV hS hps HLL
  generalize divM R P D = ps at *
  have hR0 := hR
  have hP0 := hP
  obtain ⟨pA, pc, sA, sc, eA, ec, rfl, -⟩ := hR0
  obtain ⟨cA, cc, aA, ac, bA, bc, rfl, -⟩ := hP0
  go_enter Try.func3, Try.ntmps3
  go_wp2_with fail
  obtain ⟨xa, kR, kP⟩ := blks2 w #[.string R.name, .int .i64 R.width, .int .i64 R.height, .slice pA R.pieces.length pc, .slice sA R.start.length sc, .bool R.falls, .bool R.keeps, .slice eA R.ends.length ec, .int .i64 R.blocked, .int .i64 R.quiet, .int .i64 R.rept] 26 #[.slice cA P.cells.length cc, .slice aA P.hand0.length ac, .slice bA P.hand1.length bc, .int .i64 P.turn, .int .i64 P.quiet] 29
  replace hR := hR.ext xa
  replace hP := hP.ext xa
  have X := xa
  clear xa
  generalize ((w.alloc (.cells #[.string R.name, .int .i64 R.width, .int .i64 R.height, .slice pA R.pieces.length pc, .slice sA R.start.length sc, .bool R.falls, .bool R.keeps, .slice eA R.ends.length ec, .int .i64 R.blocked, .int .i64 R.quiet, .int .i64 R.rept] 26)).alloc (.cells #[.slice cA P.cells.length cc, .slice aA P.hand0.length ac, .slice bA P.hand1.length bc, .int .i64 P.turn, .int .i64 P.quiet] 29)) = w2 at *
  generalize w.heap.size + 1 = BP at *
  generalize w.heap.size = BR at *
  refine (counted_any _).mono ?_
  rintro e w3 ⟨rfl, x⟩
  replace hR := hR.ext x
  replace hP := hP.ext x
  replace kR := kR.ext x
  replace kP := kP.ext x
  replace X := ext_trans X x
  clear x
  go_wp2_with fail
  refine (plays_any _).mono ?_
  rintro e w4 ⟨rfl, x⟩
  replace hR := hR.ext x
  replace hP := hP.ext x
  replace kR := kR.ext x
  replace kP := kP.ext x
  replace X := ext_trans X x
  clear x
  go_wp2_with fail
  refine (three_any _).mono ?_
  rintro e w5 ⟨v1, rfl, h1, x⟩
  replace hR := hR.ext x
  replace hP := hP.ext x
  replace kR := kR.ext x
  replace kP := kP.ext x
  replace X := ext_trans X x
  clear x
  go_wp2_with fail
  refine (near_any _).mono ?_
  rintro e w6 ⟨v2, rfl, h2, x⟩
  replace hR := hR.ext x
  replace hP := hP.ext x
  replace kR := kR.ext x
  replace kP := kP.ext x
  replace h1 := h1.ext x
  replace X := ext_trans X x
  clear x
  replace h2 := h2.at_
  go_wp2_with fail
  refine (HD1.out _ _ _ h1 h2).mono ?_
  rintro e w7 ⟨v3, rfl, own3, x⟩
  replace hR := hR.ext x
  replace hP := hP.ext x
  replace kR := kR.ext x
  replace kP := kP.ext x
  replace h1 := h1.ext x
  replace h2 := h2.ext x
  replace X := ext_trans X x
  clear x
  obtain ⟨g3, c3, rfl, -⟩ := div_near own3
  clear own3
  clear h1 h2
  clear HD1
  have fR := kR.cell
  have fP := kP.cell
  go_wp2_with fail
  refine (HHV.out _ _ _ hR hP).mono ?_
  rintro e w8 ⟨rfl, x⟩
  replace hR := hR.ext x
  replace hP := hP.ext x
  replace kR := kR.ext x
  replace kP := kP.ext x
  replace X := ext_trans X x
  replace fR := kR.cell
  replace fP := kP.cell
  clear x
  clear HHV
  go_wp2_with fail
  refine (HD.out _ _ _ hR hP).mono ?_
  rintro e w9 ⟨v7, rfl, own7, x⟩
  replace hR := hR.ext x
  replace hP := hP.ext x
  replace kR := kR.ext x
  replace kP := kP.ext x
  replace X := ext_trans X x
  replace fR := kR.cell
  replace fP := kP.cell
  clear x
  obtain ⟨A7, c7, rfl, hrow⟩ := own7
  have hce := (own_cells hrow).1
  clear hrow HD
  clear fR fP
  go_wp2_with fail
  refine (HSM.out _ _ _ hce).mono ?_
  rintro e w10 ⟨m, hm, rfl, x⟩
  replace hR := hR.ext x
  replace hP := hP.ext x
  replace kR := kR.ext x
  replace kP := kP.ext x
  replace hce := hce.ext x
  replace X := ext_trans X x
  clear x
  have HX := hide (HXA.out m hm)
  clear hm HXA HSM t0
  clear hce
  have HA2 := hide (HA.out m HX.out.1)
  have HC2 := hide (HC.out m HX.out.2.1 HX.out.2.2)
  clear HA HC HX
  generalize makeM R P m.1 = Q at *
  have fR := kR.cell
  have fP := kP.cell
  obtain ⟨xa, kM⟩ := blks1 w10 #[.int .i64 m.1.src, .int .i64 m.1.dst, .int .i64 m.1.piece, .int .i64 m.2] 41
  replace hR := hR.ext xa
  replace hP := hP.ext xa
  replace kR := kR.ext xa
  replace kP := kP.ext xa
  replace X := ext_trans X xa
  have fR' := kR.cell
  have fP' := kP.cell
  clear xa
  go_wp2_with fail
  generalize (w10.alloc (.cells #[.int .i64 m.1.src, .int .i64 m.1.dst, .int .i64 m.1.piece, .int .i64 m.2] 41)) = w11 at *
  generalize w10.heap.size = BM at *
  replace fR := kR.cell
  clear fR'
  replace fP := kP.cell
  clear fP'
  have fM := kM.cell
  refine (HA2.out _ _ _ hR hP).mono ?_
  rintro e w12 ⟨v6, rfl, h6, x⟩
  replace hR := hR.ext x
  replace hP := hP.ext x
  replace kR := kR.ext x
  replace kP := kP.ext x
  replace kM := kM.ext x
  replace X := ext_trans X x
  replace fR := kR.cell
  replace fP := kP.cell
  replace fM := kM.cell
  clear x
  replace h6 := h6.at_
  have h6v := h6
  obtain ⟨cA6, cc6, aA6, ac6, bA6, bc6, rfl, -⟩ := h6v
  clear fM fP
  obtain ⟨xa, k6⟩ := blks1 w12 #[.slice cA6 Q.cells.length cc6, .slice aA6 Q.hand0.length ac6, .slice bA6 Q.hand1.length bc6, .int .i64 Q.turn, .int .i64 Q.quiet] 29
  replace hR := hR.ext xa
  replace hP := hP.ext xa
  replace kR := kR.ext xa
  replace kP := kP.ext xa
  replace kM := kM.ext xa
  replace h6 := h6.ext xa
  replace X := ext_trans X xa
  have fR' := kR.cell
  clear xa
  go_wp2_with fail
  generalize (w12.alloc (.cells #[.slice cA6 Q.cells.length cc6, .slice aA6 Q.hand0.length ac6, .slice bA6 Q.hand1.length bc6, .int .i64 Q.turn, .int .i64 Q.quiet] 29)) = w13 at *
  generalize w12.heap.size = B6 at *
  replace fR := kR.cell
  clear fR'
  have f6 := k6.cell
  refine (HC2.out _ _ _ hR h6).mono ?_
  rintro e w14 ⟨rfl, x⟩
  replace hR := hR.ext x
  replace hP := hP.ext x
  replace kR := kR.ext x
  replace kP := kP.ext x
  replace kM := kM.ext x
  replace h6 := h6.ext x
  replace k6 := k6.ext x
  replace X := ext_trans X x
  replace fR := kR.cell
  replace f6 := k6.cell
  clear x
  clear fR f6
  obtain ⟨xa, kE⟩ := blks1 w14 #[.int .i64 0, .int .i64 0] 32
  replace hR := hR.ext xa
  replace hP := hP.ext xa
  replace kR := kR.ext xa
  replace kP := kP.ext xa
  replace kM := kM.ext xa
  replace h6 := h6.ext xa
  replace k6 := k6.ext xa
  replace X := ext_trans X xa
  clear xa
  go_wp2_with fail
  generalize (w14.alloc (.cells #[.int .i64 0, .int .i64 0] 32)) = w15 at *
  generalize w14.heap.size = BE at *
  refine (fine_ok2 kE).mono ?_
  rintro e w16 ⟨rfl, x⟩
  replace hR := hR.ext x
  replace hP := hP.ext x
  replace kR := kR.ext x
  replace kP := kP.ext x
  replace kM := kM.ext x
  replace h6 := h6.ext x
  replace k6 := k6.ext x
  replace kE := kE.ext x
  replace X := ext_trans X x
  clear x
  clear kE
  have fM := kM.cell
  go_wp2
  all_goals go_ret
  all_goals exact ⟨by first | rfl | simp, X⟩
theorem perftAfter_law (v : Value) (R : RulesM) (u : Value) (P : PosM) (D a : Int) (w : World) (hR : RulesAt w v R) (hP : PosAt w u P) :
    Calls Try.prog 3 #[v, u, .int .i64 D, .int .i64 a] w fun e w' => e = .returned (.bool true) ∧ Ext w w' := by
  cases hh : heavyB R P D
  · by_cases he : divE R P D = 0
    · by_cases hps : divM R P D = []
      · exact perftAfter_none R P v u D a w hR hP hh he hps
      · exact perftAfter_some R P v u D a w hR hP hh he hps
    · exact perftAfter_bad R P v u D a w hR hP hh he
  · exact perftAfter_h1 R P v u D a w hR hP hh

end Go.Proofs.Ytmofipijjokjfaa
