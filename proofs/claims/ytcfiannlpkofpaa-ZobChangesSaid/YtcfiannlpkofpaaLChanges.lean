/- Walk: the law ZobChanges. -/
import Derived.Test.YtcfiannlpkofpaaKeyed
import Derived.Test.YtcfiannlpkofpaaPlays
import Derived.Test.YtcfiannlpkofpaaSome
namespace Go.Proofs.Ytcfiannlpkofpaa
open Go.ChangeShapes Go.WideShapes Go.ChangeAt Go.RowKit Go.Shelf
set_option linter.unusedVariables false
theorem key_yes (R : RulesM) (P : PosM) (v u : Value) (w : World) (hR : RulesAt w v R) (hP : PosAt w u P) (hV : Valid R) (hS : Sound R P) :
    Calls Try.prog 34 #[v, u] w fun e w' => e = .returned (.tuple #[.int .u64 (keyM P), .int .i64 0]) ∧ Ext w w' := by
  have h := Key_any R P v u w hR hP
  rw [check_iff.2 ⟨hV, hS⟩] at h
  exact h
set_option maxHeartbeats 4000000 in
set_option maxRecDepth 100000 in
theorem zobChanges_no (R : RulesM) (P : PosM) (v u : Value) (a : Int) (w : World) (hR : RulesAt w v R) (hP : PosAt w u P) (h : checkE R P ≠ 0) :
    Calls Try.prog 10 #[v, u, .int .i64 a] w fun e w' => e = .returned (.bool true) ∧ Ext w w' := by
  have hR0 := hR
  have hP0 := hP
  obtain ⟨pA, pc, sA, sc, eA, ec, rfl, -⟩ := hR0
  obtain ⟨cA, cc, aA, ac, bA, bc, rfl, -⟩ := hP0
  go_enter Try.func10, Try.ntmps10
  go_wp2_with fail
  obtain ⟨xa, kR, kP⟩ := blks2 w #[.string R.name, .int .i64 R.width, .int .i64 R.height, .slice pA R.pieces.length pc, .slice sA R.start.length sc, .bool R.falls, .bool R.keeps, .slice eA R.ends.length ec, .int .i64 R.blocked, .int .i64 R.quiet, .int .i64 R.rept] 26 #[.slice cA P.cells.length cc, .slice aA P.hand0.length ac, .slice bA P.hand1.length bc, .int .i64 P.turn, .int .i64 P.quiet] 36
  replace hR := hR.ext xa
  replace hP := hP.ext xa
  have X := xa
  clear xa
  generalize ((w.alloc (.cells #[.string R.name, .int .i64 R.width, .int .i64 R.height, .slice pA R.pieces.length pc, .slice sA R.start.length sc, .bool R.falls, .bool R.keeps, .slice eA R.ends.length ec, .int .i64 R.blocked, .int .i64 R.quiet, .int .i64 R.rept] 26)).alloc (.cells #[.slice cA P.cells.length cc, .slice aA P.hand0.length ac, .slice bA P.hand1.length bc, .int .i64 P.turn, .int .i64 P.quiet] 36)) = w2 at *
  generalize w.heap.size + 1 = BP at *
  generalize w.heap.size = BR at *
  refine (keyed_any _).mono ?_
  rintro e w3 ⟨rfl, x⟩
  replace hR := hR.ext x
  replace hP := hP.ext x
  replace kR := kR.ext x
  replace kP := kP.ext x
  replace X := ext_trans X x
  clear x
  go_wp2_with fail
  refine (plays_any _).mono ?_
  rintro e w4 ⟨rfl, x⟩
  replace hR := hR.ext x
  replace hP := hP.ext x
  replace kR := kR.ext x
  replace kP := kP.ext x
  replace X := ext_trans X x
  clear x
  have fR := kR.cell
  have fP := kP.cell
  go_wp2_with fail
  have hn : (checkE R P != 0) = true := by simpa using h
  have hn2 : (checkE R P == 0) = false := by simpa using h
  have HN := hide (fun W (v1 v2 : Value) (h1 : RulesAt W v1 R) (h2 : PosAt W v2 P) => All_no R P v1 v2 W h1 h2 h)
  clear h
  generalize checkE R P = E at *
  refine (HN.out _ _ _ hR hP).mono ?_
  rintro e w5 ⟨rfl, x⟩
  replace hR := hR.ext x
  replace hP := hP.ext x
  replace kR := kR.ext x
  replace kP := kP.ext x
  replace X := ext_trans X x
  replace fR := kR.cell
  replace fP := kP.cell
  clear x
  clear fR fP
  go_wp2
  go_ret
  exact ⟨rfl, X⟩
set_option maxHeartbeats 4000000 in
set_option maxRecDepth 100000 in
theorem zobChanges_yes (R : RulesM) (P : PosM) (v u : Value) (a : Int) (w : World) (hR : RulesAt w v R) (hP : PosAt w u P) (hV : Valid R) (hS : Sound R P) :
    Calls Try.prog 10 #[v, u, .int .i64 a] w fun e w' => e = .returned (.bool true) ∧ Ext w w' := by
  have hR0 := hR
  have hP0 := hP
  obtain ⟨pA, pc, sA, sc, eA, ec, rfl, -⟩ := hR0
  obtain ⟨cA, cc, aA, ac, bA, bc, rfl, -⟩ := hP0
  go_enter Try.func10, Try.ntmps10
  go_wp2_with fail
  obtain ⟨xa, kR, kP⟩ := blks2 w #[.string R.name, .int .i64 R.width, .int .i64 R.height, .slice pA R.pieces.length pc, .slice sA R.start.length sc, .bool R.falls, .bool R.keeps, .slice eA R.ends.length ec, .int .i64 R.blocked, .int .i64 R.quiet, .int .i64 R.rept] 26 #[.slice cA P.cells.length cc, .slice aA P.hand0.length ac, .slice bA P.hand1.length bc, .int .i64 P.turn, .int .i64 P.quiet] 36
  replace hR := hR.ext xa
  replace hP := hP.ext xa
  have X := xa
  clear xa
  generalize ((w.alloc (.cells #[.string R.name, .int .i64 R.width, .int .i64 R.height, .slice pA R.pieces.length pc, .slice sA R.start.length sc, .bool R.falls, .bool R.keeps, .slice eA R.ends.length ec, .int .i64 R.blocked, .int .i64 R.quiet, .int .i64 R.rept] 26)).alloc (.cells #[.slice cA P.cells.length cc, .slice aA P.hand0.length ac, .slice bA P.hand1.length bc, .int .i64 P.turn, .int .i64 P.quiet] 36)) = w2 at *
  generalize w.heap.size + 1 = BP at *
  generalize w.heap.size = BR at *
  have HA := hide (fun (m : MoveM) (hm : m ∈ listM R P) W (v1 v2 : Value) (h1 : RulesAt W v1 R) (h2 : PosAt W v2 P) => After_yes R P m v1 v2 W h1 h2 hV hS hm)
  have HC := hide (fun (m : MoveM) (hm : m ∈ listM R P) W (v1 v2 : Value) (h1 : RulesAt W v1 R) (h2 : PosAt W v2 P) => Change_yes R P m v1 v2 W h1 h2 hV hS hm)
  have HK := hide (fun (m : MoveM) (hm : m ∈ listM R P) W (v1 v2 : Value) (h1 : RulesAt W v1 R) (h2 : PosAt W v2 (makeM R P m)) => key_yes R (makeM R P m) v1 v2 W h1 h2 hV (sound_make hV hS (mem_listM.1 hm)))
  have HL := hide (fun W (v1 v2 : Value) (h1 : RulesAt W v1 R) (h2 : PosAt W v2 P) => All_yes R P v1 v2 W h1 h2 hV hS)
  have HLL := hide (listM_len hV hS)
  clear hV hS
  generalize listM R P = L at *
  refine (keyed_any _).mono ?_
  rintro e w3 ⟨rfl, x⟩
  replace hR := hR.ext x
  replace hP := hP.ext x
  replace kR := kR.ext x
  replace kP := kP.ext x
  replace X := ext_trans X x
  clear x
  go_wp2_with fail
  refine (plays_any _).mono ?_
  rintro e w4 ⟨rfl, x⟩
  replace hR := hR.ext x
  replace hP := hP.ext x
  replace kR := kR.ext x
  replace kP := kP.ext x
  replace X := ext_trans X x
  clear x
  have fR := kR.cell
  have fP := kP.cell
  go_wp2_with fail
  refine (HL.out _ _ _ hR hP).mono ?_
  rintro e w5 ⟨v5, rfl, h5, x⟩
  replace hR := hR.ext x
  replace hP := hP.ext x
  replace kR := kR.ext x
  replace kP := kP.ext x
  replace X := ext_trans X x
  replace fR := kR.cell
  replace fP := kP.cell
  clear x
  replace h5 := h5.at_
  have h5v := h5
  obtain ⟨A5, c5, rfl, -⟩ := h5v
  clear HL
  by_cases hL : L = []
  · subst hL
    clear fR fP
    go_wp2
    go_ret
    exact ⟨rfl, X⟩
  have hpos : ¬ L.length = 0 := fun k => hL (List.eq_nil_of_length_eq_zero k)
  have t0 : ((L.length : Int) == 0) = false := by simpa using hL
  have HSM := hide (fun W v (h : MovesAt W v L) => some_move L a v W h HLL.out hL)
  clear hL hpos
  clear fR fP
  go_wp2_with fail
  refine (HSM.out _ _ h5).mono ?_
  rintro e w6 ⟨m, hm, rfl, x⟩
  replace hR := hR.ext x
  replace hP := hP.ext x
  replace kR := kR.ext x
  replace kP := kP.ext x
  replace h5 := h5.ext x
  replace X := ext_trans X x
  clear x
  have HM := hide hm
  clear hm
  have HA2 := hide (HA.out m HM.out)
  have HC2 := hide (HC.out m HM.out)
  have HK2 := hide (HK.out m HM.out)
  clear HA HC HK HSM HM t0
  generalize makeM R P m = Q at *
  have fR := kR.cell
  have fP := kP.cell
  obtain ⟨xa, kM⟩ := blks1 w6 #[.int .i64 m.src, .int .i64 m.dst, .int .i64 m.piece] 45
  replace hR := hR.ext xa
  replace hP := hP.ext xa
  replace kR := kR.ext xa
  replace kP := kP.ext xa
  replace h5 := h5.ext xa
  replace X := ext_trans X xa
  have fR' := kR.cell
  have fP' := kP.cell
  clear xa
  go_wp2_with fail
  generalize (w6.alloc (.cells #[.int .i64 m.src, .int .i64 m.dst, .int .i64 m.piece] 45)) = w7 at *
  generalize w6.heap.size = BM at *
  replace fR := kR.cell
  clear fR'
  replace fP := kP.cell
  clear fP'
  have fM := kM.cell
  refine (HA2.out _ _ _ hR hP).mono ?_
  rintro e w8 ⟨v6, rfl, h6, x⟩
  replace hR := hR.ext x
  replace hP := hP.ext x
  replace kR := kR.ext x
  replace kP := kP.ext x
  replace h5 := h5.ext x
  replace kM := kM.ext x
  replace X := ext_trans X x
  replace fR := kR.cell
  replace fP := kP.cell
  replace fM := kM.cell
  clear x
  replace h6 := h6.at_
  have h6v := h6
  obtain ⟨cA6, cc6, aA6, ac6, bA6, bc6, rfl, -⟩ := h6v
  obtain ⟨xa, k6⟩ := blks1 w8 #[.slice cA6 Q.cells.length cc6, .slice aA6 Q.hand0.length ac6, .slice bA6 Q.hand1.length bc6, .int .i64 Q.turn, .int .i64 Q.quiet] 36
  replace hR := hR.ext xa
  replace hP := hP.ext xa
  replace kR := kR.ext xa
  replace kP := kP.ext xa
  replace h5 := h5.ext xa
  replace kM := kM.ext xa
  replace h6 := h6.ext xa
  replace X := ext_trans X xa
  have fR' := kR.cell
  have fP' := kP.cell
  have fM' := kM.cell
  clear xa
  go_wp2_with fail
  generalize (w8.alloc (.cells #[.slice cA6 Q.cells.length cc6, .slice aA6 Q.hand0.length ac6, .slice bA6 Q.hand1.length bc6, .int .i64 Q.turn, .int .i64 Q.quiet] 36)) = w9 at *
  generalize w8.heap.size = B6 at *
  replace fR := kR.cell
  clear fR'
  replace fP := kP.cell
  clear fP'
  replace fM := kM.cell
  clear fM'
  have f6 := k6.cell
  refine (HK2.out _ _ _ hR h6).mono ?_
  rintro e w10 ⟨rfl, x⟩
  replace hR := hR.ext x
  replace hP := hP.ext x
  replace kR := kR.ext x
  replace kP := kP.ext x
  replace h5 := h5.ext x
  replace kM := kM.ext x
  replace h6 := h6.ext x
  replace k6 := k6.ext x
  replace X := ext_trans X x
  replace fR := kR.cell
  replace fP := kP.cell
  replace fM := kM.cell
  replace f6 := k6.cell
  clear x
  go_wp2_with fail
  refine (HC2.out _ _ _ hR hP).mono ?_
  rintro e w11 ⟨rfl, x⟩
  replace hR := hR.ext x
  replace hP := hP.ext x
  replace kR := kR.ext x
  replace kP := kP.ext x
  replace h5 := h5.ext x
  replace kM := kM.ext x
  replace h6 := h6.ext x
  replace k6 := k6.ext x
  replace X := ext_trans X x
  replace fR := kR.cell
  replace fP := kP.cell
  replace fM := kM.cell
  replace f6 := k6.cell
  clear x
  clear fR fP fM f6
  obtain ⟨xa, kE⟩ := blks1 w11 #[.int .i64 0, .int .i64 0, .int .i64 0] 28
  replace hR := hR.ext xa
  replace hP := hP.ext xa
  replace kR := kR.ext xa
  replace kP := kP.ext xa
  replace h5 := h5.ext xa
  replace kM := kM.ext xa
  replace h6 := h6.ext xa
  replace k6 := k6.ext xa
  replace X := ext_trans X xa
  clear xa
  go_wp2_with fail
  generalize (w11.alloc (.cells #[.int .i64 0, .int .i64 0, .int .i64 0] 28)) = w12 at *
  generalize w11.heap.size = BE at *
  refine (fine_ext (fine_any (some ⟨BE, 0, none⟩) 3 3 [0, 0, 0] _ rfl (by omega) (blk_ints kE))).mono ?_
  rintro e w13 ⟨rfl, x⟩
  replace hR := hR.ext x
  replace hP := hP.ext x
  replace kR := kR.ext x
  replace kP := kP.ext x
  replace h5 := h5.ext x
  replace kM := kM.ext x
  replace h6 := h6.ext x
  replace k6 := k6.ext x
  replace kE := kE.ext x
  replace X := ext_trans X x
  clear x
  rw [show allZero [0, 0, 0] = true from rfl]
  clear kE
  go_wp2
  go_ret
  exact ⟨rfl, X⟩
theorem zobChanges_law (v : Value) (R : RulesM) (u : Value) (P : PosM) (a : Int) (w : World) (hR : RulesAt w v R) (hP : PosAt w u P) :
    Calls Try.prog 10 #[v, u, .int .i64 a] w fun e w' => e = .returned (.bool true) ∧ Ext w w' := by
  by_cases h : checkE R P = 0
  · obtain ⟨hV, hS⟩ := check_iff.1 h
    exact zobChanges_yes R P v u a w hR hP hV hS
  · exact zobChanges_no R P v u a w hR hP h

end Go.Proofs.Ytcfiannlpkofpaa
