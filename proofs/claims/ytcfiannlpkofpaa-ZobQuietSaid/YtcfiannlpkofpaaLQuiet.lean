/- Walk: the law ZobQuiet. -/
import Derived.Test.YtcfiannlpkofpaaKeyed
import Derived.RegionTactic
import Derived.Deep.DeepCutAuto
namespace Go.Proofs.Ytcfiannlpkofpaa
open Go.ChangeShapes Go.WideShapes Go.ChangeAt Go.RowKit Go.Shelf
set_option linter.unusedVariables false
def quietP (P : PosM) : PosM := { P with turn := 1 - P.turn, quiet := 0 }
theorem sound_quiet {R : RulesM} {P : PosM} (hS : Sound R P) : Sound R (quietP P) :=
  ⟨hS.area, hS.len0, hS.len1, hS.cells, hS.held0, hS.held1, by have := hS.turn; show 1 - P.turn = 0 ∨ 1 - P.turn = 1; omega, by show (0 : Int) ≤ 0 ∧ (0 : Int) ≤ 200; omega⟩
theorem u64_bd (x : Int) : 0 ≤ IntKind.u64.wrap x ∧ IntKind.u64.wrap x < 18446744073709551616 := by
  rw [IntKind.wrap_u64]; omega
theorem keyC_bd (cs : List Int) : ∀ k, 0 ≤ keyC cs k ∧ keyC cs k < 18446744073709551616
  | 0 => by show (0 : Int) ≤ 0 ∧ (0 : Int) < _; omega
  | k + 1 => by
    unfold keyC
    split
    · exact keyC_bd cs k
    · exact u64_bd _
theorem keyH_bd {base : Int} (hd : List Int) (p : Int) (hb : 0 ≤ base ∧ base < 18446744073709551616) : ∀ k, 0 ≤ keyH base hd p k ∧ keyH base hd p k < 18446744073709551616
  | 0 => hb
  | k + 1 => u64_bd _
theorem keyB_bd (P : PosM) : 0 ≤ keyB P ∧ keyB P < 18446744073709551616 := keyH_bd _ _ (keyH_bd _ _ (keyC_bd _ _) _) _
theorem sub_one {k m : Int} (hk : 0 ≤ k ∧ k < 18446744073709551616) (hm : 0 ≤ m ∧ m < 18446744073709551616) : IntKind.u64.wrap (IntKind.u64.wrap (k + m) - k) = m := by
  rw [IntKind.wrap_u64, IntKind.wrap_u64]; omega
theorem sub_two {k m : Int} (hk : 0 ≤ k ∧ k < 18446744073709551616) (hm : 0 ≤ m ∧ m < 18446744073709551616) : IntKind.u64.wrap (k - IntKind.u64.wrap (k + m)) = IntKind.u64.wrap (-m) := by
  rw [IntKind.wrap_u64, IntKind.wrap_u64, IntKind.wrap_u64]; omega
theorem mix_bd : 0 ≤ mixM 3000 ∧ mixM 3000 < 18446744073709551616 := by decide +kernel
theorem quiet_law0 {P : PosM} (h : P.turn = 0) : IntKind.u64.wrap (keyM (quietP P) - keyM P) = mixM 3000 := by
  have e : keyB (quietP P) = keyB P := rfl
  have e1 : keyM P = keyB P := by unfold keyM; rw [if_neg (by omega)]
  have e2 : keyM (quietP P) = IntKind.u64.wrap (keyB P + mixM 3000) := by unfold keyM; rw [if_pos (by show 1 - P.turn = 1; omega), e]
  rw [e1, e2]
  exact sub_one (keyB_bd P) mix_bd
theorem quiet_law1 {P : PosM} (h : P.turn = 1) : IntKind.u64.wrap (keyM (quietP P) - keyM P) = IntKind.u64.wrap (-mixM 3000) := by
  have e : keyB (quietP P) = keyB P := rfl
  have e1 : keyM P = IntKind.u64.wrap (keyB P + mixM 3000) := by unfold keyM; rw [if_pos h]
  have e2 : keyM (quietP P) = keyB P := by unfold keyM; rw [if_neg (by show ¬ 1 - P.turn = 1; omega), e]
  rw [e1, e2]
  exact sub_two (keyB_bd P) mix_bd
theorem posAt_quiet {w : World} {P : PosM} {a b c : Value} (h : PosAt w (.agg #[a, b, c, .int .i64 P.turn, .int .i64 P.quiet]) P) : PosAt w (.agg #[a, b, c, .int .i64 (1 - P.turn), .int .i64 0]) (quietP P) := by
  obtain ⟨cA, cc, aA, ac, bA, bc, e, h1, h2, h3, h4⟩ := h
  simp only [Value.agg.injEq, Array.mk.injEq, List.cons.injEq, and_true] at e
  obtain ⟨rfl, rfl, rfl⟩ := e
  exact ⟨cA, cc, aA, ac, bA, bc, rfl, h1, h2, h3, h4⟩
set_option maxHeartbeats 4000000 in
set_option maxRecDepth 100000 in
theorem zobQuiet_no (R : RulesM) (P : PosM) (v u : Value) (w : World) (hR : RulesAt w v R) (hP : PosAt w u P) (h : checkE R P ≠ 0) :
    Calls Try.prog 8 #[v, u] w fun e w' => e = .returned (.bool true) ∧ Ext w w' := by
  have hR0 := hR
  have hP0 := hP
  obtain ⟨pA, pc, sA, sc, eA, ec, rfl, -⟩ := hR0
  obtain ⟨cA, cc, aA, ac, bA, bc, rfl, -⟩ := hP0
  go_enter Try.func8, Try.ntmps8
  go_wp2_with fail
  obtain ⟨xa, kR, kP⟩ := blks2 w #[.string R.name, .int .i64 R.width, .int .i64 R.height, .slice pA R.pieces.length pc, .slice sA R.start.length sc, .bool R.falls, .bool R.keeps, .slice eA R.ends.length ec, .int .i64 R.blocked, .int .i64 R.quiet, .int .i64 R.rept] 26 #[.slice cA P.cells.length cc, .slice aA P.hand0.length ac, .slice bA P.hand1.length bc, .int .i64 P.turn, .int .i64 P.quiet] 36
  replace hR := hR.ext xa
  replace hP := hP.ext xa
  have X := xa
  clear xa
  generalize ((w.alloc (.cells #[.string R.name, .int .i64 R.width, .int .i64 R.height, .slice pA R.pieces.length pc, .slice sA R.start.length sc, .bool R.falls, .bool R.keeps, .slice eA R.ends.length ec, .int .i64 R.blocked, .int .i64 R.quiet, .int .i64 R.rept] 26)).alloc (.cells #[.slice cA P.cells.length cc, .slice aA P.hand0.length ac, .slice bA P.hand1.length bc, .int .i64 P.turn, .int .i64 P.quiet] 36)) = w2 at *
  generalize w.heap.size + 1 = BP at *
  generalize w.heap.size = BR at *
  refine (keyed_any _).mono ?_
  rintro e w3 ⟨rfl, x⟩
  replace hR := hR.ext x
  replace hP := hP.ext x
  replace kR := kR.ext x
  replace kP := kP.ext x
  replace X := ext_trans X x
  clear x
  have fR := kR.cell
  have fP := kP.cell
  go_wp2_with fail
  have hn : (checkE R P != 0) = true := by simpa using h
  have HN := hide (fun W (v1 v2 : Value) (h1 : RulesAt W v1 R) (h2 : PosAt W v2 P) => Key_any R P v1 v2 W h1 h2)
  rw [if_neg h] at HN
  clear h
  generalize checkE R P = E at *
  refine (HN.out _ _ _ hR hP).mono ?_
  rintro e w4 ⟨rfl, x⟩
  replace hR := hR.ext x
  replace hP := hP.ext x
  replace kR := kR.ext x
  replace kP := kP.ext x
  replace X := ext_trans X x
  replace fR := kR.cell
  replace fP := kP.cell
  clear x
  clear fR fP
  go_wp2
  go_ret
  exact ⟨rfl, X⟩
set_option maxHeartbeats 4000000 in
set_option maxRecDepth 100000 in
theorem zobQuiet_yes (R : RulesM) (P : PosM) (v u : Value) (w : World) (hR : RulesAt w v R) (hP : PosAt w u P) (hV : Valid R) (hS : Sound R P) :
    Calls Try.prog 8 #[v, u] w fun e w' => e = .returned (.bool true) ∧ Ext w w' := by
  have hR0 := hR
  have hP0 := hP
  obtain ⟨pA, pc, sA, sc, eA, ec, rfl, -⟩ := hR0
  obtain ⟨cA, cc, aA, ac, bA, bc, rfl, -⟩ := hP0
  go_enter Try.func8, Try.ntmps8
  go_wp2_with fail
  obtain ⟨xa, kR, kP⟩ := blks2 w #[.string R.name, .int .i64 R.width, .int .i64 R.height, .slice pA R.pieces.length pc, .slice sA R.start.length sc, .bool R.falls, .bool R.keeps, .slice eA R.ends.length ec, .int .i64 R.blocked, .int .i64 R.quiet, .int .i64 R.rept] 26 #[.slice cA P.cells.length cc, .slice aA P.hand0.length ac, .slice bA P.hand1.length bc, .int .i64 P.turn, .int .i64 P.quiet] 36
  replace hR := hR.ext xa
  replace hP := hP.ext xa
  have X := xa
  clear xa
  generalize ((w.alloc (.cells #[.string R.name, .int .i64 R.width, .int .i64 R.height, .slice pA R.pieces.length pc, .slice sA R.start.length sc, .bool R.falls, .bool R.keeps, .slice eA R.ends.length ec, .int .i64 R.blocked, .int .i64 R.quiet, .int .i64 R.rept] 26)).alloc (.cells #[.slice cA P.cells.length cc, .slice aA P.hand0.length ac, .slice bA P.hand1.length bc, .int .i64 P.turn, .int .i64 P.quiet] 36)) = w2 at *
  generalize w.heap.size + 1 = BP at *
  generalize w.heap.size = BR at *
  have HK := hide (fun (Q : PosM) (hQ : Sound R Q) W (v1 v2 : Value) (h1 : RulesAt W v1 R) (h2 : PosAt W v2 Q) => by
    have h := Key_any R Q v1 v2 W h1 h2
    rw [check_iff.2 ⟨hV, hQ⟩] at h
    exact h)
  have HS := hide hS
  have HT := hide hS.turn
  have ht0 : 0 ≤ P.turn := by have := hS.turn; omega
  have ht1 : P.turn ≤ 1 := by have := hS.turn; omega
  clear hV hS
  refine (keyed_any _).mono ?_
  rintro e w3 ⟨rfl, x⟩
  replace hR := hR.ext x
  replace hP := hP.ext x
  replace kR := kR.ext x
  replace kP := kP.ext x
  replace X := ext_trans X x
  clear x
  have fR := kR.cell
  have fP := kP.cell
  go_wp2_with fail
  refine (HK.out P HS.out _ _ _ hR hP).mono ?_
  rintro e w4 ⟨rfl, x⟩
  replace hR := hR.ext x
  replace hP := hP.ext x
  replace kR := kR.ext x
  replace kP := kP.ext x
  replace X := ext_trans X x
  replace fR := kR.cell
  replace fP := kP.cell
  clear x
  clear fR
  have hbp := hide kP.lt
  have H4 := hide (fun W (h : Ext w4 W) => And.intro (hR.ext h) (And.intro (hP.ext h) (And.intro (kR.ext h) (And.intro (kP.ext h) (ext_trans X h)))))
  obtain ⟨xa, kQ⟩ := blks1 w4 #[.slice cA P.cells.length cc, .slice aA P.hand0.length ac, .slice bA P.hand1.length bc, .int .i64 P.turn, .int .i64 P.quiet] 36
  have g := (kP.ext xa).cell
  have hlt : w4.heap.size ≤ w4.heap.size := Nat.le_refl _
  clear hR hP kR kP X
  go_upto_region 7 with fail
  clear fP
  generalize hw5 : w4.alloc (.cells #[.slice cA P.cells.length cc, .slice aA P.hand0.length ac, .slice bA P.hand1.length bc, .int .i64 P.turn, .int .i64 P.quiet] 36) = w5 at *
  have HW5 := hide hw5
  clear hw5
  have f := kQ.cell
  have z := kQ.frozen
  generalize hBQ : w4.heap.size = BQ at *
  have HBQ := hide hBQ
  clear hBQ
  go_cut [26] (fun s wx => s = .int .i64 (1 - P.turn) ∧ Blk wx BQ 36 #[.slice cA P.cells.length cc, .slice aA P.hand0.length ac, .slice bA P.hand1.length bc, .int .i64 (1 - P.turn), .int .i64 0] ∧ Ext w4 wx)
  case first =>
    have hne : ¬ BQ = BP := by have := HBQ.out; have := hbp.out; omega
    have hne' : ¬ BP = BQ := by have := HBQ.out; have := hbp.out; omega
    go_region
    all_goals go_wp2_with fail
    all_goals go_meet
    all_goals exact ⟨rfl, (blk_put (blk_put kQ (i := 4) (u := .int .i64 0) rfl) (i := 3) (u := .int .i64 (1 - P.turn)) rfl).drew, Below.drew (ext_set (ext_set xa (p := ⟨BQ, 4, none⟩) (by have := HBQ.out; show w4.heap.size ≤ BQ; omega) _) (p := ⟨BQ, 3, none⟩) (by have := HBQ.out; show w4.heap.size ≤ BQ; omega) _)⟩
  case rest =>
    obtain ⟨rfl, kQ', x⟩ := hcut
    obtain ⟨hR, hP, kR, kP, X⟩ := H4.out _ x
    have hQ := posAt_quiet hP
    clear f z g xa kQ x HW5 H4 hlt
    have fR := kR.cell
    have fQ := kQ'.cell
    have fP := kP.cell
    go_wp2_with fail
    refine (HK.out (quietP P) (sound_quiet HS.out) _ _ _ hR hQ).mono ?_
    rintro e w11 ⟨rfl, x⟩
    replace hR := hR.ext x
    replace hP := hP.ext x
    replace kR := kR.ext x
    replace kP := kP.ext x
    replace kQ' := kQ'.ext x
    replace hQ := hQ.ext x
    replace X := ext_trans X x
    replace fR := kR.cell
    replace fQ := kQ'.cell
    replace fP := kP.cell
    clear x
    clear fR fQ
    go_wp2_with fail
    refine (Mix_any 3000 _ (by decide) (by decide)).mono ?_
    rintro e w' ⟨rfl, rfl⟩
    rcases HT.out with ht | ht
    · have HE := hide (quiet_law0 ht)
      have t1 : (P.turn == 1) = false := by simp [ht]
      clear ht
      generalize keyM (quietP P) = C at *
      generalize keyM P = B at *
      generalize mixM 3000 = M at *
      go_wp2
      go_ret
      exact ⟨by rw [HE.out]; simp, X⟩
    · have HE := hide (quiet_law1 ht)
      have t1 : (P.turn == 1) = true := by simp [ht]
      clear ht
      generalize keyM (quietP P) = C at *
      generalize keyM P = B at *
      generalize mixM 3000 = M at *
      go_wp2
      go_ret
      exact ⟨by rw [HE.out]; simp, X⟩
theorem zobQuiet_law (v : Value) (R : RulesM) (u : Value) (P : PosM) (w : World) (hR : RulesAt w v R) (hP : PosAt w u P) :
    Calls Try.prog 8 #[v, u] w fun e w' => e = .returned (.bool true) ∧ Ext w w' := by
  by_cases h : checkE R P = 0
  · obtain ⟨hV, hS⟩ := check_iff.1 h
    exact zobQuiet_yes R P v u w hR hP hV hS
  · exact zobQuiet_no R P v u w hR hP h

end Go.Proofs.Ytcfiannlpkofpaa
