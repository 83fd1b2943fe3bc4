/- Walk: the law MovesExchanged. -/
import Derived.Test.YtcfiannlpkofpaaPlays
import Derived.Test.YtcfiannlpkofpaaExchP
import Derived.Test.YtcfiannlpkofpaaRegionK
import Derived.Deep.QuietTactic
import Derived.BigQuiet
namespace Go.Proofs.Ytcfiannlpkofpaa
open Go.ChangeShapes Go.WideShapes Go.ChangeAt Go.RowKit Go.Shelf
set_option linter.unusedVariables false
set_option linter.unusedSimpArgs false
structure From (a b : World) : Prop where
  x : Ext a b
theorem From.ext {a b c : World} (h : From a b) (k : Ext b c) : From a c := ⟨ext_trans h.x k⟩
/-- Rules without Falls. -/
def noFalls (R : RulesM) : RulesM := { R with falls := false }
theorem move_sq2 {R : RulesM} {P : PosM} {m : MoveM} (hV : Valid R) (hS : Sound R P) (h : m ∈ listM R P) : m.src < R.width * R.height ∧ m.dst < R.width * R.height := by
  have ha := hS.area
  have har := area_bd _ _ hV.side
  rcases rawM_cases hV hS (mem_listM.1 h) with ⟨d, q, rfl, hc, -⟩ | ⟨s, d, q, rfl, hc, -, -⟩
  · have := hc.dst
    refine ⟨?_, ?_⟩ <;> simp <;> omega
  · have := hc.dst
    have := hc.src
    refine ⟨?_, ?_⟩ <;> simp <;> omega
set_option maxHeartbeats 4000000 in
theorem turn_any (a b s : Int) (B : Nat) (w : World) (h : okSide a b) (s1 : s < a * b) (r1 : w.cell? ⟨B, 1, none⟩ = some (.int .i64 a)) (r2 : w.cell? ⟨B, 2, none⟩ = some (.int .i64 b)) :
    Calls Try.prog 32 #[.int .i64 s, .pointer (some ⟨B, 0, none⟩)] w fun e w' => e = .returned (.int .i64 (turnI a b s)) ∧ Ext w w' := by
  obtain ⟨a0, a1, b0, b1⟩ := h
  by_cases hs : s < 0
  · have HE := hide (show turnI a b s = s by unfold turnI; rw [if_pos hs])
    go_enter Try.func32, Try.ntmps32
    go_wp2
    go_ret
    exact ⟨by rw [HE.out]; rfl, Below.refl _ _⟩
  · have HE := hide (show turnI a b s = (b - 1 - s / a) * a + s % a by unfold turnI; rw [if_neg hs])
    have h0 : 0 ≤ s := by omega
    clear hs
    rcases (by omega : a = 1 ∨ a = 2 ∨ a = 3 ∨ a = 4 ∨ a = 5 ∨ a = 6 ∨ a = 7 ∨ a = 8) with rfl | rfl | rfl | rfl | rfl | rfl | rfl | rfl
    all_goals
      clear a0 a1
      go_enter Try.func32, Try.ntmps32
      go_wp2_with fail
      go_quiet (fail)
      go_wp2
      go_ret
      refine ⟨?_, ext_drewN (Below.refl _ _) _⟩
      rw [HE.out]
      refine (show Ending.returned (.int .i64 _) = Ending.returned (.int .i64 _) from ret_int ?_)
      omega
set_option maxHeartbeats 4000000 in
set_option maxRecDepth 100000 in
theorem movesExchanged_no (R : RulesM) (P : PosM) (v u : Value) (w : World) (hR0 : RulesAt w v R) (hP : PosAt w u P) (h : checkE (noFalls R) P ≠ 0) :
    Calls Try.prog 7 #[v, u] w fun e w' => e = .returned (.bool true) ∧ Ext w w' := by
  have hP0 := hP
  obtain ⟨pA, pc, sA, sc, eA, ec, rfl, hr1⟩ := hR0
  obtain ⟨cA, cc, aA, ac, bA, bc, rfl, -⟩ := hP0
  have hR : RulesAt w (.agg #[.string R.name, .int .i64 R.width, .int .i64 R.height, .slice pA R.pieces.length pc, .slice sA R.start.length sc, .bool false, .bool R.keeps, .slice eA R.ends.length ec, .int .i64 R.blocked, .int .i64 R.quiet, .int .i64 R.rept]) (noFalls R) := ⟨pA, pc, sA, sc, eA, ec, rfl, hr1⟩
  clear hr1
  go_enter Try.func7, Try.ntmps7
  go_wp2_with fail
  obtain ⟨xa, kR, kP⟩ := blks2 w #[.string R.name, .int .i64 R.width, .int .i64 R.height, .slice pA R.pieces.length pc, .slice sA R.start.length sc, .bool false, .bool R.keeps, .slice eA R.ends.length ec, .int .i64 R.blocked, .int .i64 R.quiet, .int .i64 R.rept] 26 #[.slice cA P.cells.length cc, .slice aA P.hand0.length ac, .slice bA P.hand1.length bc, .int .i64 P.turn, .int .i64 P.quiet] 36
  replace hR := hR.ext xa
  replace hP := hP.ext xa
  have X := xa
  clear xa
  generalize ((w.alloc (.cells #[.string R.name, .int .i64 R.width, .int .i64 R.height, .slice pA R.pieces.length pc, .slice sA R.start.length sc, .bool false, .bool R.keeps, .slice eA R.ends.length ec, .int .i64 R.blocked, .int .i64 R.quiet, .int .i64 R.rept] 26)).alloc (.cells #[.slice cA P.cells.length cc, .slice aA P.hand0.length ac, .slice bA P.hand1.length bc, .int .i64 P.turn, .int .i64 P.quiet] 36)) = w2 at *
  generalize w.heap.size + 1 = BP at *
  generalize w.heap.size = BR at *
  refine (three_any _).mono ?_
  rintro e w3 ⟨v1, rfl, h1, x⟩
  replace hR := hR.ext x
  replace hP := hP.ext x
  replace kR := kR.ext x
  replace kP := kP.ext x
  replace X := ext_trans X x
  clear x
  go_wp2_with fail
  refine (near_any _).mono ?_
  rintro e w4 ⟨v2, rfl, h2, x⟩
  replace hR := hR.ext x
  replace hP := hP.ext x
  replace kR := kR.ext x
  replace kP := kP.ext x
  replace h1 := h1.ext x
  replace X := ext_trans X x
  clear x
  replace h2 := h2.at_
  go_wp2_with fail
  refine (Other_yes threeR nearP _ _ _ h1 h2 valid_three sound_near).mono ?_
  rintro e w5 ⟨v5, rfl, h5, x⟩
  replace hR := hR.ext x
  replace hP := hP.ext x
  replace kR := kR.ext x
  replace kP := kP.ext x
  replace h1 := h1.ext x
  replace h2 := h2.ext x
  replace X := ext_trans X x
  clear x
  rw [other_near] at h5
  obtain ⟨cA5, cc5, aA5, ac5, bA5, bc5, e5, -⟩ := h5
  have e5' : v5 = .agg #[.slice cA5 9 cc5, .slice aA5 1 ac5, .slice bA5 1 bc5, .int .i64 1, .int .i64 0] := e5
  subst e5'
  clear e5
  clear h1 h2
  obtain ⟨xa, k5⟩ := blks1 w5 #[.slice cA5 9 cc5, .slice aA5 1 ac5, .slice bA5 1 bc5, .int .i64 1, .int .i64 0] 36
  replace hR := hR.ext xa
  replace hP := hP.ext xa
  replace kR := kR.ext xa
  replace kP := kP.ext xa
  replace X := ext_trans X xa
  clear xa
  go_wp2_with fail
  generalize (w5.alloc (.cells #[.slice cA5 9 cc5, .slice aA5 1 ac5, .slice bA5 1 bc5, .int .i64 1, .int .i64 0] 36)) = w6 at *
  generalize w5.heap.size = B5 at *
  have f5 := k5.cell
  go_wp2_with fail
  refine (plays_any _).mono ?_
  rintro e w7 ⟨rfl, x⟩
  replace hR := hR.ext x
  replace hP := hP.ext x
  replace kR := kR.ext x
  replace kP := kP.ext x
  replace k5 := k5.ext x
  replace X := ext_trans X x
  replace f5 := k5.cell
  clear x
  clear f5
  clear k5
  have fR := kR.cell
  have fP := kP.cell
  go_wp2_with fail
  have hn : (checkE (noFalls R) P != 0) = true := by simpa using h
  have HN := hide (fun W (v1 v2 : Value) (h1 : RulesAt W v1 (noFalls R)) (h2 : PosAt W v2 P) => All_no (noFalls R) P v1 v2 W h1 h2 h)
  clear h
  generalize checkE (noFalls R) P = E at *
  refine (HN.out _ _ _ hR hP).mono ?_
  rintro e w8 ⟨rfl, x⟩
  replace hR := hR.ext x
  replace hP := hP.ext x
  replace kR := kR.ext x
  replace kP := kP.ext x
  replace X := ext_trans X x
  replace fR := kR.cell
  replace fP := kP.cell
  clear x
  clear fR fP
  go_wp2
  go_ret
  exact ⟨rfl, X⟩
set_option maxHeartbeats 4000000 in
set_option maxRecDepth 100000 in
theorem movesExchanged_yes (R : RulesM) (P : PosM) (v u : Value) (w : World) (hR0 : RulesAt w v R) (hP : PosAt w u P) (hV : Valid (noFalls R)) (hS : Sound (noFalls R) P) :
    Calls Try.prog 7 #[v, u] w fun e w' => e = .returned (.bool true) ∧ Ext w w' := by
  have hP0 := hP
  obtain ⟨pA, pc, sA, sc, eA, ec, rfl, hr1⟩ := hR0
  obtain ⟨cA, cc, aA, ac, bA, bc, rfl, -⟩ := hP0
  have hR : RulesAt w (.agg #[.string R.name, .int .i64 R.width, .int .i64 R.height, .slice pA R.pieces.length pc, .slice sA R.start.length sc, .bool false, .bool R.keeps, .slice eA R.ends.length ec, .int .i64 R.blocked, .int .i64 R.quiet, .int .i64 R.rept]) (noFalls R) := ⟨pA, pc, sA, sc, eA, ec, rfl, hr1⟩
  clear hr1
  go_enter Try.func7, Try.ntmps7
  go_wp2_with fail
  obtain ⟨xa, kR, kP⟩ := blks2 w #[.string R.name, .int .i64 R.width, .int .i64 R.height, .slice pA R.pieces.length pc, .slice sA R.start.length sc, .bool false, .bool R.keeps, .slice eA R.ends.length ec, .int .i64 R.blocked, .int .i64 R.quiet, .int .i64 R.rept] 26 #[.slice cA P.cells.length cc, .slice aA P.hand0.length ac, .slice bA P.hand1.length bc, .int .i64 P.turn, .int .i64 P.quiet] 36
  replace hR := hR.ext xa
  replace hP := hP.ext xa
  have X := xa
  clear xa
  generalize ((w.alloc (.cells #[.string R.name, .int .i64 R.width, .int .i64 R.height, .slice pA R.pieces.length pc, .slice sA R.start.length sc, .bool false, .bool R.keeps, .slice eA R.ends.length ec, .int .i64 R.blocked, .int .i64 R.quiet, .int .i64 R.rept] 26)).alloc (.cells #[.slice cA P.cells.length cc, .slice aA P.hand0.length ac, .slice bA P.hand1.length bc, .int .i64 P.turn, .int .i64 P.quiet] 36)) = w2 at *
  generalize w.heap.size + 1 = BP at *
  generalize w.heap.size = BR at *
  refine (three_any _).mono ?_
  rintro e w3 ⟨v1, rfl, h1, x⟩
  replace hR := hR.ext x
  replace hP := hP.ext x
  replace kR := kR.ext x
  replace kP := kP.ext x
  replace X := ext_trans X x
  clear x
  go_wp2_with fail
  refine (near_any _).mono ?_
  rintro e w4 ⟨v2, rfl, h2, x⟩
  replace hR := hR.ext x
  replace hP := hP.ext x
  replace kR := kR.ext x
  replace kP := kP.ext x
  replace h1 := h1.ext x
  replace X := ext_trans X x
  clear x
  replace h2 := h2.at_
  go_wp2_with fail
  refine (Other_yes threeR nearP _ _ _ h1 h2 valid_three sound_near).mono ?_
  rintro e w5 ⟨v5, rfl, h5, x⟩
  replace hR := hR.ext x
  replace hP := hP.ext x
  replace kR := kR.ext x
  replace kP := kP.ext x
  replace h1 := h1.ext x
  replace h2 := h2.ext x
  replace X := ext_trans X x
  clear x
  rw [other_near] at h5
  obtain ⟨cA5, cc5, aA5, ac5, bA5, bc5, e5, -⟩ := h5
  have e5' : v5 = .agg #[.slice cA5 9 cc5, .slice aA5 1 ac5, .slice bA5 1 bc5, .int .i64 1, .int .i64 0] := e5
  subst e5'
  clear e5
  clear h1 h2
  obtain ⟨xa, k5⟩ := blks1 w5 #[.slice cA5 9 cc5, .slice aA5 1 ac5, .slice bA5 1 bc5, .int .i64 1, .int .i64 0] 36
  replace hR := hR.ext xa
  replace hP := hP.ext xa
  replace kR := kR.ext xa
  replace kP := kP.ext xa
  replace X := ext_trans X xa
  clear xa
  go_wp2_with fail
  generalize (w5.alloc (.cells #[.slice cA5 9 cc5, .slice aA5 1 ac5, .slice bA5 1 bc5, .int .i64 1, .int .i64 0] 36)) = w6 at *
  generalize w5.heap.size = B5 at *
  have f5 := k5.cell
  go_wp2_with fail
  refine (plays_any _).mono ?_
  rintro e w7 ⟨rfl, x⟩
  replace hR := hR.ext x
  replace hP := hP.ext x
  replace kR := kR.ext x
  replace kP := kP.ext x
  replace k5 := k5.ext x
  replace X := ext_trans X x
  replace f5 := k5.cell
  clear x
  clear f5
  clear k5
  have fR := kR.cell
  have fP := kP.cell
  go_wp2_with fail
  have HL := hide (fun (Q : PosM) (hQ : Sound (noFalls R) Q) W (v1 v2 : Value) (h1 : RulesAt W v1 (noFalls R)) (h2 : PosAt W v2 Q) => All_yes (noFalls R) Q v1 v2 W h1 h2 hV hQ)
  have HS := hide hS
  have HSO := hide (sound_other' hV hS)
  have HO := hide (fun W (v1 v2 : Value) (h1 : RulesAt W v1 (noFalls R)) (h2 : PosAt W v2 P) => Other_yes (noFalls R) P v1 v2 W h1 h2 hV hS)
  have HEX := hide (exch_law hV hS rfl)
  have HLN := hide (turnCells_length R.width R.height P.cells)
  have HTU := hide (fun (s : Int) (hs : s < R.width * R.height) B W (r1 : W.cell? ⟨B, 1, none⟩ = some (.int .i64 R.width)) (r2 : W.cell? ⟨B, 2, none⟩ = some (.int .i64 R.height)) => turn_any R.width R.height s B W hV.side hs r1 r2)
  have HSQ := hide (fun (y : MoveM) (hy : y ∈ listM (noFalls R) P) => move_sq2 hV hS hy)
  have HLL := hide (listM_len hV hS)
  have HLK := hide (listM_len hV (sound_other' hV hS))
  have hll := HLL.out
  have HCO := hide (fun (y : MoveM) v W (h : MovesAt W v (listM (noFalls R) (otherP (noFalls R) P))) => Contains_any _ y v W h HLK.out)
  clear hV hS
  refine (HL.out P HS.out _ _ _ hR hP).mono ?_
  rintro e w8 ⟨v6, rfl, h6, x⟩
  replace hR := hR.ext x
  replace hP := hP.ext x
  replace kR := kR.ext x
  replace kP := kP.ext x
  replace X := ext_trans X x
  replace fR := kR.cell
  replace fP := kP.cell
  clear x
  replace h6 := h6.at_
  have h6v := h6
  obtain ⟨A6, c6, rfl, -⟩ := h6v
  go_wp2_with fail
  refine (HO.out _ _ _ hR hP).mono ?_
  rintro e w9 ⟨v7, rfl, h7, x⟩
  replace hR := hR.ext x
  replace hP := hP.ext x
  replace kR := kR.ext x
  replace kP := kP.ext x
  replace h6 := h6.ext x
  replace X := ext_trans X x
  replace fR := kR.cell
  replace fP := kP.cell
  clear x
  have h7v := h7
  obtain ⟨cA7, cc7, aA7, ac7, bA7, bc7, e7, -⟩ := h7v
  have e7' : v7 = .agg #[.slice cA7 P.cells.length cc7, .slice aA7 P.hand1.length ac7, .slice bA7 P.hand0.length bc7, .int .i64 (1 - P.turn), .int .i64 P.quiet] := by rw [e7]; show Value.agg #[.slice cA7 (turnCells R.width R.height P.cells).length cc7, .slice aA7 P.hand1.length ac7, .slice bA7 P.hand0.length bc7, .int .i64 (1 - P.turn), .int .i64 P.quiet] = _; rw [HLN.out]
  subst e7'
  clear e7
  obtain ⟨xa, k7⟩ := blks1 w9 #[.slice cA7 P.cells.length cc7, .slice aA7 P.hand1.length ac7, .slice bA7 P.hand0.length bc7, .int .i64 (1 - P.turn), .int .i64 P.quiet] 36
  replace hR := hR.ext xa
  replace hP := hP.ext xa
  replace kR := kR.ext xa
  replace kP := kP.ext xa
  replace h6 := h6.ext xa
  replace h7 := h7.ext xa
  replace X := ext_trans X xa
  have fR' := kR.cell
  have fP' := kP.cell
  clear xa
  go_wp2_with fail
  generalize (w9.alloc (.cells #[.slice cA7 P.cells.length cc7, .slice aA7 P.hand1.length ac7, .slice bA7 P.hand0.length bc7, .int .i64 (1 - P.turn), .int .i64 P.quiet] 36)) = w10 at *
  generalize w9.heap.size = B7 at *
  replace fR := kR.cell
  clear fR'
  replace fP := kP.cell
  clear fP'
  have f7 := k7.cell
  refine (HL.out _ HSO.out _ _ _ hR h7).mono ?_
  rintro e w11 ⟨v8, rfl, h8, x⟩
  replace hR := hR.ext x
  replace hP := hP.ext x
  replace kR := kR.ext x
  replace kP := kP.ext x
  replace h6 := h6.ext x
  replace h7 := h7.ext x
  replace k7 := k7.ext x
  replace X := ext_trans X x
  replace fR := kR.cell
  replace fP := kP.cell
  replace f7 := k7.cell
  clear x
  replace h8 := h8.at_
  have h8v := h8
  obtain ⟨A8, c8, e8, -⟩ := h8v
  rw [HEX.out.1] at e8
  subst e8
  clear f7 fR fP
  have HE2 := hide HEX.out.2
  clear HL HS HSO HO HEX HLN
  generalize listM (noFalls R) (otherP (noFalls R) P) = K at *
  generalize listM (noFalls R) P = L at *
  clear h7 k7
  obtain ⟨xa, kE⟩ := blks1 w11 #[.int .i64 0, .int .i64 0] 28
  replace hR := hR.ext xa
  replace hP := hP.ext xa
  replace kR := kR.ext xa
  replace kP := kP.ext xa
  replace h6 := h6.ext xa
  replace h8 := h8.ext xa
  replace X := ext_trans X xa
  clear xa
  go_wp2_with fail
  generalize (w11.alloc (.cells #[.int .i64 0, .int .i64 0] 28)) = w12 at *
  generalize w11.heap.size = BE at *
  refine (fine_ext (fine_any (some ⟨BE, 0, none⟩) 2 2 [0, 0] _ rfl (by omega) (blk_ints kE))).mono ?_
  rintro e w13 ⟨rfl, x⟩
  replace hR := hR.ext x
  replace hP := hP.ext x
  replace kR := kR.ext x
  replace kP := kP.ext x
  replace h6 := h6.ext x
  replace h8 := h8.ext x
  replace kE := kE.ext x
  replace X := ext_trans X x
  clear x
  rw [show allZero [0, 0] = true from rfl]
  clear kE
  have HF := hide (fun W (h : Ext w13 W) => And.intro (kR.ext h) (And.intro (h6.ext h) (And.intro (h8.ext h) (ext_trans X h))))
  clear hR hP kR kP h6 h8 X
  go_wp2
  go_loopw [73] (fun i wr => ∃ k : Nat, k ≤ L.length ∧ i = .int .i64 k ∧ Ext w13 wr) (fun i _ => L.length - (intOf i).toNat)
  case atStart => exact ⟨0, Nat.zero_le _, rfl, Below.refl _ _⟩
  case round =>
    obtain ⟨k, hk, rfl, x⟩ := hrel
    have XB := hide x
    obtain ⟨kR, h6, h8, X⟩ := HF.out _ x
    clear x
    by_cases hlt : k < L.length
    · obtain ⟨y, hy⟩ : ∃ y, L[k]? = some y := ⟨L[k], List.getElem?_eq_getElem _⟩
      obtain ⟨A6', c6', e6, m6⟩ := id h6
      simp only [Value.slice.injEq] at e6
      obtain ⟨rfl, -, -⟩ := e6
      obtain ⟨b, o, rfl, d0, d1, d2⟩ := moves_get m6 hy
      have HY := hide (List.mem_of_getElem? hy)
      have j0 : (0 : Int) ≤ (k : Int) := by omega
      have j1 : (k : Int) < (L.length : Int) := by omega
      clear hy m6 h6
      have hZ : From wr wr := ⟨Below.refl _ _⟩
      obtain ⟨xa, kY⟩ := blks1 wr #[.int .i64 y.src, .int .i64 y.dst, .int .i64 y.piece] 45
      replace kR := kR.ext xa
      replace h8 := h8.ext xa
      replace hZ := hZ.ext xa
      replace X := ext_trans X xa
      clear xa
      go_wp2_with fail
      generalize (wr.alloc (.cells #[.int .i64 y.src, .int .i64 y.dst, .int .i64 y.piece] 45)) = w2 at *
      generalize wr.heap.size = BY at *
      clear d0 d1 d2
      have KR := hide kR
      have KY := hide kY
      have H8 := hide h8
      have XR := hide hZ.x
      obtain ⟨q1, q2⟩ := HSQ.out y HY.out
      have HT1 := hide (fun B W r1 r2 => HTU.out y.src q1 B W r1 r2)
      have HT2 := hide (fun B W r1 r2 => HTU.out y.dst q2 B W r1 r2)
      have HC2 := hide (fun v W h => HCO.out (turnMv (noFalls R) y) v W h)
      have HM2 := HE2.out y HY.out
      rw [decide_eq_true HM2] at HC2
      have HC3 := hide (fun v W h => (show Calls Try.prog 29 #[v, .agg #[.int .i64 (turnI R.width R.height y.src), .int .i64 (turnI R.width R.height y.dst), .int .i64 y.piece]] W _ from HC2.out v W h))
      clear kR kY h8 X hZ q1 q2 HC2 HM2
      have keepK := hide (fun W (h : Ext w2 W) => (show (fun W => W.cell? ⟨BY, 0, none⟩ = some (.int .i64 y.src) ∧ W.cell? ⟨BY, 1, none⟩ = some (.int .i64 y.dst) ∧ W.cell? ⟨BY, 2, none⟩ = some (.int .i64 y.piece) ∧ Ext w2 W) W from ⟨(KY.out.ext h).cell 0, (KY.out.ext h).cell 1, (KY.out.ext h).cell 2, h⟩))
      have yy : Ext w2 w2.drew := Below.drew (Below.refl _ _)
      refine region_K (fun W => W.cell? ⟨BY, 0, none⟩ = some (.int .i64 y.src) ∧ W.cell? ⟨BY, 1, none⟩ = some (.int .i64 y.dst) ∧ W.cell? ⟨BY, 2, none⟩ = some (.int .i64 y.piece) ∧ Ext w2 W) (fun _ => True) [] (by kernel_rfl) ?_
      have hT0 := keepK.out _ yy
      refine anyK_take 0 (oi := ?oo129) ?ho129 (by kernel_rfl) (by kernel_rfl) (by kernel_rfl) (by kernel_rfl) ?hq129 ?hw129 hT0 (fun _ => trivial) (v := ?vv129) ?hy129 ?hk129
      case ho129 => (simp only [List.getElem?_toArray, List.getElem?_cons_succ, List.getElem?_cons_zero]; rfl)
      case hq129 => exact fun _ _ _ h => h
      case hw129 => rfl
      case hy129 =>
        intro W hW
        go_simp
        first | done | with_reducible rfl
      case hk129 =>
      try simp only [Act.put, List.setIfInBounds_toArray, List.set_cons_zero, List.set_cons_succ]
      refine anyK_take 1 (oi := ?oo130) ?ho130 (by kernel_rfl) (by kernel_rfl) (by kernel_rfl) (by kernel_rfl) ?hq130 ?hw130 hT0 (fun _ => trivial) (v := ?vv130) ?hy130 ?hk130
      case ho130 => (simp only [List.getElem?_toArray, List.getElem?_cons_succ, List.getElem?_cons_zero]; rfl)
      case hq130 => exact fun _ _ _ h => h
      case hw130 => rfl
      case hy130 =>
        intro W hW
        go_simp
        first | done | with_reducible rfl
      case hk130 =>
      try simp only [Act.put, List.setIfInBounds_toArray, List.set_cons_zero, List.set_cons_succ]
      refine anyK_take 2 (oi := ?oo131) ?ho131 (by kernel_rfl) (by kernel_rfl) (by kernel_rfl) (by kernel_rfl) ?hq131 ?hw131 hT0 (fun _ => trivial) (v := ?vv131) ?hy131 ?hk131
      case ho131 => (simp only [List.getElem?_toArray, List.getElem?_cons_succ, List.getElem?_cons_zero]; rfl)
      case hq131 => exact fun _ _ _ h => h
      case hw131 => rfl
      case hy131 =>
        intro W hW
        go_simp
        first | done | with_reducible rfl
      case hk131 =>
      try simp only [Act.put, List.setIfInBounds_toArray, List.set_cons_zero, List.set_cons_succ]
      refine anyK_take 3 (oi := ?oo132) ?ho132 (by kernel_rfl) (by kernel_rfl) (by kernel_rfl) (by kernel_rfl) ?hq132 ?hw132 hT0 (fun _ => trivial) (v := ?vv132) ?hy132 ?hk132
      case ho132 => (simp only [List.getElem?_toArray, List.getElem?_cons_succ, List.getElem?_cons_zero]; rfl)
      case hq132 => exact fun _ _ _ h => h
      case hw132 => rfl
      case hy132 =>
        intro W hW
        obtain ⟨z0, z1, z2, z3⟩ := hW
        go_simp
        first | done | with_reducible rfl
      case hk132 =>
      try simp only [Act.put, List.setIfInBounds_toArray, List.set_cons_zero, List.set_cons_succ]
      refine anyK_take 5 (oi := ?oo133) ?ho133 (by kernel_rfl) (by kernel_rfl) (by kernel_rfl) (by kernel_rfl) ?hq133 ?hw133 hT0 (fun _ => trivial) (v := ?vv133) ?hy133 ?hk133
      case ho133 => (simp only [List.getElem?_toArray, List.getElem?_cons_succ, List.getElem?_cons_zero]; rfl)
      case hq133 => exact fun _ _ _ h => h
      case hw133 => rfl
      case hy133 =>
        intro W hW
        go_simp
        first | done | with_reducible rfl
      case hk133 =>
      try simp only [Act.put, List.setIfInBounds_toArray, List.set_cons_zero, List.set_cons_succ]
      refine anyK_take 6 (oi := ?oo134) ?ho134 (by kernel_rfl) (by kernel_rfl) (by kernel_rfl) (by kernel_rfl) ?hq134 ?hw134 hT0 (fun _ => trivial) (v := ?vv134) ?hy134 ?hk134
      case ho134 => (simp only [List.getElem?_toArray, List.getElem?_cons_succ, List.getElem?_cons_zero]; rfl)
      case hq134 => exact fun _ _ _ h => h
      case hw134 => rfl
      case hy134 =>
        intro W hW
        go_simp
        first | done | with_reducible rfl
      case hk134 =>
      try simp only [Act.put, List.setIfInBounds_toArray, List.set_cons_zero, List.set_cons_succ]
      refine anyK_take 7 (oi := ?oo135) ?ho135 (by kernel_rfl) (by kernel_rfl) (by kernel_rfl) (by kernel_rfl) ?hq135 ?hw135 hT0 (fun _ => trivial) (v := ?vv135) ?hy135 ?hk135
      case ho135 => (simp only [List.getElem?_toArray, List.getElem?_cons_succ, List.getElem?_cons_zero]; rfl)
      case hq135 => exact fun _ _ _ h => h
      case hw135 => rfl
      case hy135 =>
        intro W hW
        obtain ⟨z0, z1, z2, z3⟩ := hW
        go_simp
        first | done | with_reducible rfl
      case hk135 =>
      try simp only [Act.put, List.setIfInBounds_toArray, List.set_cons_zero, List.set_cons_succ]
      refine anyK_take 9 (oi := ?oo136) ?ho136 (by kernel_rfl) (by kernel_rfl) (by kernel_rfl) (by kernel_rfl) ?hq136 ?hw136 hT0 (fun _ => trivial) (v := ?vv136) ?hy136 ?hk136
      case ho136 => (simp only [List.getElem?_toArray, List.getElem?_cons_succ, List.getElem?_cons_zero]; rfl)
      case hq136 => exact fun _ _ _ h => h
      case hw136 => rfl
      case hy136 =>
        intro W hW
        go_simp
        first | done | with_reducible rfl
      case hk136 =>
      try simp only [Act.put, List.setIfInBounds_toArray, List.set_cons_zero, List.set_cons_succ]
      refine anyK_take 10 (oi := ?oo137) ?ho137 (by kernel_rfl) (by kernel_rfl) (by kernel_rfl) (by kernel_rfl) ?hq137 ?hw137 hT0 (fun _ => trivial) (v := ?vv137) ?hy137 ?hk137
      case ho137 => (simp only [List.getElem?_toArray, List.getElem?_cons_succ, List.getElem?_cons_zero]; rfl)
      case hq137 => exact fun _ _ _ h => h
      case hw137 => rfl
      case hy137 =>
        intro W hW
        obtain ⟨z0, z1, z2, z3⟩ := hW
        go_simp
        first | done | with_reducible rfl
      case hk137 =>
      try simp only [Act.put, List.setIfInBounds_toArray, List.set_cons_zero, List.set_cons_succ]
      refine anyK_on1 4 (by kernel_rfl) ?_
      refine anyK_one 4 (o := ?oo138) ?ho138 ?hk138
      case ho138 => (simp only [List.getElem?_toArray, List.getElem?_cons_succ, List.getElem?_cons_zero]; rfl)
      case hk138 =>
      intro K hK
      go_simp
      refine (HT1.out _ _ ((KR.out.ext yy).cell 1) ((KR.out.ext yy).cell 2)).mono ?_
      rintro e wz ⟨rfl, xx⟩
      try go_wp2_with fail
      replace yy := ext_trans yy xx
      have hT1 := keepK.out _ yy
      refine hK.out _ _ hT1 (fun _ => trivial) ?_
      clear hK K
      try simp only [Act.put, List.setIfInBounds_toArray, List.set_cons_zero, List.set_cons_succ]
      refine anyK_on1 8 (by kernel_rfl) ?_
      refine anyK_one 8 (o := ?oo139) ?ho139 ?hk139
      case ho139 => (simp only [List.getElem?_toArray, List.getElem?_cons_succ, List.getElem?_cons_zero]; rfl)
      case hk139 =>
      intro K hK
      go_simp
      refine (HT2.out _ _ ((KR.out.ext yy).cell 1) ((KR.out.ext yy).cell 2)).mono ?_
      rintro e wy ⟨rfl, xx⟩
      try go_wp2_with fail
      replace yy := ext_trans yy xx
      have hT2 := keepK.out _ yy
      refine hK.out _ _ hT2 (fun _ => trivial) ?_
      clear hK K
      try simp only [Act.put, List.setIfInBounds_toArray, List.set_cons_zero, List.set_cons_succ]
      refine anyK_take 11 (oi := ?oo140) ?ho140 (by kernel_rfl) (by kernel_rfl) (by kernel_rfl) (by kernel_rfl) ?hq140 ?hw140 hT2 (fun _ => trivial) (v := ?vv140) ?hy140 ?hk140
      case ho140 => (simp only [List.getElem?_toArray, List.getElem?_cons_succ, List.getElem?_cons_zero]; rfl)
      case hq140 => exact fun _ _ _ h => h
      case hw140 => rfl
      case hy140 =>
        intro W hW
        go_simp
        first | done | with_reducible rfl
      case hk140 =>
      try simp only [Act.put, List.setIfInBounds_toArray, List.set_cons_zero, List.set_cons_succ]
      refine anyK_on1 12 (by kernel_rfl) ?_
      refine anyK_one 12 (o := ?oo141) ?ho141 ?hk141
      case ho141 => (simp only [List.getElem?_toArray, List.getElem?_cons_succ, List.getElem?_cons_zero]; rfl)
      case hk141 =>
      intro K hK
      go_simp
      refine (HC3.out _ _ (H8.out.ext yy)).mono ?_
      rintro e wx ⟨rfl, xx⟩
      try go_wp2_with fail
      replace yy := ext_trans yy xx
      have hT3 := keepK.out _ yy
      refine hK.out _ _ hT3 (fun _ => trivial) ?_
      clear hK K
      try simp only [Act.put, List.setIfInBounds_toArray, List.set_cons_zero, List.set_cons_succ]
      refine anyK_take 13 (oi := ?oo142) ?ho142 (by kernel_rfl) (by kernel_rfl) (by kernel_rfl) (by kernel_rfl) ?hq142 ?hw142 hT3 (fun _ => trivial) (v := ?vv142) ?hy142 ?hk142
      case ho142 => (simp only [List.getElem?_toArray, List.getElem?_cons_succ, List.getElem?_cons_zero]; rfl)
      case hq142 => exact fun _ _ _ h => h
      case hw142 => rfl
      case hy142 =>
        intro W hW
        go_simp
        first | done | with_reducible rfl
      case hk142 =>
      try simp only [Act.put, List.setIfInBounds_toArray, List.set_cons_zero, List.set_cons_succ]
      refine anyK_done (by kernel_rfl) ?_ _
      clear keepK hT0 hT1 hT2 hT3
      go_wp2
      go_roundw
      case rel => exact ⟨k + 1, by omega, by go_num, ext_trans XB.out (ext_trans XR.out yy)⟩
      case measure => simp [intOf]; omega
    · obtain rfl : k = L.length := by omega
      go_wp2
      go_ret
      exact ⟨rfl, X⟩
theorem movesExchanged_law (v : Value) (R : RulesM) (u : Value) (P : PosM) (w : World) (hR : RulesAt w v R) (hP : PosAt w u P) :
    Calls Try.prog 7 #[v, u] w fun e w' => e = .returned (.bool true) ∧ Ext w w' := by
  by_cases h : checkE (noFalls R) P = 0
  · obtain ⟨hV, hS⟩ := check_iff.1 h
    exact movesExchanged_yes R P v u w hR hP hV hS
  · exact movesExchanged_no R P v u w hR hP h

end Go.Proofs.Ytcfiannlpkofpaa
