/- Walk: the law PlaceOther. -/
import Derived.Test.YtcfiannlpkofpaaOther
import Derived.Test.YtcfiannlpkofpaaSame
import Derived.Test.YtcfiannlpkofpaaNear
import Derived.Test.YtcfiannlpkofpaaMirrored
import Derived.Test.YtcfiannlpkofpaaFine
namespace Go.Proofs.Ytcfiannlpkofpaa
open Go.ChangeShapes Go.WideShapes Go.ChangeAt Go.RowKit Go.Shelf
set_option linter.unusedVariables false
theorem other_near : otherP threeR nearP = { cells := [0, 0, 0, 1, 1, 0, 2, 2, 0], hand0 := [3], hand1 := [3], turn := 1, quiet := 0 } := by
  have h : turnCells 3 3 [1, 1, 0, 2, 2, 0, 0, 0, 0] = [0, 0, 0, 1, 1, 0, 2, 2, 0] := by decide +kernel
  have h' : turnCells threeR.width threeR.height nearP.cells = [0, 0, 0, 1, 1, 0, 2, 2, 0] := h
  unfold otherP
  rw [h']
  rfl
theorem valid_three : Valid threeR := valid_of (by decide +kernel)
theorem sound_near : Sound threeR nearP := sound_of (by decide +kernel)
theorem sound_other {R : RulesM} {P : PosM} (hV : Valid R) (hS : Sound R P) : Sound (mirrorR R) (otherP R P) :=
  ⟨by show ((turnCells R.width R.height P.cells).length : Int) = _; rw [turnCells_length]; exact hS.area, hS.len1, hS.len0, fun c hc => turn_bd hV.side hS.area hS.cells hc, hS.held1, hS.held0, by have := hS.turn; show 1 - P.turn = 0 ∨ 1 - P.turn = 1; omega, hS.quiet⟩
theorem other_other {R : RulesM} {P : PosM} (hV : Valid R) (hS : Sound R P) : otherP (mirrorR R) (otherP R P) = P := by
  have h : turnCells R.width R.height (turnCells R.width R.height P.cells) = P.cells := turn_turn hV.side hS.area (fun c hc => (hS.cells c hc).1)
  have h' : turnCells (mirrorR R).width (mirrorR R).height (otherP R P).cells = P.cells := h
  cases P
  unfold otherP at *
  simp only at *
  rw [h']
  simp
  omega
theorem fine_ext {f : FuncId} {args : Array Value} {w : World} {v : Value} (h : Calls Try.prog f args w fun e w' => e = .returned v ∧ w = w') : Calls Try.prog f args w fun e w' => e = .returned v ∧ Ext w w' :=
  h.mono fun _ _ ⟨he, hw⟩ => ⟨he, by rw [← hw]; exact Below.refl _ _⟩
theorem blk_ints {w : World} {g : Nat} {t : TypeId} {zs : List Int} (h : Blk w g t (zs.map (Value.int .i64)).toArray) : IntsAt w (some ⟨g, 0, none⟩) zs := fun i hi => ⟨g, 0, rfl, by
  rw [Nat.zero_add, h.cell]
  simp [hi]⟩
set_option maxHeartbeats 4000000 in
set_option maxRecDepth 100000 in
theorem otherLaw_yes (v u : Value) (R : RulesM) (P : PosM) (w : World) (hR : RulesAt w v R) (hP : PosAt w u P) (hV : Valid R) (hS : Sound R P) :
    Calls Try.prog 4 #[v, u] w fun e w' => e = .returned (.bool true) ∧ Ext w w' := by
  have hR0 := hR
  have hP0 := hP
  obtain ⟨pA, pc, sA, sc, eA, ec, rfl, -⟩ := hR0
  obtain ⟨cA, cc, aA, ac, bA, bc, rfl, -⟩ := hP0
  go_enter Try.func4, Try.ntmps4
  go_wp2_with fail
  obtain ⟨xa, kR, kP⟩ := blks2 w #[.string R.name, .int .i64 R.width, .int .i64 R.height, .slice pA R.pieces.length pc, .slice sA R.start.length sc, .bool R.falls, .bool R.keeps, .slice eA R.ends.length ec, .int .i64 R.blocked, .int .i64 R.quiet, .int .i64 R.rept] 26 #[.slice cA P.cells.length cc, .slice aA P.hand0.length ac, .slice bA P.hand1.length bc, .int .i64 P.turn, .int .i64 P.quiet] 36
  replace hR := hR.ext xa
  replace hP := hP.ext xa
  have X := xa
  clear xa
  generalize ((w.alloc (.cells #[.string R.name, .int .i64 R.width, .int .i64 R.height, .slice pA R.pieces.length pc, .slice sA R.start.length sc, .bool R.falls, .bool R.keeps, .slice eA R.ends.length ec, .int .i64 R.blocked, .int .i64 R.quiet, .int .i64 R.rept] 26)).alloc (.cells #[.slice cA P.cells.length cc, .slice aA P.hand0.length ac, .slice bA P.hand1.length bc, .int .i64 P.turn, .int .i64 P.quiet] 36)) = w2 at *
  generalize w.heap.size + 1 = BP at *
  generalize w.heap.size = BR at *
  refine (three_any _).mono ?_
  rintro e w3 ⟨v3, rfl, h3, x⟩
  replace hR := hR.ext x
  replace hP := hP.ext x
  replace kR := kR.ext x
  replace kP := kP.ext x
  replace X := ext_trans X x
  clear x
  go_wp2_with fail
  refine (near_any _).mono ?_
  rintro e w4 ⟨v4, rfl, h4, x⟩
  replace hR := hR.ext x
  replace hP := hP.ext x
  replace kR := kR.ext x
  replace kP := kP.ext x
  replace h3 := h3.ext x
  replace X := ext_trans X x
  clear x
  replace h4 := h4.at_
  go_wp2_with fail
  refine (Other_yes threeR nearP _ _ _ h3 h4 valid_three sound_near).mono ?_
  rintro e w5 ⟨v5, rfl, h5, x⟩
  replace hR := hR.ext x
  replace hP := hP.ext x
  replace kR := kR.ext x
  replace kP := kP.ext x
  replace h3 := h3.ext x
  replace h4 := h4.ext x
  replace X := ext_trans X x
  clear x
  rw [other_near] at h5
  have h5v := h5
  obtain ⟨cA5, cc5, aA5, ac5, bA5, bc5, e5, i5, -⟩ := h5v
  have e5' : v5 = .agg #[.slice cA5 9 cc5, .slice aA5 1 ac5, .slice bA5 1 bc5, .int .i64 1, .int .i64 0] := e5
  subst e5'
  clear e5
  clear h3 h4
  go_wp2_with fail
  obtain ⟨xa, k5, k9⟩ := blks2 w5 #[.slice cA5 9 cc5, .slice aA5 1 ac5, .slice bA5 1 bc5, .int .i64 1, .int .i64 0] 36 #[.int .i64 0, .int .i64 0, .int .i64 0, .int .i64 1, .int .i64 1, .int .i64 0, .int .i64 2, .int .i64 2, .int .i64 0] 3
  replace hR := hR.ext xa
  replace hP := hP.ext xa
  replace kR := kR.ext xa
  replace kP := kP.ext xa
  replace h5 := h5.ext xa
  replace i5 := i5.ext xa
  replace X := ext_trans X xa
  clear xa
  generalize ((w5.alloc (.cells #[.slice cA5 9 cc5, .slice aA5 1 ac5, .slice bA5 1 bc5, .int .i64 1, .int .i64 0] 36)).alloc (.cells #[.int .i64 0, .int .i64 0, .int .i64 0, .int .i64 1, .int .i64 1, .int .i64 0, .int .i64 2, .int .i64 2, .int .i64 0] 3)) = w6 at *
  generalize w5.heap.size + 1 = B9 at *
  generalize w5.heap.size = B5 at *
  refine (eq_ext (EqInts_yes cA5 (some ⟨B9, 0, none⟩) 9 cc5 9 [0, 0, 0, 1, 1, 0, 2, 2, 0] _ rfl (by omega) i5 (blk_irow (zs := [0, 0, 0, 1, 1, 0, 2, 2, 0]) k9).ints)).mono ?_
  rintro e w7 ⟨rfl, x⟩
  replace hR := hR.ext x
  replace hP := hP.ext x
  replace kR := kR.ext x
  replace kP := kP.ext x
  replace h5 := h5.ext x
  replace i5 := i5.ext x
  replace k5 := k5.ext x
  replace k9 := k9.ext x
  replace X := ext_trans X x
  clear x
  clear k9 i5
  have f5 := k5.cell
  go_wp2_with fail
  refine (PSame_yes _ _ _ _ h5 h5 (by decide) (by decide) (by decide)).mono ?_
  rintro e w8 ⟨rfl, x⟩
  replace hR := hR.ext x
  replace hP := hP.ext x
  replace kR := kR.ext x
  replace kP := kP.ext x
  replace h5 := h5.ext x
  replace k5 := k5.ext x
  replace X := ext_trans X x
  replace f5 := k5.cell
  clear x
  clear f5
  clear k5 h5
  go_wp2_with fail
  refine (three_any _).mono ?_
  rintro e w9 ⟨v6, rfl, h6, x⟩
  replace hR := hR.ext x
  replace hP := hP.ext x
  replace kR := kR.ext x
  replace kP := kP.ext x
  replace X := ext_trans X x
  clear x
  go_wp2_with fail
  refine (Mirror_yes _ threeR _ h6 valid_three).mono ?_
  rintro e w10 ⟨v7, rfl, h7, x⟩
  replace hR := hR.ext x
  replace hP := hP.ext x
  replace kR := kR.ext x
  replace kP := kP.ext x
  replace h6 := h6.ext x
  replace X := ext_trans X x
  clear x
  obtain ⟨pA7, pc7, sA7, sc7, eA7, ec7, e7, -⟩ := h7
  have e7' : v7 = .agg #[.string ⟨#[84, 73, 67]⟩, .int .i64 3, .int .i64 3, .slice pA7 1 pc7, .slice sA7 9 sc7, .bool false, .bool false, .slice eA7 1 ec7, .int .i64 2, .int .i64 0, .int .i64 0] := by rw [e7]; show Value.agg #[.string ⟨#[84, 73, 67]⟩, .int .i64 3, .int .i64 3, .slice pA7 1 pc7, .slice sA7 (turnCells 3 3 threeR.start).length sc7, .bool false, .bool false, .slice eA7 1 ec7, .int .i64 2, .int .i64 0, .int .i64 0] = _; rw [turnCells_length]; rfl
  subst e7'
  clear e7
  clear h6
  have fR := kR.cell
  have fP := kP.cell
  obtain ⟨xa, -⟩ := blks1 w10 #[.string ⟨#[84, 73, 67]⟩, .int .i64 3, .int .i64 3, .slice pA7 1 pc7, .slice sA7 9 sc7, .bool false, .bool false, .slice eA7 1 ec7, .int .i64 2, .int .i64 0, .int .i64 0] 26
  replace hR := hR.ext xa
  replace hP := hP.ext xa
  replace kR := kR.ext xa
  replace kP := kP.ext xa
  replace X := ext_trans X xa
  have fR' := kR.cell
  have fP' := kP.cell
  clear xa
  go_wp2_with fail
  generalize (w10.alloc (.cells #[.string ⟨#[84, 73, 67]⟩, .int .i64 3, .int .i64 3, .slice pA7 1 pc7, .slice sA7 9 sc7, .bool false, .bool false, .slice eA7 1 ec7, .int .i64 2, .int .i64 0, .int .i64 0] 26)) = w11 at *
  generalize w10.heap.size = B7 at *
  replace fR := kR.cell
  clear fR'
  replace fP := kP.cell
  clear fP'
  refine (Other_yes R P _ _ _ hR hP hV hS).mono ?_
  rintro e w12 ⟨v9, rfl, h9, x⟩
  replace hR := hR.ext x
  replace hP := hP.ext x
  replace kR := kR.ext x
  replace kP := kP.ext x
  replace X := ext_trans X x
  replace fR := kR.cell
  replace fP := kP.cell
  clear x
  have h9v := h9
  obtain ⟨cA9, cc9, aA9, ac9, bA9, bc9, e9, -⟩ := h9v
  have e9' : v9 = .agg #[.slice cA9 P.cells.length cc9, .slice aA9 P.hand1.length ac9, .slice bA9 P.hand0.length bc9, .int .i64 (1 - P.turn), .int .i64 P.quiet] := by rw [e9]; show Value.agg #[.slice cA9 (turnCells R.width R.height P.cells).length cc9, .slice aA9 P.hand1.length ac9, .slice bA9 P.hand0.length bc9, .int .i64 (1 - P.turn), .int .i64 P.quiet] = _; rw [turnCells_length]
  subst e9'
  clear e9
  obtain ⟨xa, k9⟩ := blks1 w12 #[.slice cA9 P.cells.length cc9, .slice aA9 P.hand1.length ac9, .slice bA9 P.hand0.length bc9, .int .i64 (1 - P.turn), .int .i64 P.quiet] 36
  replace hR := hR.ext xa
  replace hP := hP.ext xa
  replace kR := kR.ext xa
  replace kP := kP.ext xa
  replace h9 := h9.ext xa
  replace X := ext_trans X xa
  have fR' := kR.cell
  have fP' := kP.cell
  clear xa
  go_wp2_with fail
  generalize (w12.alloc (.cells #[.slice cA9 P.cells.length cc9, .slice aA9 P.hand1.length ac9, .slice bA9 P.hand0.length bc9, .int .i64 (1 - P.turn), .int .i64 P.quiet] 36)) = w13 at *
  generalize w12.heap.size = B9 at *
  replace fR := kR.cell
  clear fR'
  replace fP := kP.cell
  clear fP'
  refine (Mirror_yes _ R _ hR hV).mono ?_
  rintro e w14 ⟨v8, rfl, h8, x⟩
  replace hR := hR.ext x
  replace hP := hP.ext x
  replace kR := kR.ext x
  replace kP := kP.ext x
  replace h9 := h9.ext x
  replace k9 := k9.ext x
  replace X := ext_trans X x
  replace fR := kR.cell
  replace fP := kP.cell
  clear x
  have h8v := h8
  obtain ⟨pA8, pc8, sA8, sc8, eA8, ec8, e8, -⟩ := h8v
  have e8' : v8 = .agg #[.string R.name, .int .i64 R.width, .int .i64 R.height, .slice pA8 R.pieces.length pc8, .slice sA8 R.start.length sc8, .bool R.falls, .bool R.keeps, .slice eA8 R.ends.length ec8, .int .i64 R.blocked, .int .i64 R.quiet, .int .i64 R.rept] := by rw [e8]; show Value.agg #[.string R.name, .int .i64 R.width, .int .i64 R.height, .slice pA8 R.pieces.length pc8, .slice sA8 (turnCells R.width R.height R.start).length sc8, .bool R.falls, .bool R.keeps, .slice eA8 R.ends.length ec8, .int .i64 R.blocked, .int .i64 R.quiet, .int .i64 R.rept] = _; rw [turnCells_length]
  subst e8'
  clear e8
  clear fR
  have f9 := k9.cell
  obtain ⟨xa, k8⟩ := blks1 w14 #[.string R.name, .int .i64 R.width, .int .i64 R.height, .slice pA8 R.pieces.length pc8, .slice sA8 R.start.length sc8, .bool R.falls, .bool R.keeps, .slice eA8 R.ends.length ec8, .int .i64 R.blocked, .int .i64 R.quiet, .int .i64 R.rept] 26
  replace hR := hR.ext xa
  replace hP := hP.ext xa
  replace kR := kR.ext xa
  replace kP := kP.ext xa
  replace h9 := h9.ext xa
  replace k9 := k9.ext xa
  replace h8 := h8.ext xa
  replace X := ext_trans X xa
  have fP' := kP.cell
  have f9' := k9.cell
  clear xa
  go_wp2_with fail
  generalize (w14.alloc (.cells #[.string R.name, .int .i64 R.width, .int .i64 R.height, .slice pA8 R.pieces.length pc8, .slice sA8 R.start.length sc8, .bool R.falls, .bool R.keeps, .slice eA8 R.ends.length ec8, .int .i64 R.blocked, .int .i64 R.quiet, .int .i64 R.rept] 26)) = w15 at *
  generalize w14.heap.size = B8 at *
  replace fP := kP.cell
  clear fP'
  replace f9 := k9.cell
  clear f9'
  have f8 := k8.cell
  refine (Other_yes (mirrorR R) (otherP R P) _ _ _ h8 h9 (valid_mirror hV) (sound_other hV hS)).mono ?_
  rintro e w16 ⟨v10, rfl, h10, x⟩
  replace hR := hR.ext x
  replace hP := hP.ext x
  replace kR := kR.ext x
  replace kP := kP.ext x
  replace h9 := h9.ext x
  replace k9 := k9.ext x
  replace h8 := h8.ext x
  replace k8 := k8.ext x
  replace X := ext_trans X x
  replace fP := kP.cell
  replace f9 := k9.cell
  replace f8 := k8.cell
  clear x
  rw [other_other hV hS] at h10
  have h10v := h10
  obtain ⟨cA1, cc1, aA1, ac1, bA1, bc1, rfl, -⟩ := h10v
  go_wp2_with fail
  obtain ⟨xa, k10, kE⟩ := blks2 w16 #[.slice cA1 P.cells.length cc1, .slice aA1 P.hand0.length ac1, .slice bA1 P.hand1.length bc1, .int .i64 P.turn, .int .i64 P.quiet] 36 #[.int .i64 0, .int .i64 0] 28
  replace hR := hR.ext xa
  replace hP := hP.ext xa
  replace kR := kR.ext xa
  replace kP := kP.ext xa
  replace h9 := h9.ext xa
  replace k9 := k9.ext xa
  replace h8 := h8.ext xa
  replace k8 := k8.ext xa
  replace h10 := h10.ext xa
  replace X := ext_trans X xa
  have fP' := kP.cell
  have f9' := k9.cell
  have f8' := k8.cell
  clear xa
  go_wp2_with fail
  generalize ((w16.alloc (.cells #[.slice cA1 P.cells.length cc1, .slice aA1 P.hand0.length ac1, .slice bA1 P.hand1.length bc1, .int .i64 P.turn, .int .i64 P.quiet] 36)).alloc (.cells #[.int .i64 0, .int .i64 0] 28)) = w17 at *
  generalize w16.heap.size + 1 = BE at *
  generalize w16.heap.size = B10 at *
  replace fP := kP.cell
  clear fP'
  replace f9 := k9.cell
  clear f9'
  replace f8 := k8.cell
  clear f8'
  refine (fine_ext (fine_any (some ⟨BE, 0, none⟩) 2 2 [0, 0] _ rfl (by omega) (blk_ints kE))).mono ?_
  rintro e w18 ⟨rfl, x⟩
  replace hR := hR.ext x
  replace hP := hP.ext x
  replace kR := kR.ext x
  replace kP := kP.ext x
  replace h9 := h9.ext x
  replace k9 := k9.ext x
  replace h8 := h8.ext x
  replace k8 := k8.ext x
  replace h10 := h10.ext x
  replace k10 := k10.ext x
  replace kE := kE.ext x
  replace X := ext_trans X x
  replace fP := kP.cell
  replace f9 := k9.cell
  replace f8 := k8.cell
  clear x
  rw [show allZero [0, 0] = true from rfl]
  clear kE
  go_wp2_with fail
  have h0 := check_iff.2 ⟨valid_mirror hV, sound_other hV hS⟩
  have hC := PCheck_any (mirrorR R) (otherP R P) _ _ _ h8 h9
  rw [h0] at hC
  refine (hC).mono ?_
  rintro e w19 ⟨rfl, x⟩
  replace hR := hR.ext x
  replace hP := hP.ext x
  replace kR := kR.ext x
  replace kP := kP.ext x
  replace h9 := h9.ext x
  replace k9 := k9.ext x
  replace h8 := h8.ext x
  replace k8 := k8.ext x
  replace h10 := h10.ext x
  replace k10 := k10.ext x
  replace X := ext_trans X x
  replace fP := kP.cell
  replace f9 := k9.cell
  replace f8 := k8.cell
  clear x
  clear hC h0
  clear f8
  clear f9
  clear k8 k9
  have f10 := k10.cell
  go_wp2_with fail
  have har := area_bd _ _ hV.side
  have ha := hS.area
  have hp6 := hV.pieces6
  have hl0 := hS.len0
  have hl1 := hS.len1
  have HS1 := hide (fun W (v1 v2 : Value) (h1 : PosAt W v1 P) (h2 : PosAt W v2 P) => same_yes P v1 v2 W h1 h2 (by omega) (by omega) (by omega))
  have HS2 := hide (fun W (v1 v2 : Value) (h1 : PosAt W v1 P) (h2 : PosAt W v2 P) => PSame_yes P v1 v2 W h1 h2 (by omega) (by omega) (by omega))
  clear har ha hp6 hl0 hl1
  refine (HS1.out _ _ _ h10 hP).mono ?_
  rintro e w20 ⟨rfl, x⟩
  replace hR := hR.ext x
  replace hP := hP.ext x
  replace kR := kR.ext x
  replace kP := kP.ext x
  replace h9 := h9.ext x
  replace h8 := h8.ext x
  replace h10 := h10.ext x
  replace k10 := k10.ext x
  replace X := ext_trans X x
  replace fP := kP.cell
  replace f10 := k10.cell
  clear x
  go_wp2_with fail
  refine (HS2.out _ _ _ h10 hP).mono ?_
  rintro e w21 ⟨rfl, x⟩
  replace hR := hR.ext x
  replace hP := hP.ext x
  replace kR := kR.ext x
  replace kP := kP.ext x
  replace h9 := h9.ext x
  replace h8 := h8.ext x
  replace h10 := h10.ext x
  replace k10 := k10.ext x
  replace X := ext_trans X x
  replace fP := kP.cell
  replace f10 := k10.cell
  clear x
  go_wp2
  go_ret
  exact ⟨rfl, X⟩
set_option maxHeartbeats 4000000 in
set_option maxRecDepth 100000 in
theorem otherLaw_no (v u : Value) (R : RulesM) (P : PosM) (w : World) (hR : RulesAt w v R) (hP : PosAt w u P) (h : checkE R P ≠ 0) :
    Calls Try.prog 4 #[v, u] w fun e w' => e = .returned (.bool true) ∧ Ext w w' := by
  have hR0 := hR
  have hP0 := hP
  obtain ⟨pA, pc, sA, sc, eA, ec, rfl, -⟩ := hR0
  obtain ⟨cA, cc, aA, ac, bA, bc, rfl, -⟩ := hP0
  go_enter Try.func4, Try.ntmps4
  go_wp2_with fail
  obtain ⟨xa, kR, kP⟩ := blks2 w #[.string R.name, .int .i64 R.width, .int .i64 R.height, .slice pA R.pieces.length pc, .slice sA R.start.length sc, .bool R.falls, .bool R.keeps, .slice eA R.ends.length ec, .int .i64 R.blocked, .int .i64 R.quiet, .int .i64 R.rept] 26 #[.slice cA P.cells.length cc, .slice aA P.hand0.length ac, .slice bA P.hand1.length bc, .int .i64 P.turn, .int .i64 P.quiet] 36
  replace hR := hR.ext xa
  replace hP := hP.ext xa
  have X := xa
  clear xa
  generalize ((w.alloc (.cells #[.string R.name, .int .i64 R.width, .int .i64 R.height, .slice pA R.pieces.length pc, .slice sA R.start.length sc, .bool R.falls, .bool R.keeps, .slice eA R.ends.length ec, .int .i64 R.blocked, .int .i64 R.quiet, .int .i64 R.rept] 26)).alloc (.cells #[.slice cA P.cells.length cc, .slice aA P.hand0.length ac, .slice bA P.hand1.length bc, .int .i64 P.turn, .int .i64 P.quiet] 36)) = w2 at *
  generalize w.heap.size + 1 = BP at *
  generalize w.heap.size = BR at *
  refine (three_any _).mono ?_
  rintro e w3 ⟨v3, rfl, h3, x⟩
  replace hR := hR.ext x
  replace hP := hP.ext x
  replace kR := kR.ext x
  replace kP := kP.ext x
  replace X := ext_trans X x
  clear x
  go_wp2_with fail
  refine (near_any _).mono ?_
  rintro e w4 ⟨v4, rfl, h4, x⟩
  replace hR := hR.ext x
  replace hP := hP.ext x
  replace kR := kR.ext x
  replace kP := kP.ext x
  replace h3 := h3.ext x
  replace X := ext_trans X x
  clear x
  replace h4 := h4.at_
  go_wp2_with fail
  refine (Other_yes threeR nearP _ _ _ h3 h4 valid_three sound_near).mono ?_
  rintro e w5 ⟨v5, rfl, h5, x⟩
  replace hR := hR.ext x
  replace hP := hP.ext x
  replace kR := kR.ext x
  replace kP := kP.ext x
  replace h3 := h3.ext x
  replace h4 := h4.ext x
  replace X := ext_trans X x
  clear x
  rw [other_near] at h5
  have h5v := h5
  obtain ⟨cA5, cc5, aA5, ac5, bA5, bc5, e5, i5, -⟩ := h5v
  have e5' : v5 = .agg #[.slice cA5 9 cc5, .slice aA5 1 ac5, .slice bA5 1 bc5, .int .i64 1, .int .i64 0] := e5
  subst e5'
  clear e5
  clear h3 h4
  go_wp2_with fail
  obtain ⟨xa, k5, k9⟩ := blks2 w5 #[.slice cA5 9 cc5, .slice aA5 1 ac5, .slice bA5 1 bc5, .int .i64 1, .int .i64 0] 36 #[.int .i64 0, .int .i64 0, .int .i64 0, .int .i64 1, .int .i64 1, .int .i64 0, .int .i64 2, .int .i64 2, .int .i64 0] 3
  replace hR := hR.ext xa
  replace hP := hP.ext xa
  replace kR := kR.ext xa
  replace kP := kP.ext xa
  replace h5 := h5.ext xa
  replace i5 := i5.ext xa
  replace X := ext_trans X xa
  clear xa
  generalize ((w5.alloc (.cells #[.slice cA5 9 cc5, .slice aA5 1 ac5, .slice bA5 1 bc5, .int .i64 1, .int .i64 0] 36)).alloc (.cells #[.int .i64 0, .int .i64 0, .int .i64 0, .int .i64 1, .int .i64 1, .int .i64 0, .int .i64 2, .int .i64 2, .int .i64 0] 3)) = w6 at *
  generalize w5.heap.size + 1 = B9 at *
  generalize w5.heap.size = B5 at *
  refine (eq_ext (EqInts_yes cA5 (some ⟨B9, 0, none⟩) 9 cc5 9 [0, 0, 0, 1, 1, 0, 2, 2, 0] _ rfl (by omega) i5 (blk_irow (zs := [0, 0, 0, 1, 1, 0, 2, 2, 0]) k9).ints)).mono ?_
  rintro e w7 ⟨rfl, x⟩
  replace hR := hR.ext x
  replace hP := hP.ext x
  replace kR := kR.ext x
  replace kP := kP.ext x
  replace h5 := h5.ext x
  replace i5 := i5.ext x
  replace k5 := k5.ext x
  replace k9 := k9.ext x
  replace X := ext_trans X x
  clear x
  clear k9 i5
  have f5 := k5.cell
  go_wp2_with fail
  refine (PSame_yes _ _ _ _ h5 h5 (by decide) (by decide) (by decide)).mono ?_
  rintro e w8 ⟨rfl, x⟩
  replace hR := hR.ext x
  replace hP := hP.ext x
  replace kR := kR.ext x
  replace kP := kP.ext x
  replace h5 := h5.ext x
  replace k5 := k5.ext x
  replace X := ext_trans X x
  replace f5 := k5.cell
  clear x
  clear f5
  clear k5 h5
  go_wp2_with fail
  refine (three_any _).mono ?_
  rintro e w9 ⟨v6, rfl, h6, x⟩
  replace hR := hR.ext x
  replace hP := hP.ext x
  replace kR := kR.ext x
  replace kP := kP.ext x
  replace X := ext_trans X x
  clear x
  go_wp2_with fail
  refine (Mirror_yes _ threeR _ h6 valid_three).mono ?_
  rintro e w10 ⟨v7, rfl, h7, x⟩
  replace hR := hR.ext x
  replace hP := hP.ext x
  replace kR := kR.ext x
  replace kP := kP.ext x
  replace h6 := h6.ext x
  replace X := ext_trans X x
  clear x
  obtain ⟨pA7, pc7, sA7, sc7, eA7, ec7, e7, -⟩ := h7
  have e7' : v7 = .agg #[.string ⟨#[84, 73, 67]⟩, .int .i64 3, .int .i64 3, .slice pA7 1 pc7, .slice sA7 9 sc7, .bool false, .bool false, .slice eA7 1 ec7, .int .i64 2, .int .i64 0, .int .i64 0] := by rw [e7]; show Value.agg #[.string ⟨#[84, 73, 67]⟩, .int .i64 3, .int .i64 3, .slice pA7 1 pc7, .slice sA7 (turnCells 3 3 threeR.start).length sc7, .bool false, .bool false, .slice eA7 1 ec7, .int .i64 2, .int .i64 0, .int .i64 0] = _; rw [turnCells_length]; rfl
  subst e7'
  clear e7
  clear h6
  have fR := kR.cell
  have fP := kP.cell
  obtain ⟨xa, -⟩ := blks1 w10 #[.string ⟨#[84, 73, 67]⟩, .int .i64 3, .int .i64 3, .slice pA7 1 pc7, .slice sA7 9 sc7, .bool false, .bool false, .slice eA7 1 ec7, .int .i64 2, .int .i64 0, .int .i64 0] 26
  replace hR := hR.ext xa
  replace hP := hP.ext xa
  replace kR := kR.ext xa
  replace kP := kP.ext xa
  replace X := ext_trans X xa
  have fR' := kR.cell
  have fP' := kP.cell
  clear xa
  go_wp2_with fail
  generalize (w10.alloc (.cells #[.string ⟨#[84, 73, 67]⟩, .int .i64 3, .int .i64 3, .slice pA7 1 pc7, .slice sA7 9 sc7, .bool false, .bool false, .slice eA7 1 ec7, .int .i64 2, .int .i64 0, .int .i64 0] 26)) = w11 at *
  generalize w10.heap.size = B7 at *
  replace fR := kR.cell
  clear fR'
  replace fP := kP.cell
  clear fP'
  have hn : (checkE R P != 0) = true := by simpa using h
  have HN := hide (fun W (v1 v2 : Value) (h1 : RulesAt W v1 R) (h2 : PosAt W v2 P) => Other_no R P v1 v2 W h1 h2 h)
  generalize checkE R P = E at *
  refine (HN.out _ _ _ hR hP).mono ?_
  rintro e w12 ⟨rfl, x⟩
  replace hR := hR.ext x
  replace hP := hP.ext x
  replace kR := kR.ext x
  replace kP := kP.ext x
  replace X := ext_trans X x
  replace fR := kR.cell
  replace fP := kP.cell
  clear x
  clear h HN
  obtain ⟨xa, k9⟩ := blks1 w12 #[.slice none 0 0, .slice none 0 0, .slice none 0 0, .int .i64 0, .int .i64 0] 36
  replace hR := hR.ext xa
  replace hP := hP.ext xa
  replace kR := kR.ext xa
  replace kP := kP.ext xa
  replace X := ext_trans X xa
  have fR' := kR.cell
  have fP' := kP.cell
  clear xa
  go_wp2_with fail
  generalize (w12.alloc (.cells #[.slice none 0 0, .slice none 0 0, .slice none 0 0, .int .i64 0, .int .i64 0] 36)) = w13 at *
  generalize w12.heap.size = B9 at *
  replace fR := kR.cell
  clear fR'
  replace fP := kP.cell
  clear fP'
  by_cases hE : rulesE R = 0
  · have hV := valid_of hE
    clear hE
    refine (Mirror_yes _ R _ hR hV).mono ?_
    rintro e w14 ⟨v8, rfl, h8, x⟩
    replace hR := hR.ext x
    replace hP := hP.ext x
    replace kR := kR.ext x
    replace kP := kP.ext x
    replace k9 := k9.ext x
    replace X := ext_trans X x
    replace fR := kR.cell
    replace fP := kP.cell
    clear x
    have h8v := h8
    obtain ⟨pA8, pc8, sA8, sc8, eA8, ec8, e8, -⟩ := h8v
    have e8' : v8 = .agg #[.string R.name, .int .i64 R.width, .int .i64 R.height, .slice pA8 R.pieces.length pc8, .slice sA8 R.start.length sc8, .bool R.falls, .bool R.keeps, .slice eA8 R.ends.length ec8, .int .i64 R.blocked, .int .i64 R.quiet, .int .i64 R.rept] := by rw [e8]; show Value.agg #[.string R.name, .int .i64 R.width, .int .i64 R.height, .slice pA8 R.pieces.length pc8, .slice sA8 (turnCells R.width R.height R.start).length sc8, .bool R.falls, .bool R.keeps, .slice eA8 R.ends.length ec8, .int .i64 R.blocked, .int .i64 R.quiet, .int .i64 R.rept] = _; rw [turnCells_length]
    subst e8'
    clear e8 h8
    have f9 := k9.cell
    clear fR fP
    obtain ⟨xa, -⟩ := blks1 w14 #[.string R.name, .int .i64 R.width, .int .i64 R.height, .slice pA8 R.pieces.length pc8, .slice sA8 R.start.length sc8, .bool R.falls, .bool R.keeps, .slice eA8 R.ends.length ec8, .int .i64 R.blocked, .int .i64 R.quiet, .int .i64 R.rept] 26
    replace hR := hR.ext xa
    replace hP := hP.ext xa
    replace kR := kR.ext xa
    replace kP := kP.ext xa
    replace k9 := k9.ext xa
    replace X := ext_trans X xa
    have f9' := k9.cell
    clear xa
    go_wp2
    generalize (w14.alloc (.cells #[.string R.name, .int .i64 R.width, .int .i64 R.height, .slice pA8 R.pieces.length pc8, .slice sA8 R.start.length sc8, .bool R.falls, .bool R.keeps, .slice eA8 R.ends.length ec8, .int .i64 R.blocked, .int .i64 R.quiet, .int .i64 R.rept] 26)) = w15 at *
    generalize w14.heap.size = B8 at *
    replace f9 := k9.cell
    clear f9'
    go_ret
    exact ⟨rfl, X⟩
  · skip
    refine (Mirror_no _ R _ hR hE).mono ?_
    rintro e w14 ⟨rfl, x⟩
    replace hR := hR.ext x
    replace hP := hP.ext x
    replace kR := kR.ext x
    replace kP := kP.ext x
    replace k9 := k9.ext x
    replace X := ext_trans X x
    replace fR := kR.cell
    replace fP := kP.cell
    clear x
    clear hE
    have f9 := k9.cell
    clear fR fP
    obtain ⟨xa, -⟩ := blks1 w14 #[.string ⟨#[]⟩, .int .i64 0, .int .i64 0, .slice none 0 0, .slice none 0 0, .bool false, .bool false, .slice none 0 0, .int .i64 0, .int .i64 0, .int .i64 0] 26
    replace hR := hR.ext xa
    replace hP := hP.ext xa
    replace kR := kR.ext xa
    replace kP := kP.ext xa
    replace k9 := k9.ext xa
    replace X := ext_trans X xa
    have f9' := k9.cell
    clear xa
    go_wp2
    generalize (w14.alloc (.cells #[.string ⟨#[]⟩, .int .i64 0, .int .i64 0, .slice none 0 0, .slice none 0 0, .bool false, .bool false, .slice none 0 0, .int .i64 0, .int .i64 0, .int .i64 0] 26)) = w15 at *
    generalize w14.heap.size = B8 at *
    replace f9 := k9.cell
    clear f9'
    go_ret
    exact ⟨rfl, X⟩

theorem otherLaw_any (v u : Value) (R : RulesM) (P : PosM) (w : World) (hR : RulesAt w v R) (hP : PosAt w u P) :
    Calls Try.prog 4 #[v, u] w fun e w' => e = .returned (.bool true) ∧ Ext w w' := by
  by_cases h : checkE R P = 0
  · obtain ⟨hV, hS⟩ := check_iff.1 h
    exact otherLaw_yes v u R P w hR hP hV hS
  · exact otherLaw_no v u R P w hR hP h
end Go.Proofs.Ytcfiannlpkofpaa
