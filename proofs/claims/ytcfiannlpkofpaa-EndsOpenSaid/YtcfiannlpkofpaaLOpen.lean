/- Walk: the law EndsOpen. -/
import Derived.Test.YtcfiannlpkofpaaWon
import Derived.Test.YtcfiannlpkofpaaPlays
import Derived.Test.YtcfiannlpkofpaaRegionK
namespace Go.Proofs.Ytcfiannlpkofpaa
open Go.ChangeShapes Go.WideShapes Go.ChangeAt Go.RowKit Go.Shelf
set_option linter.unusedVariables false
set_option linter.unusedSimpArgs false
set_option maxHeartbeats 4000000 in
set_option maxRecDepth 100000 in
theorem endsOpen_no (R : RulesM) (P : PosM) (v u : Value) (w : World) (hR : RulesAt w v R) (hP : PosAt w u P) (h : checkE R P ≠ 0) :
    Calls Try.prog 11 #[v, u] w fun e w' => e = .returned (.bool true) ∧ Ext w w' := by
  have hR0 := hR
  have hP0 := hP
  obtain ⟨pA, pc, sA, sc, eA, ec, rfl, -⟩ := hR0
  obtain ⟨cA, cc, aA, ac, bA, bc, rfl, -⟩ := hP0
  go_enter Try.func11, Try.ntmps11
  go_wp2_with fail
  obtain ⟨xa, kR, kP⟩ := blks2 w #[.string R.name, .int .i64 R.width, .int .i64 R.height, .slice pA R.pieces.length pc, .slice sA R.start.length sc, .bool R.falls, .bool R.keeps, .slice eA R.ends.length ec, .int .i64 R.blocked, .int .i64 R.quiet, .int .i64 R.rept] 26 #[.slice cA P.cells.length cc, .slice aA P.hand0.length ac, .slice bA P.hand1.length bc, .int .i64 P.turn, .int .i64 P.quiet] 36
  replace hR := hR.ext xa
  replace hP := hP.ext xa
  have X := xa
  clear xa
  generalize ((w.alloc (.cells #[.string R.name, .int .i64 R.width, .int .i64 R.height, .slice pA R.pieces.length pc, .slice sA R.start.length sc, .bool R.falls, .bool R.keeps, .slice eA R.ends.length ec, .int .i64 R.blocked, .int .i64 R.quiet, .int .i64 R.rept] 26)).alloc (.cells #[.slice cA P.cells.length cc, .slice aA P.hand0.length ac, .slice bA P.hand1.length bc, .int .i64 P.turn, .int .i64 P.quiet] 36)) = w2 at *
  generalize w.heap.size + 1 = BP at *
  generalize w.heap.size = BR at *
  have HWO := hide (fun W (v1 v2 : Value) (h1 : RulesAt W v1 threeR) (h2 : PosAt W v2 wonP) => won_any v1 v2 W h1 h2)
  have HNO := hide (fun W (v1 v2 : Value) (h1 : RulesAt W v1 threeR) (h2 : PosAt W v2 nearP) => near_open v1 v2 W h1 h2)
  refine (three_any _).mono ?_
  rintro e w3 ⟨v1, rfl, h1, x⟩
  replace hR := hR.ext x
  replace hP := hP.ext x
  replace kR := kR.ext x
  replace kP := kP.ext x
  replace X := ext_trans X x
  clear x
  go_wp2_with fail
  refine (near_any _).mono ?_
  rintro e w4 ⟨v2, rfl, h2, x⟩
  replace hR := hR.ext x
  replace hP := hP.ext x
  replace kR := kR.ext x
  replace kP := kP.ext x
  replace h1 := h1.ext x
  replace X := ext_trans X x
  clear x
  replace h2 := h2.at_
  go_wp2_with fail
  refine (HNO.out _ _ _ h1 h2).mono ?_
  rintro e w5 ⟨rfl, x⟩
  replace hR := hR.ext x
  replace hP := hP.ext x
  replace kR := kR.ext x
  replace kP := kP.ext x
  replace h1 := h1.ext x
  replace h2 := h2.ext x
  replace X := ext_trans X x
  clear x
  clear h1 h2
  clear HNO
  go_wp2_with fail
  refine (plays_any _).mono ?_
  rintro e w6 ⟨rfl, x⟩
  replace hR := hR.ext x
  replace hP := hP.ext x
  replace kR := kR.ext x
  replace kP := kP.ext x
  replace X := ext_trans X x
  clear x
  go_wp2_with fail
  have HS0 := hide (fun W (h : Ext w6 W) => And.intro (hR.ext h) (And.intro (hP.ext h) (And.intro (kR.ext h) (And.intro (kP.ext h) (ext_trans X h)))))
  clear hR hP kR kP X
  refine (near_any _).mono ?_
  rintro e wn ⟨vn, rfl, hn, xn⟩
  obtain ⟨g0, c0, g1, c1, g2, c2, en, b0, b1, b2, r0, r1, r2, m0, m1, m2⟩ := hn
  have en' : vn = .agg #[.slice (some ⟨g0, 0, none⟩) 9 c0, .slice (some ⟨g1, 0, none⟩) 1 c1, .slice (some ⟨g2, 0, none⟩) 1 c2, .int .i64 0, .int .i64 0] := en
  subst en'
  clear en
  obtain ⟨xa, kW⟩ := blks1 wn #[.slice (some ⟨g0, 0, none⟩) 9 c0, .slice (some ⟨g1, 0, none⟩) 1 c1, .slice (some ⟨g2, 0, none⟩) 1 c2, .int .i64 0, .int .i64 0] 36
  have q0 := r0.alloc (.cells #[.slice (some ⟨g0, 0, none⟩) 9 c0, .slice (some ⟨g1, 0, none⟩) 1 c1, .slice (some ⟨g2, 0, none⟩) 1 c2, .int .i64 0, .int .i64 0] 36)
  have q1 := r1.alloc (.cells #[.slice (some ⟨g0, 0, none⟩) 9 c0, .slice (some ⟨g1, 0, none⟩) 1 c1, .slice (some ⟨g2, 0, none⟩) 1 c2, .int .i64 0, .int .i64 0] 36)
  have q2 := r2.alloc (.cells #[.slice (some ⟨g0, 0, none⟩) 9 c0, .slice (some ⟨g1, 0, none⟩) 1 c1, .slice (some ⟨g2, 0, none⟩) 1 c2, .int .i64 0, .int .i64 0] 36)
  have hlt : Hid (w6.heap.size ≤ g0 ∧ g0 < g1 ∧ g1 < g2 ∧ g2 < wn.heap.size) := hide ⟨b0, b1, b2, r2.lt⟩
  have HXN := hide (ext_trans xn xa)
  clear r0 r1 r2 b0 b1 b2 xn xa
  go_upto_region 5 with fail
  generalize wn.alloc (.cells #[.slice (some ⟨g0, 0, none⟩) 9 c0, .slice (some ⟨g1, 0, none⟩) 1 c1, .slice (some ⟨g2, 0, none⟩) 1 c2, .int .i64 0, .int .i64 0] 36) = wm at *
  generalize wn.heap.size = BW at *
  have kc := kW.cell
  have kz := kW.frozen
  have s2 : wm.cell? ⟨g0, 2, none⟩ = some (.int .i64 0) := q0.cell (i := 2) (by decide)
  have sz : wm.frozen? ⟨g0, 2, none⟩ = false := q0.frozen 2
  have ng : ¬ BW = g0 := by have := hlt.out; omega
  have ng' : ¬ g0 = BW := by have := hlt.out; omega
  go_wp2_with fail
  have KF := hide (blk_put (Blk.far kW (p := ⟨g0, 2, none⟩) ng (.int .i64 1)) (i := 3) (u := .int .i64 1) (cs' := #[.slice (some ⟨g0, 0, none⟩) 9 c0, .slice (some ⟨g1, 0, none⟩) 1 c1, .slice (some ⟨g2, 0, none⟩) 1 c2, .int .i64 1, .int .i64 0]) rfl)
  have PF : Hid (PosAt ((wm.setCell ⟨g0, 2, none⟩ (.int .i64 1)).setCell ⟨BW, 3, none⟩ (.int .i64 1)) (.agg #[.slice (some ⟨g0, 0, none⟩) 9 c0, .slice (some ⟨g1, 0, none⟩) 1 c1, .slice (some ⟨g2, 0, none⟩) 1 c2, .int .i64 1, .int .i64 0]) wonP) := hide ⟨_, c0, _, c1, _, c2, rfl, (IRow.far (q0.set_ 2 1) (p := ⟨BW, 3, none⟩) ng' _).ints, (IRow.far (IRow.far q1 (p := ⟨g0, 2, none⟩) (by have := hlt.out; show g1 ≠ g0; omega) _) (p := ⟨BW, 3, none⟩) (by have := hlt.out; show g1 ≠ BW; omega) _).ints, (IRow.far (IRow.far q2 (p := ⟨g0, 2, none⟩) (by have := hlt.out; show g2 ≠ g0; omega) _) (p := ⟨BW, 3, none⟩) (by have := hlt.out; show g2 ≠ BW; omega) _).ints, m0, m1, m2⟩
  have XF := hide (ext_set (ext_set HXN.out (p := ⟨g0, 2, none⟩) (by have := hlt.out; show w6.heap.size ≤ g0; omega) (.int .i64 1)) (p := ⟨BW, 3, none⟩) (by have := hlt.out; show w6.heap.size ≤ BW; omega) (.int .i64 1))
  clear kc kz s2 sz kW q0 q1 q2 ng ng' m0 m1 m2 HXN hlt
  generalize (wm.setCell ⟨g0, 2, none⟩ (.int .i64 1)).setCell ⟨BW, 3, none⟩ (.int .i64 1) = wf at *
  have keepK := hide (fun W (h : Ext wf W) => (show (fun W => W.cell? ⟨BW, 0, none⟩ = some (.slice (some ⟨g0, 0, none⟩) 9 c0) ∧ W.cell? ⟨BW, 1, none⟩ = some (.slice (some ⟨g1, 0, none⟩) 1 c1) ∧ W.cell? ⟨BW, 2, none⟩ = some (.slice (some ⟨g2, 0, none⟩) 1 c2) ∧ W.cell? ⟨BW, 3, none⟩ = some (.int .i64 1) ∧ W.cell? ⟨BW, 4, none⟩ = some (.int .i64 0) ∧ Ext wf W) W from ⟨(KF.out.ext h).cell 0, (KF.out.ext h).cell 1, (KF.out.ext h).cell 2, (KF.out.ext h).cell 3, (KF.out.ext h).cell 4, h⟩))
  have yy : Ext wf wf.drew := Below.drew (Below.refl _ _)
  refine region_K (fun W => W.cell? ⟨BW, 0, none⟩ = some (.slice (some ⟨g0, 0, none⟩) 9 c0) ∧ W.cell? ⟨BW, 1, none⟩ = some (.slice (some ⟨g1, 0, none⟩) 1 c1) ∧ W.cell? ⟨BW, 2, none⟩ = some (.slice (some ⟨g2, 0, none⟩) 1 c2) ∧ W.cell? ⟨BW, 3, none⟩ = some (.int .i64 1) ∧ W.cell? ⟨BW, 4, none⟩ = some (.int .i64 0) ∧ Ext wf W) (fun _ => True) [] (by kernel_rfl) ?_
  have hT0 := keepK.out _ yy
  refine anyK_take 1 (oi := ?oo1) ?ho1 (by kernel_rfl) (by kernel_rfl) (by kernel_rfl) (by kernel_rfl) ?hq1 ?hw1 hT0 (fun _ => trivial) (v := ?vv1) ?hy1 ?hk1
  case ho1 => (simp only [List.getElem?_toArray, List.getElem?_cons_succ, List.getElem?_cons_zero]; rfl)
  case hq1 => exact fun _ _ _ h => h
  case hw1 => rfl
  case hy1 =>
    intro W hW
    obtain ⟨z0, z1, z2, z3, z4, z5⟩ := hW
    go_simp
    first | done | with_reducible rfl
  case hk1 =>
  try simp only [Act.put, List.setIfInBounds_toArray, List.set_cons_zero, List.set_cons_succ]
  refine anyK_on1 0 (by kernel_rfl) ?_
  refine anyK_one 0 (o := ?oo2) ?ho2 ?hk2
  case ho2 => (simp only [List.getElem?_toArray, List.getElem?_cons_succ, List.getElem?_cons_zero]; rfl)
  case hk2 =>
  intro K hK
  go_simp
  refine (three_any _).mono ?_
  rintro e wt ⟨vt, rfl, ht, xx⟩
  try go_wp2_with fail
  replace yy := ext_trans yy xx
  have hT1 := keepK.out _ yy
  refine hK.out _ _ hT1 (fun _ => trivial) ?_
  clear hK K
  try simp only [Act.put, List.setIfInBounds_toArray, List.set_cons_zero, List.set_cons_succ]
  refine anyK_on1 2 (by kernel_rfl) ?_
  refine anyK_one 2 (o := ?oo3) ?ho3 ?hk3
  case ho3 => (simp only [List.getElem?_toArray, List.getElem?_cons_succ, List.getElem?_cons_zero]; rfl)
  case hk3 =>
  intro K hK
  go_simp
  refine (HWO.out _ _ _ ht (PF.out.ext yy)).mono ?_
  rintro e wo ⟨rfl, xx⟩
  try go_wp2_with fail
  replace yy := ext_trans yy xx
  have hT2 := keepK.out _ yy
  refine hK.out _ _ hT2 (fun _ => trivial) ?_
  clear hK K
  try simp only [Act.put, List.setIfInBounds_toArray, List.set_cons_zero, List.set_cons_succ]
  refine anyK_take 3 (oi := ?oo4) ?ho4 (by kernel_rfl) (by kernel_rfl) (by kernel_rfl) (by kernel_rfl) ?hq4 ?hw4 hT2 (fun _ => trivial) (v := ?vv4) ?hy4 ?hk4
  case ho4 => (simp only [List.getElem?_toArray, List.getElem?_cons_succ, List.getElem?_cons_zero]; rfl)
  case hq4 => exact fun _ _ _ h => h
  case hw4 => rfl
  case hy4 =>
    intro W hW
    go_simp
    first | done | with_reducible rfl
  case hk4 =>
  try simp only [Act.put, List.setIfInBounds_toArray, List.set_cons_zero, List.set_cons_succ]
  refine anyK_take 4 (oi := ?oo5) ?ho5 (by kernel_rfl) (by kernel_rfl) (by kernel_rfl) (by kernel_rfl) ?hq5 ?hw5 hT2 (fun _ => trivial) (v := ?vv5) ?hy5 ?hk5
  case ho5 => (simp only [List.getElem?_toArray, List.getElem?_cons_succ, List.getElem?_cons_zero]; rfl)
  case hq5 => exact fun _ _ _ h => h
  case hw5 => rfl
  case hy5 =>
    intro W hW
    go_simp
    first | done | with_reducible rfl
  case hk5 =>
  try simp only [Act.put, List.setIfInBounds_toArray, List.set_cons_zero, List.set_cons_succ]
  refine anyK_take 5 (oi := ?oo6) ?ho6 (by kernel_rfl) (by kernel_rfl) (by kernel_rfl) (by kernel_rfl) ?hq6 ?hw6 hT2 (fun _ => trivial) (v := ?vv6) ?hy6 ?hk6
  case ho6 => (simp only [List.getElem?_toArray, List.getElem?_cons_succ, List.getElem?_cons_zero]; rfl)
  case hq6 => exact fun _ _ _ h => h
  case hw6 => rfl
  case hy6 =>
    intro W hW
    go_simp
    first | done | with_reducible rfl
  case hk6 =>
  try simp only [Act.put, List.setIfInBounds_toArray, List.set_cons_zero, List.set_cons_succ]
  refine anyK_take 6 (oi := ?oo7) ?ho7 (by kernel_rfl) (by kernel_rfl) (by kernel_rfl) (by kernel_rfl) ?hq7 ?hw7 hT2 (fun _ => trivial) (v := ?vv7) ?hy7 ?hk7
  case ho7 => (simp only [List.getElem?_toArray, List.getElem?_cons_succ, List.getElem?_cons_zero]; rfl)
  case hq7 => exact fun _ _ _ h => h
  case hw7 => rfl
  case hy7 =>
    intro W hW
    go_simp
    first | done | with_reducible rfl
  case hk7 =>
  try simp only [Act.put, List.setIfInBounds_toArray, List.set_cons_zero, List.set_cons_succ]
  refine anyK_take 7 (oi := ?oo8) ?ho8 (by kernel_rfl) (by kernel_rfl) (by kernel_rfl) (by kernel_rfl) ?hq8 ?hw8 hT2 (fun _ => trivial) (v := ?vv8) ?hy8 ?hk8
  case ho8 => (simp only [List.getElem?_toArray, List.getElem?_cons_succ, List.getElem?_cons_zero]; rfl)
  case hq8 => exact fun _ _ _ h => h
  case hw8 => rfl
  case hy8 =>
    intro W hW
    go_simp
    first | done | with_reducible rfl
  case hk8 =>
  try simp only [Act.put, List.setIfInBounds_toArray, List.set_cons_zero, List.set_cons_succ]
  refine anyK_done (by kernel_rfl) ?_ _
  clear keepK hT0 hT1 hT2
  obtain ⟨hR, hP, kR, kP, X⟩ := HS0.out _ (ext_trans XF.out yy)
  clear HS0 XF KF PF HWO ht xx yy
  have fR := kR.cell
  have fP := kP.cell
  go_wp2_with fail
  have hn : (checkE R P != 0) = true := by simpa using h
  have HN := hide (fun W (v1 v2 : Value) (h1 : RulesAt W v1 R) (h2 : PosAt W v2 P) => EOf_no R P v1 v2 W h1 h2 h)
  have HN2 := hide (fun W (v1 v2 : Value) (h1 : RulesAt W v1 R) (h2 : PosAt W v2 P) => All_no R P v1 v2 W h1 h2 h)
  clear h
  generalize checkE R P = E at *
  refine (HN.out _ _ _ hR hP).mono ?_
  rintro e w27 ⟨rfl, x⟩
  replace hR := hR.ext x
  replace hP := hP.ext x
  replace kR := kR.ext x
  replace kP := kP.ext x
  replace X := ext_trans X x
  replace fR := kR.cell
  replace fP := kP.cell
  clear x
  go_wp2_with fail
  refine (HN2.out _ _ _ hR hP).mono ?_
  rintro e w28 ⟨rfl, x⟩
  replace hR := hR.ext x
  replace hP := hP.ext x
  replace kR := kR.ext x
  replace kP := kP.ext x
  replace X := ext_trans X x
  replace fR := kR.cell
  replace fP := kP.cell
  clear x
  clear fR fP
  go_wp2
  go_ret
  exact ⟨by first | rfl | simp, X⟩
set_option maxHeartbeats 4000000 in
set_option maxRecDepth 100000 in
theorem endsOpen_yes (R : RulesM) (P : PosM) (v u : Value) (w : World) (hR : RulesAt w v R) (hP : PosAt w u P) (hV : Valid R) (hS : Sound R P) :
    Calls Try.prog 11 #[v, u] w fun e w' => e = .returned (.bool true) ∧ Ext w w' := by
  have hR0 := hR
  have hP0 := hP
  obtain ⟨pA, pc, sA, sc, eA, ec, rfl, -⟩ := hR0
  obtain ⟨cA, cc, aA, ac, bA, bc, rfl, -⟩ := hP0
  go_enter Try.func11, Try.ntmps11
  go_wp2_with fail
  obtain ⟨xa, kR, kP⟩ := blks2 w #[.string R.name, .int .i64 R.width, .int .i64 R.height, .slice pA R.pieces.length pc, .slice sA R.start.length sc, .bool R.falls, .bool R.keeps, .slice eA R.ends.length ec, .int .i64 R.blocked, .int .i64 R.quiet, .int .i64 R.rept] 26 #[.slice cA P.cells.length cc, .slice aA P.hand0.length ac, .slice bA P.hand1.length bc, .int .i64 P.turn, .int .i64 P.quiet] 36
  replace hR := hR.ext xa
  replace hP := hP.ext xa
  have X := xa
  clear xa
  generalize ((w.alloc (.cells #[.string R.name, .int .i64 R.width, .int .i64 R.height, .slice pA R.pieces.length pc, .slice sA R.start.length sc, .bool R.falls, .bool R.keeps, .slice eA R.ends.length ec, .int .i64 R.blocked, .int .i64 R.quiet, .int .i64 R.rept] 26)).alloc (.cells #[.slice cA P.cells.length cc, .slice aA P.hand0.length ac, .slice bA P.hand1.length bc, .int .i64 P.turn, .int .i64 P.quiet] 36)) = w2 at *
  generalize w.heap.size + 1 = BP at *
  generalize w.heap.size = BR at *
  have HWO := hide (fun W (v1 v2 : Value) (h1 : RulesAt W v1 threeR) (h2 : PosAt W v2 wonP) => won_any v1 v2 W h1 h2)
  have HNO := hide (fun W (v1 v2 : Value) (h1 : RulesAt W v1 threeR) (h2 : PosAt W v2 nearP) => near_open v1 v2 W h1 h2)
  refine (three_any _).mono ?_
  rintro e w3 ⟨v1, rfl, h1, x⟩
  replace hR := hR.ext x
  replace hP := hP.ext x
  replace kR := kR.ext x
  replace kP := kP.ext x
  replace X := ext_trans X x
  clear x
  go_wp2_with fail
  refine (near_any _).mono ?_
  rintro e w4 ⟨v2, rfl, h2, x⟩
  replace hR := hR.ext x
  replace hP := hP.ext x
  replace kR := kR.ext x
  replace kP := kP.ext x
  replace h1 := h1.ext x
  replace X := ext_trans X x
  clear x
  replace h2 := h2.at_
  go_wp2_with fail
  refine (HNO.out _ _ _ h1 h2).mono ?_
  rintro e w5 ⟨rfl, x⟩
  replace hR := hR.ext x
  replace hP := hP.ext x
  replace kR := kR.ext x
  replace kP := kP.ext x
  replace h1 := h1.ext x
  replace h2 := h2.ext x
  replace X := ext_trans X x
  clear x
  clear h1 h2
  clear HNO
  go_wp2_with fail
  refine (plays_any _).mono ?_
  rintro e w6 ⟨rfl, x⟩
  replace hR := hR.ext x
  replace hP := hP.ext x
  replace kR := kR.ext x
  replace kP := kP.ext x
  replace X := ext_trans X x
  clear x
  go_wp2_with fail
  have HS0 := hide (fun W (h : Ext w6 W) => And.intro (hR.ext h) (And.intro (hP.ext h) (And.intro (kR.ext h) (And.intro (kP.ext h) (ext_trans X h)))))
  clear hR hP kR kP X
  refine (near_any _).mono ?_
  rintro e wn ⟨vn, rfl, hn, xn⟩
  obtain ⟨g0, c0, g1, c1, g2, c2, en, b0, b1, b2, r0, r1, r2, m0, m1, m2⟩ := hn
  have en' : vn = .agg #[.slice (some ⟨g0, 0, none⟩) 9 c0, .slice (some ⟨g1, 0, none⟩) 1 c1, .slice (some ⟨g2, 0, none⟩) 1 c2, .int .i64 0, .int .i64 0] := en
  subst en'
  clear en
  obtain ⟨xa, kW⟩ := blks1 wn #[.slice (some ⟨g0, 0, none⟩) 9 c0, .slice (some ⟨g1, 0, none⟩) 1 c1, .slice (some ⟨g2, 0, none⟩) 1 c2, .int .i64 0, .int .i64 0] 36
  have q0 := r0.alloc (.cells #[.slice (some ⟨g0, 0, none⟩) 9 c0, .slice (some ⟨g1, 0, none⟩) 1 c1, .slice (some ⟨g2, 0, none⟩) 1 c2, .int .i64 0, .int .i64 0] 36)
  have q1 := r1.alloc (.cells #[.slice (some ⟨g0, 0, none⟩) 9 c0, .slice (some ⟨g1, 0, none⟩) 1 c1, .slice (some ⟨g2, 0, none⟩) 1 c2, .int .i64 0, .int .i64 0] 36)
  have q2 := r2.alloc (.cells #[.slice (some ⟨g0, 0, none⟩) 9 c0, .slice (some ⟨g1, 0, none⟩) 1 c1, .slice (some ⟨g2, 0, none⟩) 1 c2, .int .i64 0, .int .i64 0] 36)
  have hlt : Hid (w6.heap.size ≤ g0 ∧ g0 < g1 ∧ g1 < g2 ∧ g2 < wn.heap.size) := hide ⟨b0, b1, b2, r2.lt⟩
  have HXN := hide (ext_trans xn xa)
  clear r0 r1 r2 b0 b1 b2 xn xa
  go_upto_region 5 with fail
  generalize wn.alloc (.cells #[.slice (some ⟨g0, 0, none⟩) 9 c0, .slice (some ⟨g1, 0, none⟩) 1 c1, .slice (some ⟨g2, 0, none⟩) 1 c2, .int .i64 0, .int .i64 0] 36) = wm at *
  generalize wn.heap.size = BW at *
  have kc := kW.cell
  have kz := kW.frozen
  have s2 : wm.cell? ⟨g0, 2, none⟩ = some (.int .i64 0) := q0.cell (i := 2) (by decide)
  have sz : wm.frozen? ⟨g0, 2, none⟩ = false := q0.frozen 2
  have ng : ¬ BW = g0 := by have := hlt.out; omega
  have ng' : ¬ g0 = BW := by have := hlt.out; omega
  go_wp2_with fail
  have KF := hide (blk_put (Blk.far kW (p := ⟨g0, 2, none⟩) ng (.int .i64 1)) (i := 3) (u := .int .i64 1) (cs' := #[.slice (some ⟨g0, 0, none⟩) 9 c0, .slice (some ⟨g1, 0, none⟩) 1 c1, .slice (some ⟨g2, 0, none⟩) 1 c2, .int .i64 1, .int .i64 0]) rfl)
  have PF : Hid (PosAt ((wm.setCell ⟨g0, 2, none⟩ (.int .i64 1)).setCell ⟨BW, 3, none⟩ (.int .i64 1)) (.agg #[.slice (some ⟨g0, 0, none⟩) 9 c0, .slice (some ⟨g1, 0, none⟩) 1 c1, .slice (some ⟨g2, 0, none⟩) 1 c2, .int .i64 1, .int .i64 0]) wonP) := hide ⟨_, c0, _, c1, _, c2, rfl, (IRow.far (q0.set_ 2 1) (p := ⟨BW, 3, none⟩) ng' _).ints, (IRow.far (IRow.far q1 (p := ⟨g0, 2, none⟩) (by have := hlt.out; show g1 ≠ g0; omega) _) (p := ⟨BW, 3, none⟩) (by have := hlt.out; show g1 ≠ BW; omega) _).ints, (IRow.far (IRow.far q2 (p := ⟨g0, 2, none⟩) (by have := hlt.out; show g2 ≠ g0; omega) _) (p := ⟨BW, 3, none⟩) (by have := hlt.out; show g2 ≠ BW; omega) _).ints, m0, m1, m2⟩
  have XF := hide (ext_set (ext_set HXN.out (p := ⟨g0, 2, none⟩) (by have := hlt.out; show w6.heap.size ≤ g0; omega) (.int .i64 1)) (p := ⟨BW, 3, none⟩) (by have := hlt.out; show w6.heap.size ≤ BW; omega) (.int .i64 1))
  clear kc kz s2 sz kW q0 q1 q2 ng ng' m0 m1 m2 HXN hlt
  generalize (wm.setCell ⟨g0, 2, none⟩ (.int .i64 1)).setCell ⟨BW, 3, none⟩ (.int .i64 1) = wf at *
  have keepK := hide (fun W (h : Ext wf W) => (show (fun W => W.cell? ⟨BW, 0, none⟩ = some (.slice (some ⟨g0, 0, none⟩) 9 c0) ∧ W.cell? ⟨BW, 1, none⟩ = some (.slice (some ⟨g1, 0, none⟩) 1 c1) ∧ W.cell? ⟨BW, 2, none⟩ = some (.slice (some ⟨g2, 0, none⟩) 1 c2) ∧ W.cell? ⟨BW, 3, none⟩ = some (.int .i64 1) ∧ W.cell? ⟨BW, 4, none⟩ = some (.int .i64 0) ∧ Ext wf W) W from ⟨(KF.out.ext h).cell 0, (KF.out.ext h).cell 1, (KF.out.ext h).cell 2, (KF.out.ext h).cell 3, (KF.out.ext h).cell 4, h⟩))
  have yy : Ext wf wf.drew := Below.drew (Below.refl _ _)
  refine region_K (fun W => W.cell? ⟨BW, 0, none⟩ = some (.slice (some ⟨g0, 0, none⟩) 9 c0) ∧ W.cell? ⟨BW, 1, none⟩ = some (.slice (some ⟨g1, 0, none⟩) 1 c1) ∧ W.cell? ⟨BW, 2, none⟩ = some (.slice (some ⟨g2, 0, none⟩) 1 c2) ∧ W.cell? ⟨BW, 3, none⟩ = some (.int .i64 1) ∧ W.cell? ⟨BW, 4, none⟩ = some (.int .i64 0) ∧ Ext wf W) (fun _ => True) [] (by kernel_rfl) ?_
  have hT0 := keepK.out _ yy
  refine anyK_take 1 (oi := ?oo9) ?ho9 (by kernel_rfl) (by kernel_rfl) (by kernel_rfl) (by kernel_rfl) ?hq9 ?hw9 hT0 (fun _ => trivial) (v := ?vv9) ?hy9 ?hk9
  case ho9 => (simp only [List.getElem?_toArray, List.getElem?_cons_succ, List.getElem?_cons_zero]; rfl)
  case hq9 => exact fun _ _ _ h => h
  case hw9 => rfl
  case hy9 =>
    intro W hW
    obtain ⟨z0, z1, z2, z3, z4, z5⟩ := hW
    go_simp
    first | done | with_reducible rfl
  case hk9 =>
  try simp only [Act.put, List.setIfInBounds_toArray, List.set_cons_zero, List.set_cons_succ]
  refine anyK_on1 0 (by kernel_rfl) ?_
  refine anyK_one 0 (o := ?oo10) ?ho10 ?hk10
  case ho10 => (simp only [List.getElem?_toArray, List.getElem?_cons_succ, List.getElem?_cons_zero]; rfl)
  case hk10 =>
  intro K hK
  go_simp
  refine (three_any _).mono ?_
  rintro e wt ⟨vt, rfl, ht, xx⟩
  try go_wp2_with fail
  replace yy := ext_trans yy xx
  have hT1 := keepK.out _ yy
  refine hK.out _ _ hT1 (fun _ => trivial) ?_
  clear hK K
  try simp only [Act.put, List.setIfInBounds_toArray, List.set_cons_zero, List.set_cons_succ]
  refine anyK_on1 2 (by kernel_rfl) ?_
  refine anyK_one 2 (o := ?oo11) ?ho11 ?hk11
  case ho11 => (simp only [List.getElem?_toArray, List.getElem?_cons_succ, List.getElem?_cons_zero]; rfl)
  case hk11 =>
  intro K hK
  go_simp
  refine (HWO.out _ _ _ ht (PF.out.ext yy)).mono ?_
  rintro e wo ⟨rfl, xx⟩
  try go_wp2_with fail
  replace yy := ext_trans yy xx
  have hT2 := keepK.out _ yy
  refine hK.out _ _ hT2 (fun _ => trivial) ?_
  clear hK K
  try simp only [Act.put, List.setIfInBounds_toArray, List.set_cons_zero, List.set_cons_succ]
  refine anyK_take 3 (oi := ?oo12) ?ho12 (by kernel_rfl) (by kernel_rfl) (by kernel_rfl) (by kernel_rfl) ?hq12 ?hw12 hT2 (fun _ => trivial) (v := ?vv12) ?hy12 ?hk12
  case ho12 => (simp only [List.getElem?_toArray, List.getElem?_cons_succ, List.getElem?_cons_zero]; rfl)
  case hq12 => exact fun _ _ _ h => h
  case hw12 => rfl
  case hy12 =>
    intro W hW
    go_simp
    first | done | with_reducible rfl
  case hk12 =>
  try simp only [Act.put, List.setIfInBounds_toArray, List.set_cons_zero, List.set_cons_succ]
  refine anyK_take 4 (oi := ?oo13) ?ho13 (by kernel_rfl) (by kernel_rfl) (by kernel_rfl) (by kernel_rfl) ?hq13 ?hw13 hT2 (fun _ => trivial) (v := ?vv13) ?hy13 ?hk13
  case ho13 => (simp only [List.getElem?_toArray, List.getElem?_cons_succ, List.getElem?_cons_zero]; rfl)
  case hq13 => exact fun _ _ _ h => h
  case hw13 => rfl
  case hy13 =>
    intro W hW
    go_simp
    first | done | with_reducible rfl
  case hk13 =>
  try simp only [Act.put, List.setIfInBounds_toArray, List.set_cons_zero, List.set_cons_succ]
  refine anyK_take 5 (oi := ?oo14) ?ho14 (by kernel_rfl) (by kernel_rfl) (by kernel_rfl) (by kernel_rfl) ?hq14 ?hw14 hT2 (fun _ => trivial) (v := ?vv14) ?hy14 ?hk14
  case ho14 => (simp only [List.getElem?_toArray, List.getElem?_cons_succ, List.getElem?_cons_zero]; rfl)
  case hq14 => exact fun _ _ _ h => h
  case hw14 => rfl
  case hy14 =>
    intro W hW
    go_simp
    first | done | with_reducible rfl
  case hk14 =>
  try simp only [Act.put, List.setIfInBounds_toArray, List.set_cons_zero, List.set_cons_succ]
  refine anyK_take 6 (oi := ?oo15) ?ho15 (by kernel_rfl) (by kernel_rfl) (by kernel_rfl) (by kernel_rfl) ?hq15 ?hw15 hT2 (fun _ => trivial) (v := ?vv15) ?hy15 ?hk15
  case ho15 => (simp only [List.getElem?_toArray, List.getElem?_cons_succ, List.getElem?_cons_zero]; rfl)
  case hq15 => exact fun _ _ _ h => h
  case hw15 => rfl
  case hy15 =>
    intro W hW
    go_simp
    first | done | with_reducible rfl
  case hk15 =>
  try simp only [Act.put, List.setIfInBounds_toArray, List.set_cons_zero, List.set_cons_succ]
  refine anyK_take 7 (oi := ?oo16) ?ho16 (by kernel_rfl) (by kernel_rfl) (by kernel_rfl) (by kernel_rfl) ?hq16 ?hw16 hT2 (fun _ => trivial) (v := ?vv16) ?hy16 ?hk16
  case ho16 => (simp only [List.getElem?_toArray, List.getElem?_cons_succ, List.getElem?_cons_zero]; rfl)
  case hq16 => exact fun _ _ _ h => h
  case hw16 => rfl
  case hy16 =>
    intro W hW
    go_simp
    first | done | with_reducible rfl
  case hk16 =>
  try simp only [Act.put, List.setIfInBounds_toArray, List.set_cons_zero, List.set_cons_succ]
  refine anyK_done (by kernel_rfl) ?_ _
  clear keepK hT0 hT1 hT2
  obtain ⟨hR, hP, kR, kP, X⟩ := HS0.out _ (ext_trans XF.out yy)
  clear HS0 XF KF PF HWO ht xx yy
  have fR := kR.cell
  have fP := kP.cell
  go_wp2_with fail
  have HN := hide (fun W (v1 v2 : Value) (h1 : RulesAt W v1 R) (h2 : PosAt W v2 P) => EOf_yes R P v1 v2 W h1 h2 hV hS)
  have HN2 := hide (fun W (v1 v2 : Value) (h1 : RulesAt W v1 R) (h2 : PosAt W v2 P) => All_yes R P v1 v2 W h1 h2 hV hS)
  have HOP := hide (fun (h : resultM R P = 0) => open_moves h hS.turn)
  have hb := result_bd R P hS.turn
  have hll := listM_len hV hS
  obtain ⟨z0, z1⟩ := hb
  clear hV hS
  generalize resultM R P = z at *
  generalize listM R P = L at *
  refine (HN.out _ _ _ hR hP).mono ?_
  rintro e w27 ⟨rfl, x⟩
  replace hR := hR.ext x
  replace hP := hP.ext x
  replace kR := kR.ext x
  replace kP := kP.ext x
  replace X := ext_trans X x
  replace fR := kR.cell
  replace fP := kP.cell
  clear x
  go_wp2_with fail
  refine (HN2.out _ _ _ hR hP).mono ?_
  rintro e w28 ⟨v5, rfl, h5, x⟩
  replace hR := hR.ext x
  replace hP := hP.ext x
  replace kR := kR.ext x
  replace kP := kP.ext x
  replace X := ext_trans X x
  replace fR := kR.cell
  replace fP := kP.cell
  clear x
  replace h5 := h5.at_
  obtain ⟨A5, c5, rfl, -⟩ := h5
  clear fR fP
  by_cases hz : z = 0
  · have hl := HOP.out hz
    have tl : decide (0 < L.length) = true := by simpa using hl
    have tl2 : decide ((0 : Int) < (L.length : Int)) = true := decide_eq_true (by omega)
    clear HOP z0 z1
    subst hz
    go_wp2
    go_ret
    exact ⟨by first | rfl | simp, X⟩
  · have t0 : (z != 0) = true := by simpa using hz
    clear hz HOP
    by_cases hl : 0 < L.length
    · have tl : decide (0 < L.length) = true := by simpa using hl
      have tl2 : decide ((0 : Int) < (L.length : Int)) = true := decide_eq_true (by omega)
      go_wp2
      go_ret
      exact ⟨by first | rfl | simp, X⟩
    · have tl : decide (0 < L.length) = false := by simpa using hl
      have tl2 : decide ((0 : Int) < (L.length : Int)) = false := decide_eq_false (by omega)
      go_wp2
      go_ret
      exact ⟨by first | rfl | simp, X⟩
theorem endsOpen_law (v : Value) (R : RulesM) (u : Value) (P : PosM) (w : World) (hR : RulesAt w v R) (hP : PosAt w u P) :
    Calls Try.prog 11 #[v, u] w fun e w' => e = .returned (.bool true) ∧ Ext w w' := by
  by_cases h : checkE R P = 0
  · obtain ⟨hV, hS⟩ := check_iff.1 h
    exact endsOpen_yes R P v u w hR hP hV hS
  · exact endsOpen_no R P v u w hR hP h

end Go.Proofs.Ytcfiannlpkofpaa
