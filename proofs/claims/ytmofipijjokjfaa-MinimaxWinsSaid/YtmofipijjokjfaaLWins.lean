/- Walk: the law MinimaxWins. -/
import Derived.Test.YtmofipijjokjfaaScored
import Derived.Test.YtmofipijjokjfaaMiniR
import Derived.Test.YtmofipijjokjfaaGPerft
namespace Go.Proofs.Ytmofipijjokjfaa
open Go.ChangeShapes Go.WideShapes Go.ChangeAt Go.RowKit Go.Shelf
set_option linter.unusedVariables false
set_option linter.unusedSimpArgs false
theorem best_zero {R : RulesM} {P : PosM} {D : Int} (h : bestE R P D = 0) : perftE R P D = 0 ∧ 1 ≤ D ∧ D ≤ 12 ∧ resultM R P = 0 ∧ Valid R ∧ Sound R P := by
  by_cases hz : perftE R P D = 0
  · obtain ⟨hV, hS, d0, d1, -⟩ := perft_zero hz
    by_cases hd : D = 0
    · exact absurd h (by rw [(bestE_two hz hd).1]; decide)
    · by_cases hr : resultM R P = 0
      · exact ⟨hz, by omega, d1, hr, hV, hS⟩
      · exact absurd h (by rw [(bestE_three hz hd hr).1]; decide)
  · exact absurd h (by rw [(bestE_one hz).1]; exact hz)
set_option maxHeartbeats 4000000 in
set_option maxRecDepth 100000 in
theorem minimaxWins_h1 (R : RulesM) (P : PosM) (v u : Value) (D : Int) (w : World) (hR : RulesAt w v R) (hP : PosAt w u P) (hh : heavyB R P D = true) :
    Calls Try.prog 10 #[v, u, .int .i64 D] w fun e w' => e = .returned (.bool true) ∧ Ext w w' := by
  have HHV := hide (fun W (v1 v2 : Value) (h1 : RulesAt W v1 R) (h2 : PosAt W v2 P) => heavy_any R P v1 v2 D W h1 h2)
  rw [hh] at HHV
  clear hh
  have HWO := hide (fun W (v1 v2 : Value) (h1 : RulesAt W v1 threeR) (h2 : PosAt W v2 wonP) => won_any v1 v2 W h1 h2)
  have hR0 := hR
  have hP0 := hP
  obtain ⟨pA, pc, sA, sc, eA, ec, rfl, -⟩ := hR0
  obtain ⟨cA, cc, aA, ac, bA, bc, rfl, -⟩ := hP0
  go_enter Try.func10, Try.ntmps10
  go_wp2_with fail
  obtain ⟨xa, kR, kP⟩ := blks2 w #[.string R.name, .int .i64 R.width, .int .i64 R.height, .slice pA R.pieces.length pc, .slice sA R.start.length sc, .bool R.falls, .bool R.keeps, .slice eA R.ends.length ec, .int .i64 R.blocked, .int .i64 R.quiet, .int .i64 R.rept] 26 #[.slice cA P.cells.length cc, .slice aA P.hand0.length ac, .slice bA P.hand1.length bc, .int .i64 P.turn, .int .i64 P.quiet] 29
  replace hR := hR.ext xa
  replace hP := hP.ext xa
  have X := xa
  clear xa
  generalize ((w.alloc (.cells #[.string R.name, .int .i64 R.width, .int .i64 R.height, .slice pA R.pieces.length pc, .slice sA R.start.length sc, .bool R.falls, .bool R.keeps, .slice eA R.ends.length ec, .int .i64 R.blocked, .int .i64 R.quiet, .int .i64 R.rept] 26)).alloc (.cells #[.slice cA P.cells.length cc, .slice aA P.hand0.length ac, .slice bA P.hand1.length bc, .int .i64 P.turn, .int .i64 P.quiet] 29)) = w2 at *
  generalize w.heap.size + 1 = BP at *
  generalize w.heap.size = BR at *
  have HS0 := hide (fun W (h : Ext w2 W) => And.intro (hR.ext h) (And.intro (hP.ext h) (And.intro (kR.ext h) (And.intro (kP.ext h) (ext_trans X h)))))
  clear hR hP kR kP X
  refine (near_any _).mono ?_
  rintro e wn ⟨vn, rfl, hn, xn⟩
  obtain ⟨g0, c0, g1, c1, g2, c2, en, b0, b1, b2, r0, r1, r2, m0, m1, m2⟩ := hn
  have en' : vn = .agg #[.slice (some ⟨g0, 0, none⟩) 9 c0, .slice (some ⟨g1, 0, none⟩) 1 c1, .slice (some ⟨g2, 0, none⟩) 1 c2, .int .i64 0, .int .i64 0] := en
  subst en'
  clear en
  obtain ⟨xa, kW⟩ := blks1 wn #[.slice (some ⟨g0, 0, none⟩) 9 c0, .slice (some ⟨g1, 0, none⟩) 1 c1, .slice (some ⟨g2, 0, none⟩) 1 c2, .int .i64 0, .int .i64 0] 29
  have q0 := r0.alloc (.cells #[.slice (some ⟨g0, 0, none⟩) 9 c0, .slice (some ⟨g1, 0, none⟩) 1 c1, .slice (some ⟨g2, 0, none⟩) 1 c2, .int .i64 0, .int .i64 0] 29)
  have q1 := r1.alloc (.cells #[.slice (some ⟨g0, 0, none⟩) 9 c0, .slice (some ⟨g1, 0, none⟩) 1 c1, .slice (some ⟨g2, 0, none⟩) 1 c2, .int .i64 0, .int .i64 0] 29)
  have q2 := r2.alloc (.cells #[.slice (some ⟨g0, 0, none⟩) 9 c0, .slice (some ⟨g1, 0, none⟩) 1 c1, .slice (some ⟨g2, 0, none⟩) 1 c2, .int .i64 0, .int .i64 0] 29)
  have hlt : Hid (w2.heap.size ≤ g0 ∧ g0 < g1 ∧ g1 < g2 ∧ g2 < wn.heap.size) := hide ⟨b0, b1, b2, r2.lt⟩
  have HXN := hide (ext_trans xn xa)
  clear r0 r1 r2 b0 b1 b2 xn xa
  go_upto_region 2 with fail
  generalize wn.alloc (.cells #[.slice (some ⟨g0, 0, none⟩) 9 c0, .slice (some ⟨g1, 0, none⟩) 1 c1, .slice (some ⟨g2, 0, none⟩) 1 c2, .int .i64 0, .int .i64 0] 29) = wm at *
  generalize wn.heap.size = BW at *
  have kc := kW.cell
  have kz := kW.frozen
  have s2 : wm.cell? ⟨g0, 2, none⟩ = some (.int .i64 0) := q0.cell (i := 2) (by decide)
  have sz : wm.frozen? ⟨g0, 2, none⟩ = false := q0.frozen 2
  have ng : ¬ BW = g0 := by have := hlt.out; omega
  have ng' : ¬ g0 = BW := by have := hlt.out; omega
  go_wp2_with fail
  have KF := hide (blk_put (Blk.far kW (p := ⟨g0, 2, none⟩) ng (.int .i64 1)) (i := 3) (u := .int .i64 1) (cs' := #[.slice (some ⟨g0, 0, none⟩) 9 c0, .slice (some ⟨g1, 0, none⟩) 1 c1, .slice (some ⟨g2, 0, none⟩) 1 c2, .int .i64 1, .int .i64 0]) rfl)
  have PF : Hid (PosAt ((wm.setCell ⟨g0, 2, none⟩ (.int .i64 1)).setCell ⟨BW, 3, none⟩ (.int .i64 1)) (.agg #[.slice (some ⟨g0, 0, none⟩) 9 c0, .slice (some ⟨g1, 0, none⟩) 1 c1, .slice (some ⟨g2, 0, none⟩) 1 c2, .int .i64 1, .int .i64 0]) wonP) := hide ⟨_, c0, _, c1, _, c2, rfl, (IRow.far (q0.set_ 2 1) (p := ⟨BW, 3, none⟩) ng' _).ints, (IRow.far (IRow.far q1 (p := ⟨g0, 2, none⟩) (by have := hlt.out; show g1 ≠ g0; omega) _) (p := ⟨BW, 3, none⟩) (by have := hlt.out; show g1 ≠ BW; omega) _).ints, (IRow.far (IRow.far q2 (p := ⟨g0, 2, none⟩) (by have := hlt.out; show g2 ≠ g0; omega) _) (p := ⟨BW, 3, none⟩) (by have := hlt.out; show g2 ≠ BW; omega) _).ints, m0, m1, m2⟩
  have XF := hide (ext_set (ext_set HXN.out (p := ⟨g0, 2, none⟩) (by have := hlt.out; show w2.heap.size ≤ g0; omega) (.int .i64 1)) (p := ⟨BW, 3, none⟩) (by have := hlt.out; show w2.heap.size ≤ BW; omega) (.int .i64 1))
  clear kc kz s2 sz kW q0 q1 q2 ng ng' m0 m1 m2 HXN hlt
  generalize (wm.setCell ⟨g0, 2, none⟩ (.int .i64 1)).setCell ⟨BW, 3, none⟩ (.int .i64 1) = wf at *
  have keepK := hide (fun W (h : Ext wf W) => (show (fun W => W.cell? ⟨BW, 0, none⟩ = some (.slice (some ⟨g0, 0, none⟩) 9 c0) ∧ W.cell? ⟨BW, 1, none⟩ = some (.slice (some ⟨g1, 0, none⟩) 1 c1) ∧ W.cell? ⟨BW, 2, none⟩ = some (.slice (some ⟨g2, 0, none⟩) 1 c2) ∧ W.cell? ⟨BW, 3, none⟩ = some (.int .i64 1) ∧ W.cell? ⟨BW, 4, none⟩ = some (.int .i64 0) ∧ Ext wf W) W from ⟨(KF.out.ext h).cell 0, (KF.out.ext h).cell 1, (KF.out.ext h).cell 2, (KF.out.ext h).cell 3, (KF.out.ext h).cell 4, h⟩))
  have yy : Ext wf wf.drew := Below.drew (Below.refl _ _)
  refine region_K (fun W => W.cell? ⟨BW, 0, none⟩ = some (.slice (some ⟨g0, 0, none⟩) 9 c0) ∧ W.cell? ⟨BW, 1, none⟩ = some (.slice (some ⟨g1, 0, none⟩) 1 c1) ∧ W.cell? ⟨BW, 2, none⟩ = some (.slice (some ⟨g2, 0, none⟩) 1 c2) ∧ W.cell? ⟨BW, 3, none⟩ = some (.int .i64 1) ∧ W.cell? ⟨BW, 4, none⟩ = some (.int .i64 0) ∧ Ext wf W) (fun _ => True) [] (by kernel_rfl) ?_
  have hT0 := keepK.out _ yy
  refine anyK_take 1 (oi := ?oo1) ?ho1 (by kernel_rfl) (by kernel_rfl) (by kernel_rfl) (by kernel_rfl) ?hq1 ?hw1 hT0 (fun _ => trivial) (v := ?vv1) ?hy1 ?hk1
  case ho1 => (simp only [List.getElem?_toArray, List.getElem?_cons_succ, List.getElem?_cons_zero]; rfl)
  case hq1 => exact fun _ _ _ h => h
  case hw1 => rfl
  case hy1 =>
    intro W hW
    obtain ⟨z0, z1, z2, z3, z4, z5⟩ := hW
    go_simp
    first | done | with_reducible rfl
  case hk1 =>
  try simp only [Act.put, List.setIfInBounds_toArray, List.set_cons_zero, List.set_cons_succ]
  refine anyK_on1 0 (by kernel_rfl) ?_
  refine anyK_one 0 (o := ?oo2) ?ho2 ?hk2
  case ho2 => (simp only [List.getElem?_toArray, List.getElem?_cons_succ, List.getElem?_cons_zero]; rfl)
  case hk2 =>
  intro K hK
  go_simp
  refine (three_any _).mono ?_
  rintro e wt ⟨vt, rfl, ht, xx⟩
  try go_wp2_with fail
  replace yy := ext_trans yy xx
  have hT1 := keepK.out _ yy
  refine hK.out _ _ hT1 (fun _ => trivial) ?_
  clear hK K
  try simp only [Act.put, List.setIfInBounds_toArray, List.set_cons_zero, List.set_cons_succ]
  refine anyK_on1 2 (by kernel_rfl) ?_
  refine anyK_one 2 (o := ?oo3) ?ho3 ?hk3
  case ho3 => (simp only [List.getElem?_toArray, List.getElem?_cons_succ, List.getElem?_cons_zero]; rfl)
  case hk3 =>
  intro K hK
  go_simp
  refine (HWO.out _ _ _ ht (PF.out.ext yy)).mono ?_
  rintro e wo ⟨rfl, xx⟩
  try go_wp2_with fail
  replace yy := ext_trans yy xx
  have hT2 := keepK.out _ yy
  refine hK.out _ _ hT2 (fun _ => trivial) ?_
  clear hK K
  try simp only [Act.put, List.setIfInBounds_toArray, List.set_cons_zero, List.set_cons_succ]
  refine anyK_take 3 (oi := ?oo4) ?ho4 (by kernel_rfl) (by kernel_rfl) (by kernel_rfl) (by kernel_rfl) ?hq4 ?hw4 hT2 (fun _ => trivial) (v := ?vv4) ?hy4 ?hk4
  case ho4 => (simp only [List.getElem?_toArray, List.getElem?_cons_succ, List.getElem?_cons_zero]; rfl)
  case hq4 => exact fun _ _ _ h => h
  case hw4 => rfl
  case hy4 =>
    intro W hW
    go_simp
    first | done | with_reducible rfl
  case hk4 =>
  try simp only [Act.put, List.setIfInBounds_toArray, List.set_cons_zero, List.set_cons_succ]
  refine anyK_take 4 (oi := ?oo5) ?ho5 (by kernel_rfl) (by kernel_rfl) (by kernel_rfl) (by kernel_rfl) ?hq5 ?hw5 hT2 (fun _ => trivial) (v := ?vv5) ?hy5 ?hk5
  case ho5 => (simp only [List.getElem?_toArray, List.getElem?_cons_succ, List.getElem?_cons_zero]; rfl)
  case hq5 => exact fun _ _ _ h => h
  case hw5 => rfl
  case hy5 =>
    intro W hW
    go_simp
    first | done | with_reducible rfl
  case hk5 =>
  try simp only [Act.put, List.setIfInBounds_toArray, List.set_cons_zero, List.set_cons_succ]
  refine anyK_take 5 (oi := ?oo6) ?ho6 (by kernel_rfl) (by kernel_rfl) (by kernel_rfl) (by kernel_rfl) ?hq6 ?hw6 hT2 (fun _ => trivial) (v := ?vv6) ?hy6 ?hk6
  case ho6 => (simp only [List.getElem?_toArray, List.getElem?_cons_succ, List.getElem?_cons_zero]; rfl)
  case hq6 => exact fun _ _ _ h => h
  case hw6 => rfl
  case hy6 =>
    intro W hW
    go_simp
    first | done | with_reducible rfl
  case hk6 =>
  try simp only [Act.put, List.setIfInBounds_toArray, List.set_cons_zero, List.set_cons_succ]
  refine anyK_take 6 (oi := ?oo7) ?ho7 (by kernel_rfl) (by kernel_rfl) (by kernel_rfl) (by kernel_rfl) ?hq7 ?hw7 hT2 (fun _ => trivial) (v := ?vv7) ?hy7 ?hk7
  case ho7 => (simp only [List.getElem?_toArray, List.getElem?_cons_succ, List.getElem?_cons_zero]; rfl)
  case hq7 => exact fun _ _ _ h => h
  case hw7 => rfl
  case hy7 =>
    intro W hW
    go_simp
    first | done | with_reducible rfl
  case hk7 =>
  try simp only [Act.put, List.setIfInBounds_toArray, List.set_cons_zero, List.set_cons_succ]
  refine anyK_take 7 (oi := ?oo8) ?ho8 (by kernel_rfl) (by kernel_rfl) (by kernel_rfl) (by kernel_rfl) ?hq8 ?hw8 hT2 (fun _ => trivial) (v := ?vv8) ?hy8 ?hk8
  case ho8 => (simp only [List.getElem?_toArray, List.getElem?_cons_succ, List.getElem?_cons_zero]; rfl)
  case hq8 => exact fun _ _ _ h => h
  case hw8 => rfl
  case hy8 =>
    intro W hW
    go_simp
    first | done | with_reducible rfl
  case hk8 =>
  try simp only [Act.put, List.setIfInBounds_toArray, List.set_cons_zero, List.set_cons_succ]
  refine anyK_done (by kernel_rfl) ?_ _
  clear keepK hT0 hT1 hT2
  obtain ⟨hR, hP, kR, kP, X⟩ := HS0.out _ (ext_trans XF.out yy)
  clear HS0 XF KF PF HWO ht xx yy
  go_wp2_with fail
  refine (scored_any _).mono ?_
  rintro e w23 ⟨rfl, x⟩
  replace hR := hR.ext x
  replace hP := hP.ext x
  replace kR := kR.ext x
  replace kP := kP.ext x
  replace X := ext_trans X x
  clear x
  go_wp2_with fail
  refine (plays_any _).mono ?_
  rintro e w24 ⟨rfl, x⟩
  replace hR := hR.ext x
  replace hP := hP.ext x
  replace kR := kR.ext x
  replace kP := kP.ext x
  replace X := ext_trans X x
  clear x
  have fR := kR.cell
  have fP := kP.cell
  go_wp2_with fail
  refine (HHV.out _ _ _ hR hP).mono ?_
  rintro e w25 ⟨rfl, x⟩
  replace hR := hR.ext x
  replace hP := hP.ext x
  replace kR := kR.ext x
  replace kP := kP.ext x
  replace X := ext_trans X x
  replace fR := kR.cell
  replace fP := kP.cell
  clear x
  clear HHV
  clear fR fP
  go_wp2
  all_goals go_ret
  all_goals exact ⟨by first | rfl | simp, X⟩
set_option maxHeartbeats 4000000 in
set_option maxRecDepth 100000 in
theorem minimaxWins_bad (R : RulesM) (P : PosM) (v u : Value) (D : Int) (w : World) (hR : RulesAt w v R) (hP : PosAt w u P) (hh : heavyB R P D = false) (he : bestE R P D ≠ 0) :
    Calls Try.prog 10 #[v, u, .int .i64 D] w fun e w' => e = .returned (.bool true) ∧ Ext w w' := by
  have HHV := hide (fun W (v1 v2 : Value) (h1 : RulesAt W v1 R) (h2 : PosAt W v2 P) => heavy_any R P v1 v2 D W h1 h2)
  rw [hh] at HHV
  clear hh
  have HWO := hide (fun W (v1 v2 : Value) (h1 : RulesAt W v1 threeR) (h2 : PosAt W v2 wonP) => won_any v1 v2 W h1 h2)
  have HB := hide (fun W (v1 v2 : Value) (h1 : RulesAt W v1 R) (h2 : PosAt W v2 P) => MBest_any R P v1 v2 D W h1 h2)
  rw [show bestY R P D = (⟨0, 0, 0⟩, 0) from if_neg he] at HB
  have t0 : (bestE R P D != 0) = true := by simpa using he
  clear he
  generalize bestE R P D = E at *
  have hR0 := hR
  have hP0 := hP
  obtain ⟨pA, pc, sA, sc, eA, ec, rfl, -⟩ := hR0
  obtain ⟨cA, cc, aA, ac, bA, bc, rfl, -⟩ := hP0
  go_enter Try.func10, Try.ntmps10
  go_wp2_with fail
  obtain ⟨xa, kR, kP⟩ := blks2 w #[.string R.name, .int .i64 R.width, .int .i64 R.height, .slice pA R.pieces.length pc, .slice sA R.start.length sc, .bool R.falls, .bool R.keeps, .slice eA R.ends.length ec, .int .i64 R.blocked, .int .i64 R.quiet, .int .i64 R.rept] 26 #[.slice cA P.cells.length cc, .slice aA P.hand0.length ac, .slice bA P.hand1.length bc, .int .i64 P.turn, .int .i64 P.quiet] 29
  replace hR := hR.ext xa
  replace hP := hP.ext xa
  have X := xa
  clear xa
  generalize ((w.alloc (.cells #[.string R.name, .int .i64 R.width, .int .i64 R.height, .slice pA R.pieces.length pc, .slice sA R.start.length sc, .bool R.falls, .bool R.keeps, .slice eA R.ends.length ec, .int .i64 R.blocked, .int .i64 R.quiet, .int .i64 R.rept] 26)).alloc (.cells #[.slice cA P.cells.length cc, .slice aA P.hand0.length ac, .slice bA P.hand1.length bc, .int .i64 P.turn, .int .i64 P.quiet] 29)) = w2 at *
  generalize w.heap.size + 1 = BP at *
  generalize w.heap.size = BR at *
  have HS0 := hide (fun W (h : Ext w2 W) => And.intro (hR.ext h) (And.intro (hP.ext h) (And.intro (kR.ext h) (And.intro (kP.ext h) (ext_trans X h)))))
  clear hR hP kR kP X
  refine (near_any _).mono ?_
  rintro e wn ⟨vn, rfl, hn, xn⟩
  obtain ⟨g0, c0, g1, c1, g2, c2, en, b0, b1, b2, r0, r1, r2, m0, m1, m2⟩ := hn
  have en' : vn = .agg #[.slice (some ⟨g0, 0, none⟩) 9 c0, .slice (some ⟨g1, 0, none⟩) 1 c1, .slice (some ⟨g2, 0, none⟩) 1 c2, .int .i64 0, .int .i64 0] := en
  subst en'
  clear en
  obtain ⟨xa, kW⟩ := blks1 wn #[.slice (some ⟨g0, 0, none⟩) 9 c0, .slice (some ⟨g1, 0, none⟩) 1 c1, .slice (some ⟨g2, 0, none⟩) 1 c2, .int .i64 0, .int .i64 0] 29
  have q0 := r0.alloc (.cells #[.slice (some ⟨g0, 0, none⟩) 9 c0, .slice (some ⟨g1, 0, none⟩) 1 c1, .slice (some ⟨g2, 0, none⟩) 1 c2, .int .i64 0, .int .i64 0] 29)
  have q1 := r1.alloc (.cells #[.slice (some ⟨g0, 0, none⟩) 9 c0, .slice (some ⟨g1, 0, none⟩) 1 c1, .slice (some ⟨g2, 0, none⟩) 1 c2, .int .i64 0, .int .i64 0] 29)
  have q2 := r2.alloc (.cells #[.slice (some ⟨g0, 0, none⟩) 9 c0, .slice (some ⟨g1, 0, none⟩) 1 c1, .slice (some ⟨g2, 0, none⟩) 1 c2, .int .i64 0, .int .i64 0] 29)
  have hlt : Hid (w2.heap.size ≤ g0 ∧ g0 < g1 ∧ g1 < g2 ∧ g2 < wn.heap.size) := hide ⟨b0, b1, b2, r2.lt⟩
  have HXN := hide (ext_trans xn xa)
  clear r0 r1 r2 b0 b1 b2 xn xa
  go_upto_region 2 with fail
  generalize wn.alloc (.cells #[.slice (some ⟨g0, 0, none⟩) 9 c0, .slice (some ⟨g1, 0, none⟩) 1 c1, .slice (some ⟨g2, 0, none⟩) 1 c2, .int .i64 0, .int .i64 0] 29) = wm at *
  generalize wn.heap.size = BW at *
  have kc := kW.cell
  have kz := kW.frozen
  have s2 : wm.cell? ⟨g0, 2, none⟩ = some (.int .i64 0) := q0.cell (i := 2) (by decide)
  have sz : wm.frozen? ⟨g0, 2, none⟩ = false := q0.frozen 2
  have ng : ¬ BW = g0 := by have := hlt.out; omega
  have ng' : ¬ g0 = BW := by have := hlt.out; omega
  go_wp2_with fail
  have KF := hide (blk_put (Blk.far kW (p := ⟨g0, 2, none⟩) ng (.int .i64 1)) (i := 3) (u := .int .i64 1) (cs' := #[.slice (some ⟨g0, 0, none⟩) 9 c0, .slice (some ⟨g1, 0, none⟩) 1 c1, .slice (some ⟨g2, 0, none⟩) 1 c2, .int .i64 1, .int .i64 0]) rfl)
  have PF : Hid (PosAt ((wm.setCell ⟨g0, 2, none⟩ (.int .i64 1)).setCell ⟨BW, 3, none⟩ (.int .i64 1)) (.agg #[.slice (some ⟨g0, 0, none⟩) 9 c0, .slice (some ⟨g1, 0, none⟩) 1 c1, .slice (some ⟨g2, 0, none⟩) 1 c2, .int .i64 1, .int .i64 0]) wonP) := hide ⟨_, c0, _, c1, _, c2, rfl, (IRow.far (q0.set_ 2 1) (p := ⟨BW, 3, none⟩) ng' _).ints, (IRow.far (IRow.far q1 (p := ⟨g0, 2, none⟩) (by have := hlt.out; show g1 ≠ g0; omega) _) (p := ⟨BW, 3, none⟩) (by have := hlt.out; show g1 ≠ BW; omega) _).ints, (IRow.far (IRow.far q2 (p := ⟨g0, 2, none⟩) (by have := hlt.out; show g2 ≠ g0; omega) _) (p := ⟨BW, 3, none⟩) (by have := hlt.out; show g2 ≠ BW; omega) _).ints, m0, m1, m2⟩
  have XF := hide (ext_set (ext_set HXN.out (p := ⟨g0, 2, none⟩) (by have := hlt.out; show w2.heap.size ≤ g0; omega) (.int .i64 1)) (p := ⟨BW, 3, none⟩) (by have := hlt.out; show w2.heap.size ≤ BW; omega) (.int .i64 1))
  clear kc kz s2 sz kW q0 q1 q2 ng ng' m0 m1 m2 HXN hlt
  generalize (wm.setCell ⟨g0, 2, none⟩ (.int .i64 1)).setCell ⟨BW, 3, none⟩ (.int .i64 1) = wf at *
  have keepK := hide (fun W (h : Ext wf W) => (show (fun W => W.cell? ⟨BW, 0, none⟩ = some (.slice (some ⟨g0, 0, none⟩) 9 c0) ∧ W.cell? ⟨BW, 1, none⟩ = some (.slice (some ⟨g1, 0, none⟩) 1 c1) ∧ W.cell? ⟨BW, 2, none⟩ = some (.slice (some ⟨g2, 0, none⟩) 1 c2) ∧ W.cell? ⟨BW, 3, none⟩ = some (.int .i64 1) ∧ W.cell? ⟨BW, 4, none⟩ = some (.int .i64 0) ∧ Ext wf W) W from ⟨(KF.out.ext h).cell 0, (KF.out.ext h).cell 1, (KF.out.ext h).cell 2, (KF.out.ext h).cell 3, (KF.out.ext h).cell 4, h⟩))
  have yy : Ext wf wf.drew := Below.drew (Below.refl _ _)
  refine region_K (fun W => W.cell? ⟨BW, 0, none⟩ = some (.slice (some ⟨g0, 0, none⟩) 9 c0) ∧ W.cell? ⟨BW, 1, none⟩ = some (.slice (some ⟨g1, 0, none⟩) 1 c1) ∧ W.cell? ⟨BW, 2, none⟩ = some (.slice (some ⟨g2, 0, none⟩) 1 c2) ∧ W.cell? ⟨BW, 3, none⟩ = some (.int .i64 1) ∧ W.cell? ⟨BW, 4, none⟩ = some (.int .i64 0) ∧ Ext wf W) (fun _ => True) [] (by kernel_rfl) ?_
  have hT0 := keepK.out _ yy
  refine anyK_take 1 (oi := ?oo9) ?ho9 (by kernel_rfl) (by kernel_rfl) (by kernel_rfl) (by kernel_rfl) ?hq9 ?hw9 hT0 (fun _ => trivial) (v := ?vv9) ?hy9 ?hk9
  case ho9 => (simp only [List.getElem?_toArray, List.getElem?_cons_succ, List.getElem?_cons_zero]; rfl)
  case hq9 => exact fun _ _ _ h => h
  case hw9 => rfl
  case hy9 =>
    intro W hW
    obtain ⟨z0, z1, z2, z3, z4, z5⟩ := hW
    go_simp
    first | done | with_reducible rfl
  case hk9 =>
  try simp only [Act.put, List.setIfInBounds_toArray, List.set_cons_zero, List.set_cons_succ]
  refine anyK_on1 0 (by kernel_rfl) ?_
  refine anyK_one 0 (o := ?oo10) ?ho10 ?hk10
  case ho10 => (simp only [List.getElem?_toArray, List.getElem?_cons_succ, List.getElem?_cons_zero]; rfl)
  case hk10 =>
  intro K hK
  go_simp
  refine (three_any _).mono ?_
  rintro e wt ⟨vt, rfl, ht, xx⟩
  try go_wp2_with fail
  replace yy := ext_trans yy xx
  have hT1 := keepK.out _ yy
  refine hK.out _ _ hT1 (fun _ => trivial) ?_
  clear hK K
  try simp only [Act.put, List.setIfInBounds_toArray, List.set_cons_zero, List.set_cons_succ]
  refine anyK_on1 2 (by kernel_rfl) ?_
  refine anyK_one 2 (o := ?oo11) ?ho11 ?hk11
  case ho11 => (simp only [List.getElem?_toArray, List.getElem?_cons_succ, List.getElem?_cons_zero]; rfl)
  case hk11 =>
  intro K hK
  go_simp
  refine (HWO.out _ _ _ ht (PF.out.ext yy)).mono ?_
  rintro e wo ⟨rfl, xx⟩
  try go_wp2_with fail
  replace yy := ext_trans yy xx
  have hT2 := keepK.out _ yy
  refine hK.out _ _ hT2 (fun _ => trivial) ?_
  clear hK K
  try simp only [Act.put, List.setIfInBounds_toArray, List.set_cons_zero, List.set_cons_succ]
  refine anyK_take 3 (oi := ?oo12) ?ho12 (by kernel_rfl) (by kernel_rfl) (by kernel_rfl) (by kernel_rfl) ?hq12 ?hw12 hT2 (fun _ => trivial) (v := ?vv12) ?hy12 ?hk12
  case ho12 => (simp only [List.getElem?_toArray, List.getElem?_cons_succ, List.getElem?_cons_zero]; rfl)
  case hq12 => exact fun _ _ _ h => h
  case hw12 => rfl
  case hy12 =>
    intro W hW
    go_simp
    first | done | with_reducible rfl
  case hk12 =>
  try simp only [Act.put, List.setIfInBounds_toArray, List.set_cons_zero, List.set_cons_succ]
  refine anyK_take 4 (oi := ?oo13) ?ho13 (by kernel_rfl) (by kernel_rfl) (by kernel_rfl) (by kernel_rfl) ?hq13 ?hw13 hT2 (fun _ => trivial) (v := ?vv13) ?hy13 ?hk13
  case ho13 => (simp only [List.getElem?_toArray, List.getElem?_cons_succ, List.getElem?_cons_zero]; rfl)
  case hq13 => exact fun _ _ _ h => h
  case hw13 => rfl
  case hy13 =>
    intro W hW
    go_simp
    first | done | with_reducible rfl
  case hk13 =>
  try simp only [Act.put, List.setIfInBounds_toArray, List.set_cons_zero, List.set_cons_succ]
  refine anyK_take 5 (oi := ?oo14) ?ho14 (by kernel_rfl) (by kernel_rfl) (by kernel_rfl) (by kernel_rfl) ?hq14 ?hw14 hT2 (fun _ => trivial) (v := ?vv14) ?hy14 ?hk14
  case ho14 => (simp only [List.getElem?_toArray, List.getElem?_cons_succ, List.getElem?_cons_zero]; rfl)
  case hq14 => exact fun _ _ _ h => h
  case hw14 => rfl
  case hy14 =>
    intro W hW
    go_simp
    first | done | with_reducible rfl
  case hk14 =>
  try simp only [Act.put, List.setIfInBounds_toArray, List.set_cons_zero, List.set_cons_succ]
  refine anyK_take 6 (oi := ?oo15) ?ho15 (by kernel_rfl) (by kernel_rfl) (by kernel_rfl) (by kernel_rfl) ?hq15 ?hw15 hT2 (fun _ => trivial) (v := ?vv15) ?hy15 ?hk15
  case ho15 => (simp only [List.getElem?_toArray, List.getElem?_cons_succ, List.getElem?_cons_zero]; rfl)
  case hq15 => exact fun _ _ _ h => h
  case hw15 => rfl
  case hy15 =>
    intro W hW
    go_simp
    first | done | with_reducible rfl
  case hk15 =>
  try simp only [Act.put, List.setIfInBounds_toArray, List.set_cons_zero, List.set_cons_succ]
  refine anyK_take 7 (oi := ?oo16) ?ho16 (by kernel_rfl) (by kernel_rfl) (by kernel_rfl) (by kernel_rfl) ?hq16 ?hw16 hT2 (fun _ => trivial) (v := ?vv16) ?hy16 ?hk16
  case ho16 => (simp only [List.getElem?_toArray, List.getElem?_cons_succ, List.getElem?_cons_zero]; rfl)
  case hq16 => exact fun _ _ _ h => h
  case hw16 => rfl
  case hy16 =>
    intro W hW
    go_simp
    first | done | with_reducible rfl
  case hk16 =>
  try simp only [Act.put, List.setIfInBounds_toArray, List.set_cons_zero, List.set_cons_succ]
  refine anyK_done (by kernel_rfl) ?_ _
  clear keepK hT0 hT1 hT2
  obtain ⟨hR, hP, kR, kP, X⟩ := HS0.out _ (ext_trans XF.out yy)
  clear HS0 XF KF PF HWO ht xx yy
  go_wp2_with fail
  refine (scored_any _).mono ?_
  rintro e w23 ⟨rfl, x⟩
  replace hR := hR.ext x
  replace hP := hP.ext x
  replace kR := kR.ext x
  replace kP := kP.ext x
  replace X := ext_trans X x
  clear x
  go_wp2_with fail
  refine (plays_any _).mono ?_
  rintro e w24 ⟨rfl, x⟩
  replace hR := hR.ext x
  replace hP := hP.ext x
  replace kR := kR.ext x
  replace kP := kP.ext x
  replace X := ext_trans X x
  clear x
  have fR := kR.cell
  have fP := kP.cell
  go_wp2_with fail
  refine (HHV.out _ _ _ hR hP).mono ?_
  rintro e w25 ⟨rfl, x⟩
  replace hR := hR.ext x
  replace hP := hP.ext x
  replace kR := kR.ext x
  replace kP := kP.ext x
  replace X := ext_trans X x
  replace fR := kR.cell
  replace fP := kP.cell
  clear x
  clear HHV
  go_wp2_with fail
  refine (HB.out _ _ _ hR hP).mono ?_
  rintro e w26 ⟨rfl, x⟩
  replace hR := hR.ext x
  replace hP := hP.ext x
  replace kR := kR.ext x
  replace kP := kP.ext x
  replace X := ext_trans X x
  replace fR := kR.cell
  replace fP := kP.cell
  clear x
  clear fR fP
  obtain ⟨xa, kM⟩ := blks1 w26 #[.int .i64 0, .int .i64 0, .int .i64 0] 39
  replace hR := hR.ext xa
  replace hP := hP.ext xa
  replace kR := kR.ext xa
  replace kP := kP.ext xa
  replace X := ext_trans X xa
  clear xa
  go_wp2_with fail
  generalize (w26.alloc (.cells #[.int .i64 0, .int .i64 0, .int .i64 0] 39)) = w27 at *
  generalize w26.heap.size = BM at *
  have fM := kM.cell
  go_wp2
  all_goals go_ret
  all_goals exact ⟨by first | rfl | simp, X⟩
set_option maxHeartbeats 4000000 in
set_option maxRecDepth 100000 in
theorem minimaxWins_ok (R : RulesM) (P : PosM) (v u : Value) (D : Int) (w : World) (hR : RulesAt w v R) (hP : PosAt w u P) (hh : heavyB R P D = false) (he : bestE R P D = 0) :
    Calls Try.prog 10 #[v, u, .int .i64 D] w fun e w' => e = .returned (.bool true) ∧ Ext w w' := by
  have HHV := hide (fun W (v1 v2 : Value) (h1 : RulesAt W v1 R) (h2 : PosAt W v2 P) => heavy_any R P v1 v2 D W h1 h2)
  rw [hh] at HHV
  clear hh
  have HWO := hide (fun W (v1 v2 : Value) (h1 : RulesAt W v1 threeR) (h2 : PosAt W v2 wonP) => won_any v1 v2 W h1 h2)
  obtain ⟨hp, d0, d1, hr, hV, hS⟩ := best_zero he
  have hm := (first_mem (R := R) (P := P) hS.turn hr (d := D.toNat - 1) (by omega)).1
  have HW := hide (first_wins (R := R) (P := P) hS.turn hr (d := D.toNat - 1) (by omega))
  have HB := hide (fun W (v1 v2 : Value) (h1 : RulesAt W v1 R) (h2 : PosAt W v2 P) => MBest_any R P v1 v2 D W h1 h2)
  rw [show bestY R P D = firstM R (D.toNat - 1) P from if_pos he, he] at HB
  generalize firstM R (D.toNat - 1) P = y at *
  have HA := hide (fun W (v1 v2 : Value) (h1 : RulesAt W v1 R) (h2 : PosAt W v2 P) => After_yes R P y.1 v1 v2 W h1 h2 hV hS hm)
  have HO := hide (fun W (v1 v2 : Value) (h1 : RulesAt W v1 R) (h2 : PosAt W v2 (makeM R P y.1)) => EOf_yes R (makeM R P y.1) v1 v2 W h1 h2 hV (sound_make hV hS (mem_listM.1 hm)))
  have hwt : IntKind.i64.wrap (1 + P.turn) = 1 + P.turn := by have := hS.turn; rw [IntKind.wrap_i64]; omega
  generalize makeM R P y.1 = Q at *
  generalize resultM R Q = z at *
  clear he hp d0 d1 hr hV hS hm
  have hR0 := hR
  have hP0 := hP
  obtain ⟨pA, pc, sA, sc, eA, ec, rfl, -⟩ := hR0
  obtain ⟨cA, cc, aA, ac, bA, bc, rfl, -⟩ := hP0
  go_enter Try.func10, Try.ntmps10
  go_wp2_with fail
  obtain ⟨xa, kR, kP⟩ := blks2 w #[.string R.name, .int .i64 R.width, .int .i64 R.height, .slice pA R.pieces.length pc, .slice sA R.start.length sc, .bool R.falls, .bool R.keeps, .slice eA R.ends.length ec, .int .i64 R.blocked, .int .i64 R.quiet, .int .i64 R.rept] 26 #[.slice cA P.cells.length cc, .slice aA P.hand0.length ac, .slice bA P.hand1.length bc, .int .i64 P.turn, .int .i64 P.quiet] 29
  replace hR := hR.ext xa
  replace hP := hP.ext xa
  have X := xa
  clear xa
  generalize ((w.alloc (.cells #[.string R.name, .int .i64 R.width, .int .i64 R.height, .slice pA R.pieces.length pc, .slice sA R.start.length sc, .bool R.falls, .bool R.keeps, .slice eA R.ends.length ec, .int .i64 R.blocked, .int .i64 R.quiet, .int .i64 R.rept] 26)).alloc (.cells #[.slice cA P.cells.length cc, .slice aA P.hand0.length ac, .slice bA P.hand1.length bc, .int .i64 P.turn, .int .i64 P.quiet] 29)) = w2 at *
  generalize w.heap.size + 1 = BP at *
  generalize w.heap.size = BR at *
  have HS0 := hide (fun W (h : Ext w2 W) => And.intro (hR.ext h) (And.intro (hP.ext h) (And.intro (kR.ext h) (And.intro (kP.ext h) (ext_trans X h)))))
  clear hR hP kR kP X
  refine (near_any _).mono ?_
  rintro e wn ⟨vn, rfl, hn, xn⟩
  obtain ⟨g0, c0, g1, c1, g2, c2, en, b0, b1, b2, r0, r1, r2, m0, m1, m2⟩ := hn
  have en' : vn = .agg #[.slice (some ⟨g0, 0, none⟩) 9 c0, .slice (some ⟨g1, 0, none⟩) 1 c1, .slice (some ⟨g2, 0, none⟩) 1 c2, .int .i64 0, .int .i64 0] := en
  subst en'
  clear en
  obtain ⟨xa, kW⟩ := blks1 wn #[.slice (some ⟨g0, 0, none⟩) 9 c0, .slice (some ⟨g1, 0, none⟩) 1 c1, .slice (some ⟨g2, 0, none⟩) 1 c2, .int .i64 0, .int .i64 0] 29
  have q0 := r0.alloc (.cells #[.slice (some ⟨g0, 0, none⟩) 9 c0, .slice (some ⟨g1, 0, none⟩) 1 c1, .slice (some ⟨g2, 0, none⟩) 1 c2, .int .i64 0, .int .i64 0] 29)
  have q1 := r1.alloc (.cells #[.slice (some ⟨g0, 0, none⟩) 9 c0, .slice (some ⟨g1, 0, none⟩) 1 c1, .slice (some ⟨g2, 0, none⟩) 1 c2, .int .i64 0, .int .i64 0] 29)
  have q2 := r2.alloc (.cells #[.slice (some ⟨g0, 0, none⟩) 9 c0, .slice (some ⟨g1, 0, none⟩) 1 c1, .slice (some ⟨g2, 0, none⟩) 1 c2, .int .i64 0, .int .i64 0] 29)
  have hlt : Hid (w2.heap.size ≤ g0 ∧ g0 < g1 ∧ g1 < g2 ∧ g2 < wn.heap.size) := hide ⟨b0, b1, b2, r2.lt⟩
  have HXN := hide (ext_trans xn xa)
  clear r0 r1 r2 b0 b1 b2 xn xa
  go_upto_region 2 with fail
  generalize wn.alloc (.cells #[.slice (some ⟨g0, 0, none⟩) 9 c0, .slice (some ⟨g1, 0, none⟩) 1 c1, .slice (some ⟨g2, 0, none⟩) 1 c2, .int .i64 0, .int .i64 0] 29) = wm at *
  generalize wn.heap.size = BW at *
  have kc := kW.cell
  have kz := kW.frozen
  have s2 : wm.cell? ⟨g0, 2, none⟩ = some (.int .i64 0) := q0.cell (i := 2) (by decide)
  have sz : wm.frozen? ⟨g0, 2, none⟩ = false := q0.frozen 2
  have ng : ¬ BW = g0 := by have := hlt.out; omega
  have ng' : ¬ g0 = BW := by have := hlt.out; omega
  go_wp2_with fail
  have KF := hide (blk_put (Blk.far kW (p := ⟨g0, 2, none⟩) ng (.int .i64 1)) (i := 3) (u := .int .i64 1) (cs' := #[.slice (some ⟨g0, 0, none⟩) 9 c0, .slice (some ⟨g1, 0, none⟩) 1 c1, .slice (some ⟨g2, 0, none⟩) 1 c2, .int .i64 1, .int .i64 0]) rfl)
  have PF : Hid (PosAt ((wm.setCell ⟨g0, 2, none⟩ (.int .i64 1)).setCell ⟨BW, 3, none⟩ (.int .i64 1)) (.agg #[.slice (some ⟨g0, 0, none⟩) 9 c0, .slice (some ⟨g1, 0, none⟩) 1 c1, .slice (some ⟨g2, 0, none⟩) 1 c2, .int .i64 1, .int .i64 0]) wonP) := hide ⟨_, c0, _, c1, _, c2, rfl, (IRow.far (q0.set_ 2 1) (p := ⟨BW, 3, none⟩) ng' _).ints, (IRow.far (IRow.far q1 (p := ⟨g0, 2, none⟩) (by have := hlt.out; show g1 ≠ g0; omega) _) (p := ⟨BW, 3, none⟩) (by have := hlt.out; show g1 ≠ BW; omega) _).ints, (IRow.far (IRow.far q2 (p := ⟨g0, 2, none⟩) (by have := hlt.out; show g2 ≠ g0; omega) _) (p := ⟨BW, 3, none⟩) (by have := hlt.out; show g2 ≠ BW; omega) _).ints, m0, m1, m2⟩
  have XF := hide (ext_set (ext_set HXN.out (p := ⟨g0, 2, none⟩) (by have := hlt.out; show w2.heap.size ≤ g0; omega) (.int .i64 1)) (p := ⟨BW, 3, none⟩) (by have := hlt.out; show w2.heap.size ≤ BW; omega) (.int .i64 1))
  clear kc kz s2 sz kW q0 q1 q2 ng ng' m0 m1 m2 HXN hlt
  generalize (wm.setCell ⟨g0, 2, none⟩ (.int .i64 1)).setCell ⟨BW, 3, none⟩ (.int .i64 1) = wf at *
  have keepK := hide (fun W (h : Ext wf W) => (show (fun W => W.cell? ⟨BW, 0, none⟩ = some (.slice (some ⟨g0, 0, none⟩) 9 c0) ∧ W.cell? ⟨BW, 1, none⟩ = some (.slice (some ⟨g1, 0, none⟩) 1 c1) ∧ W.cell? ⟨BW, 2, none⟩ = some (.slice (some ⟨g2, 0, none⟩) 1 c2) ∧ W.cell? ⟨BW, 3, none⟩ = some (.int .i64 1) ∧ W.cell? ⟨BW, 4, none⟩ = some (.int .i64 0) ∧ Ext wf W) W from ⟨(KF.out.ext h).cell 0, (KF.out.ext h).cell 1, (KF.out.ext h).cell 2, (KF.out.ext h).cell 3, (KF.out.ext h).cell 4, h⟩))
  have yy : Ext wf wf.drew := Below.drew (Below.refl _ _)
  refine region_K (fun W => W.cell? ⟨BW, 0, none⟩ = some (.slice (some ⟨g0, 0, none⟩) 9 c0) ∧ W.cell? ⟨BW, 1, none⟩ = some (.slice (some ⟨g1, 0, none⟩) 1 c1) ∧ W.cell? ⟨BW, 2, none⟩ = some (.slice (some ⟨g2, 0, none⟩) 1 c2) ∧ W.cell? ⟨BW, 3, none⟩ = some (.int .i64 1) ∧ W.cell? ⟨BW, 4, none⟩ = some (.int .i64 0) ∧ Ext wf W) (fun _ => True) [] (by kernel_rfl) ?_
  have hT0 := keepK.out _ yy
  refine anyK_take 1 (oi := ?oo17) ?ho17 (by kernel_rfl) (by kernel_rfl) (by kernel_rfl) (by kernel_rfl) ?hq17 ?hw17 hT0 (fun _ => trivial) (v := ?vv17) ?hy17 ?hk17
  case ho17 => (simp only [List.getElem?_toArray, List.getElem?_cons_succ, List.getElem?_cons_zero]; rfl)
  case hq17 => exact fun _ _ _ h => h
  case hw17 => rfl
  case hy17 =>
    intro W hW
    obtain ⟨z0, z1, z2, z3, z4, z5⟩ := hW
    go_simp
    first | done | with_reducible rfl
  case hk17 =>
  try simp only [Act.put, List.setIfInBounds_toArray, List.set_cons_zero, List.set_cons_succ]
  refine anyK_on1 0 (by kernel_rfl) ?_
  refine anyK_one 0 (o := ?oo18) ?ho18 ?hk18
  case ho18 => (simp only [List.getElem?_toArray, List.getElem?_cons_succ, List.getElem?_cons_zero]; rfl)
  case hk18 =>
  intro K hK
  go_simp
  refine (three_any _).mono ?_
  rintro e wt ⟨vt, rfl, ht, xx⟩
  try go_wp2_with fail
  replace yy := ext_trans yy xx
  have hT1 := keepK.out _ yy
  refine hK.out _ _ hT1 (fun _ => trivial) ?_
  clear hK K
  try simp only [Act.put, List.setIfInBounds_toArray, List.set_cons_zero, List.set_cons_succ]
  refine anyK_on1 2 (by kernel_rfl) ?_
  refine anyK_one 2 (o := ?oo19) ?ho19 ?hk19
  case ho19 => (simp only [List.getElem?_toArray, List.getElem?_cons_succ, List.getElem?_cons_zero]; rfl)
  case hk19 =>
  intro K hK
  go_simp
  refine (HWO.out _ _ _ ht (PF.out.ext yy)).mono ?_
  rintro e wo ⟨rfl, xx⟩
  try go_wp2_with fail
  replace yy := ext_trans yy xx
  have hT2 := keepK.out _ yy
  refine hK.out _ _ hT2 (fun _ => trivial) ?_
  clear hK K
  try simp only [Act.put, List.setIfInBounds_toArray, List.set_cons_zero, List.set_cons_succ]
  refine anyK_take 3 (oi := ?oo20) ?ho20 (by kernel_rfl) (by kernel_rfl) (by kernel_rfl) (by kernel_rfl) ?hq20 ?hw20 hT2 (fun _ => trivial) (v := ?vv20) ?hy20 ?hk20
  case ho20 => (simp only [List.getElem?_toArray, List.getElem?_cons_succ, List.getElem?_cons_zero]; rfl)
  case hq20 => exact fun _ _ _ h => h
  case hw20 => rfl
  case hy20 =>
    intro W hW
    go_simp
    first | done | with_reducible rfl
  case hk20 =>
  try simp only [Act.put, List.setIfInBounds_toArray, List.set_cons_zero, List.set_cons_succ]
  refine anyK_take 4 (oi := ?oo21) ?ho21 (by kernel_rfl) (by kernel_rfl) (by kernel_rfl) (by kernel_rfl) ?hq21 ?hw21 hT2 (fun _ => trivial) (v := ?vv21) ?hy21 ?hk21
  case ho21 => (simp only [List.getElem?_toArray, List.getElem?_cons_succ, List.getElem?_cons_zero]; rfl)
  case hq21 => exact fun _ _ _ h => h
  case hw21 => rfl
  case hy21 =>
    intro W hW
    go_simp
    first | done | with_reducible rfl
  case hk21 =>
  try simp only [Act.put, List.setIfInBounds_toArray, List.set_cons_zero, List.set_cons_succ]
  refine anyK_take 5 (oi := ?oo22) ?ho22 (by kernel_rfl) (by kernel_rfl) (by kernel_rfl) (by kernel_rfl) ?hq22 ?hw22 hT2 (fun _ => trivial) (v := ?vv22) ?hy22 ?hk22
  case ho22 => (simp only [List.getElem?_toArray, List.getElem?_cons_succ, List.getElem?_cons_zero]; rfl)
  case hq22 => exact fun _ _ _ h => h
  case hw22 => rfl
  case hy22 =>
    intro W hW
    go_simp
    first | done | with_reducible rfl
  case hk22 =>
  try simp only [Act.put, List.setIfInBounds_toArray, List.set_cons_zero, List.set_cons_succ]
  refine anyK_take 6 (oi := ?oo23) ?ho23 (by kernel_rfl) (by kernel_rfl) (by kernel_rfl) (by kernel_rfl) ?hq23 ?hw23 hT2 (fun _ => trivial) (v := ?vv23) ?hy23 ?hk23
  case ho23 => (simp only [List.getElem?_toArray, List.getElem?_cons_succ, List.getElem?_cons_zero]; rfl)
  case hq23 => exact fun _ _ _ h => h
  case hw23 => rfl
  case hy23 =>
    intro W hW
    go_simp
    first | done | with_reducible rfl
  case hk23 =>
  try simp only [Act.put, List.setIfInBounds_toArray, List.set_cons_zero, List.set_cons_succ]
  refine anyK_take 7 (oi := ?oo24) ?ho24 (by kernel_rfl) (by kernel_rfl) (by kernel_rfl) (by kernel_rfl) ?hq24 ?hw24 hT2 (fun _ => trivial) (v := ?vv24) ?hy24 ?hk24
  case ho24 => (simp only [List.getElem?_toArray, List.getElem?_cons_succ, List.getElem?_cons_zero]; rfl)
  case hq24 => exact fun _ _ _ h => h
  case hw24 => rfl
  case hy24 =>
    intro W hW
    go_simp
    first | done | with_reducible rfl
  case hk24 =>
  try simp only [Act.put, List.setIfInBounds_toArray, List.set_cons_zero, List.set_cons_succ]
  refine anyK_done (by kernel_rfl) ?_ _
  clear keepK hT0 hT1 hT2
  obtain ⟨hR, hP, kR, kP, X⟩ := HS0.out _ (ext_trans XF.out yy)
  clear HS0 XF KF PF HWO ht xx yy
  go_wp2_with fail
  refine (scored_any _).mono ?_
  rintro e w23 ⟨rfl, x⟩
  replace hR := hR.ext x
  replace hP := hP.ext x
  replace kR := kR.ext x
  replace kP := kP.ext x
  replace X := ext_trans X x
  clear x
  go_wp2_with fail
  refine (plays_any _).mono ?_
  rintro e w24 ⟨rfl, x⟩
  replace hR := hR.ext x
  replace hP := hP.ext x
  replace kR := kR.ext x
  replace kP := kP.ext x
  replace X := ext_trans X x
  clear x
  have fR := kR.cell
  have fP := kP.cell
  go_wp2_with fail
  refine (HHV.out _ _ _ hR hP).mono ?_
  rintro e w25 ⟨rfl, x⟩
  replace hR := hR.ext x
  replace hP := hP.ext x
  replace kR := kR.ext x
  replace kP := kP.ext x
  replace X := ext_trans X x
  replace fR := kR.cell
  replace fP := kP.cell
  clear x
  clear HHV
  go_wp2_with fail
  refine (HB.out _ _ _ hR hP).mono ?_
  rintro e w26 ⟨rfl, x⟩
  replace hR := hR.ext x
  replace hP := hP.ext x
  replace kR := kR.ext x
  replace kP := kP.ext x
  replace X := ext_trans X x
  replace fR := kR.cell
  replace fP := kP.cell
  clear x
  obtain ⟨xa, kM⟩ := blks1 w26 #[.int .i64 y.1.src, .int .i64 y.1.dst, .int .i64 y.1.piece] 39
  replace hR := hR.ext xa
  replace hP := hP.ext xa
  replace kR := kR.ext xa
  replace kP := kP.ext xa
  replace X := ext_trans X xa
  have fR' := kR.cell
  have fP' := kP.cell
  clear xa
  go_wp2_with fail
  generalize (w26.alloc (.cells #[.int .i64 y.1.src, .int .i64 y.1.dst, .int .i64 y.1.piece] 39)) = w27 at *
  generalize w26.heap.size = BM at *
  replace fR := kR.cell
  clear fR'
  replace fP := kP.cell
  clear fP'
  have fM := kM.cell
  refine (HA.out _ _ _ hR hP).mono ?_
  rintro e w28 ⟨v6, rfl, h6, x⟩
  replace hR := hR.ext x
  replace hP := hP.ext x
  replace kR := kR.ext x
  replace kP := kP.ext x
  replace kM := kM.ext x
  replace X := ext_trans X x
  replace fR := kR.cell
  replace fP := kP.cell
  replace fM := kM.cell
  clear x
  replace h6 := h6.at_
  have h6v := h6
  obtain ⟨cA6, cc6, aA6, ac6, bA6, bc6, rfl, -⟩ := h6v
  clear fM fP
  obtain ⟨xa, k6⟩ := blks1 w28 #[.slice cA6 Q.cells.length cc6, .slice aA6 Q.hand0.length ac6, .slice bA6 Q.hand1.length bc6, .int .i64 Q.turn, .int .i64 Q.quiet] 29
  replace hR := hR.ext xa
  replace hP := hP.ext xa
  replace kR := kR.ext xa
  replace kP := kP.ext xa
  replace kM := kM.ext xa
  replace h6 := h6.ext xa
  replace X := ext_trans X xa
  have fR' := kR.cell
  clear xa
  go_wp2_with fail
  generalize (w28.alloc (.cells #[.slice cA6 Q.cells.length cc6, .slice aA6 Q.hand0.length ac6, .slice bA6 Q.hand1.length bc6, .int .i64 Q.turn, .int .i64 Q.quiet] 29)) = w29 at *
  generalize w28.heap.size = B6 at *
  replace fR := kR.cell
  clear fR'
  have f6 := k6.cell
  refine (HO.out _ _ _ hR h6).mono ?_
  rintro e w30 ⟨rfl, x⟩
  replace hR := hR.ext x
  replace hP := hP.ext x
  replace kR := kR.ext x
  replace kP := kP.ext x
  replace kM := kM.ext x
  replace h6 := h6.ext x
  replace k6 := k6.ext x
  replace X := ext_trans X x
  replace fR := kR.cell
  replace f6 := k6.cell
  clear x
  clear fR f6
  obtain ⟨xa, kE⟩ := blks1 w30 #[.int .i64 0, .int .i64 0] 32
  replace hR := hR.ext xa
  replace hP := hP.ext xa
  replace kR := kR.ext xa
  replace kP := kP.ext xa
  replace kM := kM.ext xa
  replace h6 := h6.ext xa
  replace k6 := k6.ext xa
  replace X := ext_trans X xa
  clear xa
  go_wp2_with fail
  generalize (w30.alloc (.cells #[.int .i64 0, .int .i64 0] 32)) = w31 at *
  generalize w30.heap.size = BE at *
  refine (fine_ok2 kE).mono ?_
  rintro e w32 ⟨rfl, x⟩
  replace hR := hR.ext x
  replace hP := hP.ext x
  replace kR := kR.ext x
  replace kP := kP.ext x
  replace kM := kM.ext x
  replace h6 := h6.ext x
  replace k6 := k6.ext x
  replace kE := kE.ext x
  replace X := ext_trans X x
  clear x
  clear kE
  have fP := kP.cell
  by_cases hw : y.2 = 999
  · have hx := HW.out.1 hw
    have t1 : (y.2 == 999) = true := by simpa using hw
    have t2 : (z == 1 + P.turn) = true := by simpa using hx
    clear hw hx
    go_wp2
    all_goals go_ret
    all_goals exact ⟨by first | rfl | simp, X⟩
  · have hx : ¬ z = 1 + P.turn := fun h => hw (HW.out.2 h)
    have t1 : (y.2 == 999) = false := by simpa using hw
    have t2 : (z == 1 + P.turn) = false := by simpa using hx
    clear hw hx
    go_wp2
    all_goals go_ret
    all_goals exact ⟨by first | rfl | simp, X⟩
theorem minimaxWins_law (v : Value) (R : RulesM) (u : Value) (P : PosM) (D : Int) (w : World) (hR : RulesAt w v R) (hP : PosAt w u P) :
    Calls Try.prog 10 #[v, u, .int .i64 D] w fun e w' => e = .returned (.bool true) ∧ Ext w w' := by
  cases hh : heavyB R P D
  · by_cases he : bestE R P D = 0
    · exact minimaxWins_ok R P v u D w hR hP hh he
    · exact minimaxWins_bad R P v u D w hR hP hh he
  · exact minimaxWins_h1 R P v u D w hR hP hh

end Go.Proofs.Ytmofipijjokjfaa
