/- Walk: the law EndsExchanged. -/
import Derived.Test.YtcfiannlpkofpaaWon
import Derived.Test.YtcfiannlpkofpaaEndsExP
import Derived.Test.YtcfiannlpkofpaaGLibB
import Derived.Test.YtcfiannlpkofpaaRegionK
namespace Go.Proofs.Ytcfiannlpkofpaa
open Go.ChangeShapes Go.WideShapes Go.ChangeAt Go.RowKit Go.Shelf
set_option linter.unusedVariables false
set_option linter.unusedSimpArgs false
/-- Rules without Falls. -/
def noFalls (R : RulesM) : RulesM := { R with falls := false }
set_option maxHeartbeats 4000000 in
set_option maxRecDepth 100000 in
theorem endsExchanged_no (R : RulesM) (P : PosM) (v u : Value) (w : World) (hR0 : RulesAt w v R) (hP : PosAt w u P) (h : checkE (noFalls R) P ≠ 0) :
    Calls Try.prog 9 #[v, u] w fun e w' => e = .returned (.bool true) ∧ Ext w w' := by
  have hP0 := hP
  obtain ⟨pA, pc, sA, sc, eA, ec, rfl, hr1⟩ := hR0
  obtain ⟨cA, cc, aA, ac, bA, bc, rfl, -⟩ := hP0
  have hR : RulesAt w (.agg #[.string R.name, .int .i64 R.width, .int .i64 R.height, .slice pA R.pieces.length pc, .slice sA R.start.length sc, .bool false, .bool R.keeps, .slice eA R.ends.length ec, .int .i64 R.blocked, .int .i64 R.quiet, .int .i64 R.rept]) (noFalls R) := ⟨pA, pc, sA, sc, eA, ec, rfl, hr1⟩
  clear hr1
  go_enter Try.func9, Try.ntmps9
  have HWO := hide (fun W (v1 v2 : Value) (h1 : RulesAt W v1 threeR) (h2 : PosAt W v2 wonP) => won_any v1 v2 W h1 h2)
  go_wp2_with fail
  obtain ⟨xa, kR, kP⟩ := blks2 w #[.string R.name, .int .i64 R.width, .int .i64 R.height, .slice pA R.pieces.length pc, .slice sA R.start.length sc, .bool false, .bool R.keeps, .slice eA R.ends.length ec, .int .i64 R.blocked, .int .i64 R.quiet, .int .i64 R.rept] 26 #[.slice cA P.cells.length cc, .slice aA P.hand0.length ac, .slice bA P.hand1.length bc, .int .i64 P.turn, .int .i64 P.quiet] 36
  replace hR := hR.ext xa
  replace hP := hP.ext xa
  have X := xa
  clear xa
  generalize ((w.alloc (.cells #[.string R.name, .int .i64 R.width, .int .i64 R.height, .slice pA R.pieces.length pc, .slice sA R.start.length sc, .bool false, .bool R.keeps, .slice eA R.ends.length ec, .int .i64 R.blocked, .int .i64 R.quiet, .int .i64 R.rept] 26)).alloc (.cells #[.slice cA P.cells.length cc, .slice aA P.hand0.length ac, .slice bA P.hand1.length bc, .int .i64 P.turn, .int .i64 P.quiet] 36)) = w2 at *
  generalize w.heap.size + 1 = BP at *
  generalize w.heap.size = BR at *
  have HS0 := hide (fun W (h : Ext w2 W) => And.intro (hR.ext h) (And.intro (hP.ext h) (And.intro (kR.ext h) (And.intro (kP.ext h) (ext_trans X h)))))
  clear hR hP kR kP X
  refine (near_any _).mono ?_
  rintro e wn ⟨vn, rfl, hn, xn⟩
  obtain ⟨g0, c0, g1, c1, g2, c2, en, b0, b1, b2, r0, r1, r2, m0, m1, m2⟩ := hn
  have en' : vn = .agg #[.slice (some ⟨g0, 0, none⟩) 9 c0, .slice (some ⟨g1, 0, none⟩) 1 c1, .slice (some ⟨g2, 0, none⟩) 1 c2, .int .i64 0, .int .i64 0] := en
  subst en'
  clear en
  obtain ⟨xa, kW⟩ := blks1 wn #[.slice (some ⟨g0, 0, none⟩) 9 c0, .slice (some ⟨g1, 0, none⟩) 1 c1, .slice (some ⟨g2, 0, none⟩) 1 c2, .int .i64 0, .int .i64 0] 36
  have q0 := r0.alloc (.cells #[.slice (some ⟨g0, 0, none⟩) 9 c0, .slice (some ⟨g1, 0, none⟩) 1 c1, .slice (some ⟨g2, 0, none⟩) 1 c2, .int .i64 0, .int .i64 0] 36)
  have q1 := r1.alloc (.cells #[.slice (some ⟨g0, 0, none⟩) 9 c0, .slice (some ⟨g1, 0, none⟩) 1 c1, .slice (some ⟨g2, 0, none⟩) 1 c2, .int .i64 0, .int .i64 0] 36)
  have q2 := r2.alloc (.cells #[.slice (some ⟨g0, 0, none⟩) 9 c0, .slice (some ⟨g1, 0, none⟩) 1 c1, .slice (some ⟨g2, 0, none⟩) 1 c2, .int .i64 0, .int .i64 0] 36)
  have hlt : Hid (w2.heap.size ≤ g0 ∧ g0 < g1 ∧ g1 < g2 ∧ g2 < wn.heap.size) := hide ⟨b0, b1, b2, r2.lt⟩
  have HXN := hide (ext_trans xn xa)
  clear r0 r1 r2 b0 b1 b2 xn xa
  go_upto_region 3 with fail
  generalize wn.alloc (.cells #[.slice (some ⟨g0, 0, none⟩) 9 c0, .slice (some ⟨g1, 0, none⟩) 1 c1, .slice (some ⟨g2, 0, none⟩) 1 c2, .int .i64 0, .int .i64 0] 36) = wm at *
  generalize wn.heap.size = BW at *
  have kc := kW.cell
  have kz := kW.frozen
  have s2 : wm.cell? ⟨g0, 2, none⟩ = some (.int .i64 0) := q0.cell (i := 2) (by decide)
  have sz : wm.frozen? ⟨g0, 2, none⟩ = false := q0.frozen 2
  have ng : ¬ BW = g0 := by have := hlt.out; omega
  have ng' : ¬ g0 = BW := by have := hlt.out; omega
  go_wp2_with fail
  have KF := hide (blk_put (Blk.far kW (p := ⟨g0, 2, none⟩) ng (.int .i64 1)) (i := 3) (u := .int .i64 1) (cs' := #[.slice (some ⟨g0, 0, none⟩) 9 c0, .slice (some ⟨g1, 0, none⟩) 1 c1, .slice (some ⟨g2, 0, none⟩) 1 c2, .int .i64 1, .int .i64 0]) rfl)
  have PF : Hid (PosAt ((wm.setCell ⟨g0, 2, none⟩ (.int .i64 1)).setCell ⟨BW, 3, none⟩ (.int .i64 1)) (.agg #[.slice (some ⟨g0, 0, none⟩) 9 c0, .slice (some ⟨g1, 0, none⟩) 1 c1, .slice (some ⟨g2, 0, none⟩) 1 c2, .int .i64 1, .int .i64 0]) wonP) := hide ⟨_, c0, _, c1, _, c2, rfl, (IRow.far (q0.set_ 2 1) (p := ⟨BW, 3, none⟩) ng' _).ints, (IRow.far (IRow.far q1 (p := ⟨g0, 2, none⟩) (by have := hlt.out; show g1 ≠ g0; omega) _) (p := ⟨BW, 3, none⟩) (by have := hlt.out; show g1 ≠ BW; omega) _).ints, (IRow.far (IRow.far q2 (p := ⟨g0, 2, none⟩) (by have := hlt.out; show g2 ≠ g0; omega) _) (p := ⟨BW, 3, none⟩) (by have := hlt.out; show g2 ≠ BW; omega) _).ints, m0, m1, m2⟩
  have XF := hide (ext_set (ext_set HXN.out (p := ⟨g0, 2, none⟩) (by have := hlt.out; show w2.heap.size ≤ g0; omega) (.int .i64 1)) (p := ⟨BW, 3, none⟩) (by have := hlt.out; show w2.heap.size ≤ BW; omega) (.int .i64 1))
  clear kc kz s2 sz kW q0 q1 q2 ng ng' m0 m1 m2 HXN hlt
  generalize (wm.setCell ⟨g0, 2, none⟩ (.int .i64 1)).setCell ⟨BW, 3, none⟩ (.int .i64 1) = wf at *
  have keepK := hide (fun W (h : Ext wf W) => (show (fun W => W.cell? ⟨BW, 0, none⟩ = some (.slice (some ⟨g0, 0, none⟩) 9 c0) ∧ W.cell? ⟨BW, 1, none⟩ = some (.slice (some ⟨g1, 0, none⟩) 1 c1) ∧ W.cell? ⟨BW, 2, none⟩ = some (.slice (some ⟨g2, 0, none⟩) 1 c2) ∧ W.cell? ⟨BW, 3, none⟩ = some (.int .i64 1) ∧ W.cell? ⟨BW, 4, none⟩ = some (.int .i64 0) ∧ Ext wf W) W from ⟨(KF.out.ext h).cell 0, (KF.out.ext h).cell 1, (KF.out.ext h).cell 2, (KF.out.ext h).cell 3, (KF.out.ext h).cell 4, h⟩))
  have yy : Ext wf wf.drew := Below.drew (Below.refl _ _)
  refine region_K (fun W => W.cell? ⟨BW, 0, none⟩ = some (.slice (some ⟨g0, 0, none⟩) 9 c0) ∧ W.cell? ⟨BW, 1, none⟩ = some (.slice (some ⟨g1, 0, none⟩) 1 c1) ∧ W.cell? ⟨BW, 2, none⟩ = some (.slice (some ⟨g2, 0, none⟩) 1 c2) ∧ W.cell? ⟨BW, 3, none⟩ = some (.int .i64 1) ∧ W.cell? ⟨BW, 4, none⟩ = some (.int .i64 0) ∧ Ext wf W) (fun _ => True) [] (by kernel_rfl) ?_
  have hT0 := keepK.out _ yy
  refine anyK_take 1 (oi := ?oo145) ?ho145 (by kernel_rfl) (by kernel_rfl) (by kernel_rfl) (by kernel_rfl) ?hq145 ?hw145 hT0 (fun _ => trivial) (v := ?vv145) ?hy145 ?hk145
  case ho145 => (simp only [List.getElem?_toArray, List.getElem?_cons_succ, List.getElem?_cons_zero]; rfl)
  case hq145 => exact fun _ _ _ h => h
  case hw145 => rfl
  case hy145 =>
    intro W hW
    obtain ⟨z0, z1, z2, z3, z4, z5⟩ := hW
    go_simp
    first | done | with_reducible rfl
  case hk145 =>
  try simp only [Act.put, List.setIfInBounds_toArray, List.set_cons_zero, List.set_cons_succ]
  refine anyK_on1 0 (by kernel_rfl) ?_
  refine anyK_one 0 (o := ?oo146) ?ho146 ?hk146
  case ho146 => (simp only [List.getElem?_toArray, List.getElem?_cons_succ, List.getElem?_cons_zero]; rfl)
  case hk146 =>
  intro K hK
  go_simp
  refine (three_any _).mono ?_
  rintro e wt ⟨vt, rfl, ht, xx⟩
  try go_wp2_with fail
  replace yy := ext_trans yy xx
  have hT1 := keepK.out _ yy
  refine hK.out _ _ hT1 (fun _ => trivial) ?_
  clear hK K
  try simp only [Act.put, List.setIfInBounds_toArray, List.set_cons_zero, List.set_cons_succ]
  refine anyK_on1 2 (by kernel_rfl) ?_
  refine anyK_one 2 (o := ?oo147) ?ho147 ?hk147
  case ho147 => (simp only [List.getElem?_toArray, List.getElem?_cons_succ, List.getElem?_cons_zero]; rfl)
  case hk147 =>
  intro K hK
  go_simp
  refine (HWO.out _ _ _ ht (PF.out.ext yy)).mono ?_
  rintro e wo ⟨rfl, xx⟩
  try go_wp2_with fail
  replace yy := ext_trans yy xx
  have hT2 := keepK.out _ yy
  refine hK.out _ _ hT2 (fun _ => trivial) ?_
  clear hK K
  try simp only [Act.put, List.setIfInBounds_toArray, List.set_cons_zero, List.set_cons_succ]
  refine anyK_take 3 (oi := ?oo148) ?ho148 (by kernel_rfl) (by kernel_rfl) (by kernel_rfl) (by kernel_rfl) ?hq148 ?hw148 hT2 (fun _ => trivial) (v := ?vv148) ?hy148 ?hk148
  case ho148 => (simp only [List.getElem?_toArray, List.getElem?_cons_succ, List.getElem?_cons_zero]; rfl)
  case hq148 => exact fun _ _ _ h => h
  case hw148 => rfl
  case hy148 =>
    intro W hW
    go_simp
    first | done | with_reducible rfl
  case hk148 =>
  try simp only [Act.put, List.setIfInBounds_toArray, List.set_cons_zero, List.set_cons_succ]
  refine anyK_take 4 (oi := ?oo149) ?ho149 (by kernel_rfl) (by kernel_rfl) (by kernel_rfl) (by kernel_rfl) ?hq149 ?hw149 hT2 (fun _ => trivial) (v := ?vv149) ?hy149 ?hk149
  case ho149 => (simp only [List.getElem?_toArray, List.getElem?_cons_succ, List.getElem?_cons_zero]; rfl)
  case hq149 => exact fun _ _ _ h => h
  case hw149 => rfl
  case hy149 =>
    intro W hW
    go_simp
    first | done | with_reducible rfl
  case hk149 =>
  try simp only [Act.put, List.setIfInBounds_toArray, List.set_cons_zero, List.set_cons_succ]
  refine anyK_take 5 (oi := ?oo150) ?ho150 (by kernel_rfl) (by kernel_rfl) (by kernel_rfl) (by kernel_rfl) ?hq150 ?hw150 hT2 (fun _ => trivial) (v := ?vv150) ?hy150 ?hk150
  case ho150 => (simp only [List.getElem?_toArray, List.getElem?_cons_succ, List.getElem?_cons_zero]; rfl)
  case hq150 => exact fun _ _ _ h => h
  case hw150 => rfl
  case hy150 =>
    intro W hW
    go_simp
    first | done | with_reducible rfl
  case hk150 =>
  try simp only [Act.put, List.setIfInBounds_toArray, List.set_cons_zero, List.set_cons_succ]
  refine anyK_take 6 (oi := ?oo151) ?ho151 (by kernel_rfl) (by kernel_rfl) (by kernel_rfl) (by kernel_rfl) ?hq151 ?hw151 hT2 (fun _ => trivial) (v := ?vv151) ?hy151 ?hk151
  case ho151 => (simp only [List.getElem?_toArray, List.getElem?_cons_succ, List.getElem?_cons_zero]; rfl)
  case hq151 => exact fun _ _ _ h => h
  case hw151 => rfl
  case hy151 =>
    intro W hW
    go_simp
    first | done | with_reducible rfl
  case hk151 =>
  try simp only [Act.put, List.setIfInBounds_toArray, List.set_cons_zero, List.set_cons_succ]
  refine anyK_take 7 (oi := ?oo152) ?ho152 (by kernel_rfl) (by kernel_rfl) (by kernel_rfl) (by kernel_rfl) ?hq152 ?hw152 hT2 (fun _ => trivial) (v := ?vv152) ?hy152 ?hk152
  case ho152 => (simp only [List.getElem?_toArray, List.getElem?_cons_succ, List.getElem?_cons_zero]; rfl)
  case hq152 => exact fun _ _ _ h => h
  case hw152 => rfl
  case hy152 =>
    intro W hW
    go_simp
    first | done | with_reducible rfl
  case hk152 =>
  try simp only [Act.put, List.setIfInBounds_toArray, List.set_cons_zero, List.set_cons_succ]
  refine anyK_done (by kernel_rfl) ?_ _
  clear keepK hT0 hT1 hT2
  obtain ⟨hR, hP, kR, kP, X⟩ := HS0.out _ (ext_trans XF.out yy)
  clear HS0 XF KF PF HWO ht xx yy
  go_wp2_with fail
  refine (three_any _).mono ?_
  rintro e w23 ⟨v1, rfl, h1, x⟩
  replace hR := hR.ext x
  replace hP := hP.ext x
  replace kR := kR.ext x
  replace kP := kP.ext x
  replace X := ext_trans X x
  clear x
  go_wp2_with fail
  refine (near_any _).mono ?_
  rintro e w24 ⟨v2, rfl, h2, x⟩
  replace hR := hR.ext x
  replace hP := hP.ext x
  replace kR := kR.ext x
  replace kP := kP.ext x
  replace h1 := h1.ext x
  replace X := ext_trans X x
  clear x
  replace h2 := h2.at_
  go_wp2_with fail
  refine (Other_yes threeR nearP _ _ _ h1 h2 valid_three sound_near).mono ?_
  rintro e w25 ⟨v5, rfl, h5, x⟩
  replace hR := hR.ext x
  replace hP := hP.ext x
  replace kR := kR.ext x
  replace kP := kP.ext x
  replace h1 := h1.ext x
  replace h2 := h2.ext x
  replace X := ext_trans X x
  clear x
  rw [other_near] at h5
  obtain ⟨cA5, cc5, aA5, ac5, bA5, bc5, e5, -⟩ := h5
  have e5' : v5 = .agg #[.slice cA5 9 cc5, .slice aA5 1 ac5, .slice bA5 1 bc5, .int .i64 1, .int .i64 0] := e5
  subst e5'
  clear e5
  clear h1 h2
  obtain ⟨xa, k5⟩ := blks1 w25 #[.slice cA5 9 cc5, .slice aA5 1 ac5, .slice bA5 1 bc5, .int .i64 1, .int .i64 0] 36
  replace hR := hR.ext xa
  replace hP := hP.ext xa
  replace kR := kR.ext xa
  replace kP := kP.ext xa
  replace X := ext_trans X xa
  clear xa
  go_upto_region 8 with fail
  generalize (w25.alloc (.cells #[.slice cA5 9 cc5, .slice aA5 1 ac5, .slice bA5 1 bc5, .int .i64 1, .int .i64 0] 36)) = w26 at *
  generalize w25.heap.size = B5 at *
  have f5 := k5.cell
  have fR := kR.cell
  have fP := kP.cell
  go_wp2_with fail
  clear f5
  clear k5
  have hn : (checkE (noFalls R) P != 0) = true := by simpa using h
  have HN := hide (fun W (v1 v2 : Value) (h1 : RulesAt W v1 (noFalls R)) (h2 : PosAt W v2 P) => EOf_no (noFalls R) P v1 v2 W h1 h2 h)
  clear h
  generalize checkE (noFalls R) P = E at *
  refine (HN.out _ _ _ hR hP).mono ?_
  rintro e w27 ⟨rfl, x⟩
  replace hR := hR.ext x
  replace hP := hP.ext x
  replace kR := kR.ext x
  replace kP := kP.ext x
  replace X := ext_trans X x
  replace fR := kR.cell
  replace fP := kP.cell
  clear x
  clear fR fP
  go_wp2
  go_ret
  exact ⟨by first | rfl | simp, X⟩
set_option maxHeartbeats 4000000 in
set_option maxRecDepth 100000 in
theorem endsExchanged_yes (R : RulesM) (P : PosM) (v u : Value) (w : World) (hR0 : RulesAt w v R) (hP : PosAt w u P) (hV : Valid (noFalls R)) (hS : Sound (noFalls R) P) :
    Calls Try.prog 9 #[v, u] w fun e w' => e = .returned (.bool true) ∧ Ext w w' := by
  have hP0 := hP
  obtain ⟨pA, pc, sA, sc, eA, ec, rfl, hr1⟩ := hR0
  obtain ⟨cA, cc, aA, ac, bA, bc, rfl, -⟩ := hP0
  have hR : RulesAt w (.agg #[.string R.name, .int .i64 R.width, .int .i64 R.height, .slice pA R.pieces.length pc, .slice sA R.start.length sc, .bool false, .bool R.keeps, .slice eA R.ends.length ec, .int .i64 R.blocked, .int .i64 R.quiet, .int .i64 R.rept]) (noFalls R) := ⟨pA, pc, sA, sc, eA, ec, rfl, hr1⟩
  clear hr1
  go_enter Try.func9, Try.ntmps9
  have HWO := hide (fun W (v1 v2 : Value) (h1 : RulesAt W v1 threeR) (h2 : PosAt W v2 wonP) => won_any v1 v2 W h1 h2)
  go_wp2_with fail
  obtain ⟨xa, kR, kP⟩ := blks2 w #[.string R.name, .int .i64 R.width, .int .i64 R.height, .slice pA R.pieces.length pc, .slice sA R.start.length sc, .bool false, .bool R.keeps, .slice eA R.ends.length ec, .int .i64 R.blocked, .int .i64 R.quiet, .int .i64 R.rept] 26 #[.slice cA P.cells.length cc, .slice aA P.hand0.length ac, .slice bA P.hand1.length bc, .int .i64 P.turn, .int .i64 P.quiet] 36
  replace hR := hR.ext xa
  replace hP := hP.ext xa
  have X := xa
  clear xa
  generalize ((w.alloc (.cells #[.string R.name, .int .i64 R.width, .int .i64 R.height, .slice pA R.pieces.length pc, .slice sA R.start.length sc, .bool false, .bool R.keeps, .slice eA R.ends.length ec, .int .i64 R.blocked, .int .i64 R.quiet, .int .i64 R.rept] 26)).alloc (.cells #[.slice cA P.cells.length cc, .slice aA P.hand0.length ac, .slice bA P.hand1.length bc, .int .i64 P.turn, .int .i64 P.quiet] 36)) = w2 at *
  generalize w.heap.size + 1 = BP at *
  generalize w.heap.size = BR at *
  have HS0 := hide (fun W (h : Ext w2 W) => And.intro (hR.ext h) (And.intro (hP.ext h) (And.intro (kR.ext h) (And.intro (kP.ext h) (ext_trans X h)))))
  clear hR hP kR kP X
  refine (near_any _).mono ?_
  rintro e wn ⟨vn, rfl, hn, xn⟩
  obtain ⟨g0, c0, g1, c1, g2, c2, en, b0, b1, b2, r0, r1, r2, m0, m1, m2⟩ := hn
  have en' : vn = .agg #[.slice (some ⟨g0, 0, none⟩) 9 c0, .slice (some ⟨g1, 0, none⟩) 1 c1, .slice (some ⟨g2, 0, none⟩) 1 c2, .int .i64 0, .int .i64 0] := en
  subst en'
  clear en
  obtain ⟨xa, kW⟩ := blks1 wn #[.slice (some ⟨g0, 0, none⟩) 9 c0, .slice (some ⟨g1, 0, none⟩) 1 c1, .slice (some ⟨g2, 0, none⟩) 1 c2, .int .i64 0, .int .i64 0] 36
  have q0 := r0.alloc (.cells #[.slice (some ⟨g0, 0, none⟩) 9 c0, .slice (some ⟨g1, 0, none⟩) 1 c1, .slice (some ⟨g2, 0, none⟩) 1 c2, .int .i64 0, .int .i64 0] 36)
  have q1 := r1.alloc (.cells #[.slice (some ⟨g0, 0, none⟩) 9 c0, .slice (some ⟨g1, 0, none⟩) 1 c1, .slice (some ⟨g2, 0, none⟩) 1 c2, .int .i64 0, .int .i64 0] 36)
  have q2 := r2.alloc (.cells #[.slice (some ⟨g0, 0, none⟩) 9 c0, .slice (some ⟨g1, 0, none⟩) 1 c1, .slice (some ⟨g2, 0, none⟩) 1 c2, .int .i64 0, .int .i64 0] 36)
  have hlt : Hid (w2.heap.size ≤ g0 ∧ g0 < g1 ∧ g1 < g2 ∧ g2 < wn.heap.size) := hide ⟨b0, b1, b2, r2.lt⟩
  have HXN := hide (ext_trans xn xa)
  clear r0 r1 r2 b0 b1 b2 xn xa
  go_upto_region 3 with fail
  generalize wn.alloc (.cells #[.slice (some ⟨g0, 0, none⟩) 9 c0, .slice (some ⟨g1, 0, none⟩) 1 c1, .slice (some ⟨g2, 0, none⟩) 1 c2, .int .i64 0, .int .i64 0] 36) = wm at *
  generalize wn.heap.size = BW at *
  have kc := kW.cell
  have kz := kW.frozen
  have s2 : wm.cell? ⟨g0, 2, none⟩ = some (.int .i64 0) := q0.cell (i := 2) (by decide)
  have sz : wm.frozen? ⟨g0, 2, none⟩ = false := q0.frozen 2
  have ng : ¬ BW = g0 := by have := hlt.out; omega
  have ng' : ¬ g0 = BW := by have := hlt.out; omega
  go_wp2_with fail
  have KF := hide (blk_put (Blk.far kW (p := ⟨g0, 2, none⟩) ng (.int .i64 1)) (i := 3) (u := .int .i64 1) (cs' := #[.slice (some ⟨g0, 0, none⟩) 9 c0, .slice (some ⟨g1, 0, none⟩) 1 c1, .slice (some ⟨g2, 0, none⟩) 1 c2, .int .i64 1, .int .i64 0]) rfl)
  have PF : Hid (PosAt ((wm.setCell ⟨g0, 2, none⟩ (.int .i64 1)).setCell ⟨BW, 3, none⟩ (.int .i64 1)) (.agg #[.slice (some ⟨g0, 0, none⟩) 9 c0, .slice (some ⟨g1, 0, none⟩) 1 c1, .slice (some ⟨g2, 0, none⟩) 1 c2, .int .i64 1, .int .i64 0]) wonP) := hide ⟨_, c0, _, c1, _, c2, rfl, (IRow.far (q0.set_ 2 1) (p := ⟨BW, 3, none⟩) ng' _).ints, (IRow.far (IRow.far q1 (p := ⟨g0, 2, none⟩) (by have := hlt.out; show g1 ≠ g0; omega) _) (p := ⟨BW, 3, none⟩) (by have := hlt.out; show g1 ≠ BW; omega) _).ints, (IRow.far (IRow.far q2 (p := ⟨g0, 2, none⟩) (by have := hlt.out; show g2 ≠ g0; omega) _) (p := ⟨BW, 3, none⟩) (by have := hlt.out; show g2 ≠ BW; omega) _).ints, m0, m1, m2⟩
  have XF := hide (ext_set (ext_set HXN.out (p := ⟨g0, 2, none⟩) (by have := hlt.out; show w2.heap.size ≤ g0; omega) (.int .i64 1)) (p := ⟨BW, 3, none⟩) (by have := hlt.out; show w2.heap.size ≤ BW; omega) (.int .i64 1))
  clear kc kz s2 sz kW q0 q1 q2 ng ng' m0 m1 m2 HXN hlt
  generalize (wm.setCell ⟨g0, 2, none⟩ (.int .i64 1)).setCell ⟨BW, 3, none⟩ (.int .i64 1) = wf at *
  have keepK := hide (fun W (h : Ext wf W) => (show (fun W => W.cell? ⟨BW, 0, none⟩ = some (.slice (some ⟨g0, 0, none⟩) 9 c0) ∧ W.cell? ⟨BW, 1, none⟩ = some (.slice (some ⟨g1, 0, none⟩) 1 c1) ∧ W.cell? ⟨BW, 2, none⟩ = some (.slice (some ⟨g2, 0, none⟩) 1 c2) ∧ W.cell? ⟨BW, 3, none⟩ = some (.int .i64 1) ∧ W.cell? ⟨BW, 4, none⟩ = some (.int .i64 0) ∧ Ext wf W) W from ⟨(KF.out.ext h).cell 0, (KF.out.ext h).cell 1, (KF.out.ext h).cell 2, (KF.out.ext h).cell 3, (KF.out.ext h).cell 4, h⟩))
  have yy : Ext wf wf.drew := Below.drew (Below.refl _ _)
  refine region_K (fun W => W.cell? ⟨BW, 0, none⟩ = some (.slice (some ⟨g0, 0, none⟩) 9 c0) ∧ W.cell? ⟨BW, 1, none⟩ = some (.slice (some ⟨g1, 0, none⟩) 1 c1) ∧ W.cell? ⟨BW, 2, none⟩ = some (.slice (some ⟨g2, 0, none⟩) 1 c2) ∧ W.cell? ⟨BW, 3, none⟩ = some (.int .i64 1) ∧ W.cell? ⟨BW, 4, none⟩ = some (.int .i64 0) ∧ Ext wf W) (fun _ => True) [] (by kernel_rfl) ?_
  have hT0 := keepK.out _ yy
  refine anyK_take 1 (oi := ?oo153) ?ho153 (by kernel_rfl) (by kernel_rfl) (by kernel_rfl) (by kernel_rfl) ?hq153 ?hw153 hT0 (fun _ => trivial) (v := ?vv153) ?hy153 ?hk153
  case ho153 => (simp only [List.getElem?_toArray, List.getElem?_cons_succ, List.getElem?_cons_zero]; rfl)
  case hq153 => exact fun _ _ _ h => h
  case hw153 => rfl
  case hy153 =>
    intro W hW
    obtain ⟨z0, z1, z2, z3, z4, z5⟩ := hW
    go_simp
    first | done | with_reducible rfl
  case hk153 =>
  try simp only [Act.put, List.setIfInBounds_toArray, List.set_cons_zero, List.set_cons_succ]
  refine anyK_on1 0 (by kernel_rfl) ?_
  refine anyK_one 0 (o := ?oo154) ?ho154 ?hk154
  case ho154 => (simp only [List.getElem?_toArray, List.getElem?_cons_succ, List.getElem?_cons_zero]; rfl)
  case hk154 =>
  intro K hK
  go_simp
  refine (three_any _).mono ?_
  rintro e wt ⟨vt, rfl, ht, xx⟩
  try go_wp2_with fail
  replace yy := ext_trans yy xx
  have hT1 := keepK.out _ yy
  refine hK.out _ _ hT1 (fun _ => trivial) ?_
  clear hK K
  try simp only [Act.put, List.setIfInBounds_toArray, List.set_cons_zero, List.set_cons_succ]
  refine anyK_on1 2 (by kernel_rfl) ?_
  refine anyK_one 2 (o := ?oo155) ?ho155 ?hk155
  case ho155 => (simp only [List.getElem?_toArray, List.getElem?_cons_succ, List.getElem?_cons_zero]; rfl)
  case hk155 =>
  intro K hK
  go_simp
  refine (HWO.out _ _ _ ht (PF.out.ext yy)).mono ?_
  rintro e wo ⟨rfl, xx⟩
  try go_wp2_with fail
  replace yy := ext_trans yy xx
  have hT2 := keepK.out _ yy
  refine hK.out _ _ hT2 (fun _ => trivial) ?_
  clear hK K
  try simp only [Act.put, List.setIfInBounds_toArray, List.set_cons_zero, List.set_cons_succ]
  refine anyK_take 3 (oi := ?oo156) ?ho156 (by kernel_rfl) (by kernel_rfl) (by kernel_rfl) (by kernel_rfl) ?hq156 ?hw156 hT2 (fun _ => trivial) (v := ?vv156) ?hy156 ?hk156
  case ho156 => (simp only [List.getElem?_toArray, List.getElem?_cons_succ, List.getElem?_cons_zero]; rfl)
  case hq156 => exact fun _ _ _ h => h
  case hw156 => rfl
  case hy156 =>
    intro W hW
    go_simp
    first | done | with_reducible rfl
  case hk156 =>
  try simp only [Act.put, List.setIfInBounds_toArray, List.set_cons_zero, List.set_cons_succ]
  refine anyK_take 4 (oi := ?oo157) ?ho157 (by kernel_rfl) (by kernel_rfl) (by kernel_rfl) (by kernel_rfl) ?hq157 ?hw157 hT2 (fun _ => trivial) (v := ?vv157) ?hy157 ?hk157
  case ho157 => (simp only [List.getElem?_toArray, List.getElem?_cons_succ, List.getElem?_cons_zero]; rfl)
  case hq157 => exact fun _ _ _ h => h
  case hw157 => rfl
  case hy157 =>
    intro W hW
    go_simp
    first | done | with_reducible rfl
  case hk157 =>
  try simp only [Act.put, List.setIfInBounds_toArray, List.set_cons_zero, List.set_cons_succ]
  refine anyK_take 5 (oi := ?oo158) ?ho158 (by kernel_rfl) (by kernel_rfl) (by kernel_rfl) (by kernel_rfl) ?hq158 ?hw158 hT2 (fun _ => trivial) (v := ?vv158) ?hy158 ?hk158
  case ho158 => (simp only [List.getElem?_toArray, List.getElem?_cons_succ, List.getElem?_cons_zero]; rfl)
  case hq158 => exact fun _ _ _ h => h
  case hw158 => rfl
  case hy158 =>
    intro W hW
    go_simp
    first | done | with_reducible rfl
  case hk158 =>
  try simp only [Act.put, List.setIfInBounds_toArray, List.set_cons_zero, List.set_cons_succ]
  refine anyK_take 6 (oi := ?oo159) ?ho159 (by kernel_rfl) (by kernel_rfl) (by kernel_rfl) (by kernel_rfl) ?hq159 ?hw159 hT2 (fun _ => trivial) (v := ?vv159) ?hy159 ?hk159
  case ho159 => (simp only [List.getElem?_toArray, List.getElem?_cons_succ, List.getElem?_cons_zero]; rfl)
  case hq159 => exact fun _ _ _ h => h
  case hw159 => rfl
  case hy159 =>
    intro W hW
    go_simp
    first | done | with_reducible rfl
  case hk159 =>
  try simp only [Act.put, List.setIfInBounds_toArray, List.set_cons_zero, List.set_cons_succ]
  refine anyK_take 7 (oi := ?oo160) ?ho160 (by kernel_rfl) (by kernel_rfl) (by kernel_rfl) (by kernel_rfl) ?hq160 ?hw160 hT2 (fun _ => trivial) (v := ?vv160) ?hy160 ?hk160
  case ho160 => (simp only [List.getElem?_toArray, List.getElem?_cons_succ, List.getElem?_cons_zero]; rfl)
  case hq160 => exact fun _ _ _ h => h
  case hw160 => rfl
  case hy160 =>
    intro W hW
    go_simp
    first | done | with_reducible rfl
  case hk160 =>
  try simp only [Act.put, List.setIfInBounds_toArray, List.set_cons_zero, List.set_cons_succ]
  refine anyK_done (by kernel_rfl) ?_ _
  clear keepK hT0 hT1 hT2
  obtain ⟨hR, hP, kR, kP, X⟩ := HS0.out _ (ext_trans XF.out yy)
  clear HS0 XF KF PF HWO ht xx yy
  go_wp2_with fail
  refine (three_any _).mono ?_
  rintro e w23 ⟨v1, rfl, h1, x⟩
  replace hR := hR.ext x
  replace hP := hP.ext x
  replace kR := kR.ext x
  replace kP := kP.ext x
  replace X := ext_trans X x
  clear x
  go_wp2_with fail
  refine (near_any _).mono ?_
  rintro e w24 ⟨v2, rfl, h2, x⟩
  replace hR := hR.ext x
  replace hP := hP.ext x
  replace kR := kR.ext x
  replace kP := kP.ext x
  replace h1 := h1.ext x
  replace X := ext_trans X x
  clear x
  replace h2 := h2.at_
  go_wp2_with fail
  refine (Other_yes threeR nearP _ _ _ h1 h2 valid_three sound_near).mono ?_
  rintro e w25 ⟨v5, rfl, h5, x⟩
  replace hR := hR.ext x
  replace hP := hP.ext x
  replace kR := kR.ext x
  replace kP := kP.ext x
  replace h1 := h1.ext x
  replace h2 := h2.ext x
  replace X := ext_trans X x
  clear x
  rw [other_near] at h5
  obtain ⟨cA5, cc5, aA5, ac5, bA5, bc5, e5, -⟩ := h5
  have e5' : v5 = .agg #[.slice cA5 9 cc5, .slice aA5 1 ac5, .slice bA5 1 bc5, .int .i64 1, .int .i64 0] := e5
  subst e5'
  clear e5
  clear h1 h2
  obtain ⟨xa, k5⟩ := blks1 w25 #[.slice cA5 9 cc5, .slice aA5 1 ac5, .slice bA5 1 bc5, .int .i64 1, .int .i64 0] 36
  replace hR := hR.ext xa
  replace hP := hP.ext xa
  replace kR := kR.ext xa
  replace kP := kP.ext xa
  replace X := ext_trans X xa
  clear xa
  go_upto_region 8 with fail
  generalize (w25.alloc (.cells #[.slice cA5 9 cc5, .slice aA5 1 ac5, .slice bA5 1 bc5, .int .i64 1, .int .i64 0] 36)) = w26 at *
  generalize w25.heap.size = B5 at *
  have f5 := k5.cell
  have fR := kR.cell
  have fP := kP.cell
  go_wp2_with fail
  clear f5
  clear k5
  have HOF := hide (fun (Q : PosM) (hQ : Sound (noFalls R) Q) W (v1 v2 : Value) (h1 : RulesAt W v1 (noFalls R)) (h2 : PosAt W v2 Q) => EOf_yes (noFalls R) Q v1 v2 W h1 h2 hV hQ)
  have HF1 := hide (HOF.out P hS)
  have HF2 := hide (HOF.out _ (sound_other' hV hS))
  have HSW := hide (result_exch hV hS rfl)
  have hb := result_bd (noFalls R) P hS.turn
  have HO := hide (fun W (v1 v2 : Value) (h1 : RulesAt W v1 (noFalls R)) (h2 : PosAt W v2 P) => Other_yes (noFalls R) P v1 v2 W h1 h2 hV hS)
  have HLN := hide (turnCells_length R.width R.height P.cells)
  obtain ⟨z0, z1⟩ := hb
  clear hV hS HOF
  generalize resultM (noFalls R) (otherP (noFalls R) P) = z2 at *
  generalize resultM (noFalls R) P = z at *
  refine (HF1.out _ _ _ hR hP).mono ?_
  rintro e w27 ⟨rfl, x⟩
  replace hR := hR.ext x
  replace hP := hP.ext x
  replace kR := kR.ext x
  replace kP := kP.ext x
  replace X := ext_trans X x
  replace fR := kR.cell
  replace fP := kP.cell
  clear x
  go_wp2_with fail
  refine (HO.out _ _ _ hR hP).mono ?_
  rintro e w28 ⟨v7, rfl, h7, x⟩
  replace hR := hR.ext x
  replace hP := hP.ext x
  replace kR := kR.ext x
  replace kP := kP.ext x
  replace X := ext_trans X x
  replace fR := kR.cell
  replace fP := kP.cell
  clear x
  have h7v := h7
  obtain ⟨cA7, cc7, aA7, ac7, bA7, bc7, e7, -⟩ := h7v
  have e7' : v7 = .agg #[.slice cA7 P.cells.length cc7, .slice aA7 P.hand1.length ac7, .slice bA7 P.hand0.length bc7, .int .i64 (1 - P.turn), .int .i64 P.quiet] := by rw [e7]; show Value.agg #[.slice cA7 (turnCells R.width R.height P.cells).length cc7, .slice aA7 P.hand1.length ac7, .slice bA7 P.hand0.length bc7, .int .i64 (1 - P.turn), .int .i64 P.quiet] = _; rw [HLN.out]
  subst e7'
  clear e7
  obtain ⟨xa, k7⟩ := blks1 w28 #[.slice cA7 P.cells.length cc7, .slice aA7 P.hand1.length ac7, .slice bA7 P.hand0.length bc7, .int .i64 (1 - P.turn), .int .i64 P.quiet] 36
  replace hR := hR.ext xa
  replace hP := hP.ext xa
  replace kR := kR.ext xa
  replace kP := kP.ext xa
  replace h7 := h7.ext xa
  replace X := ext_trans X xa
  have fR' := kR.cell
  have fP' := kP.cell
  clear xa
  go_wp2_with fail
  generalize (w28.alloc (.cells #[.slice cA7 P.cells.length cc7, .slice aA7 P.hand1.length ac7, .slice bA7 P.hand0.length bc7, .int .i64 (1 - P.turn), .int .i64 P.quiet] 36)) = w29 at *
  generalize w28.heap.size = B7 at *
  replace fR := kR.cell
  clear fR'
  replace fP := kP.cell
  clear fP'
  have f7 := k7.cell
  refine (HF2.out _ _ _ hR h7).mono ?_
  rintro e w30 ⟨rfl, x⟩
  replace hR := hR.ext x
  replace hP := hP.ext x
  replace kR := kR.ext x
  replace kP := kP.ext x
  replace h7 := h7.ext x
  replace k7 := k7.ext x
  replace X := ext_trans X x
  replace fR := kR.cell
  replace fP := kP.cell
  replace f7 := k7.cell
  clear x
  clear f7 fR fP
  clear h7 k7
  rcases (by omega : z = 0 ∨ z = 1 ∨ z = 2 ∨ z = 3) with rfl | rfl | rfl | rfl
  · skip
    obtain rfl : z2 = 0 := HSW.out.trans (by decide)
    clear z0 z1 HSW HF1 HF2 HO HLN
    obtain ⟨xa, kE⟩ := blks1 w30 #[.int .i64 0, .int .i64 0] 28
    replace hR := hR.ext xa
    replace hP := hP.ext xa
    replace kR := kR.ext xa
    replace kP := kP.ext xa
    replace X := ext_trans X xa
    clear xa
    go_wp2_with fail
    generalize (w30.alloc (.cells #[.int .i64 0, .int .i64 0] 28)) = w31 at *
    generalize w30.heap.size = BE at *
    refine (fine_ext (fine_any (some ⟨BE, 0, none⟩) 2 2 [0, 0] _ rfl (by omega) (blk_ints kE))).mono ?_
    rintro e w32 ⟨rfl, x⟩
    replace hR := hR.ext x
    replace hP := hP.ext x
    replace kR := kR.ext x
    replace kP := kP.ext x
    replace kE := kE.ext x
    replace X := ext_trans X x
    clear x
    rw [show allZero [0, 0] = true from rfl]
    clear kE
    go_wp2
    go_ret
    exact ⟨by first | rfl | simp, X⟩
  · skip
    obtain rfl : z2 = 2 := HSW.out.trans (by decide)
    clear z0 z1 HSW HF1 HF2 HO HLN
    obtain ⟨xa, kE⟩ := blks1 w30 #[.int .i64 0, .int .i64 0] 28
    replace hR := hR.ext xa
    replace hP := hP.ext xa
    replace kR := kR.ext xa
    replace kP := kP.ext xa
    replace X := ext_trans X xa
    clear xa
    go_wp2_with fail
    generalize (w30.alloc (.cells #[.int .i64 0, .int .i64 0] 28)) = w31 at *
    generalize w30.heap.size = BE at *
    refine (fine_ext (fine_any (some ⟨BE, 0, none⟩) 2 2 [0, 0] _ rfl (by omega) (blk_ints kE))).mono ?_
    rintro e w32 ⟨rfl, x⟩
    replace hR := hR.ext x
    replace hP := hP.ext x
    replace kR := kR.ext x
    replace kP := kP.ext x
    replace kE := kE.ext x
    replace X := ext_trans X x
    clear x
    rw [show allZero [0, 0] = true from rfl]
    clear kE
    go_wp2
    go_ret
    exact ⟨by first | rfl | simp, X⟩
  · skip
    obtain rfl : z2 = 1 := HSW.out.trans (by decide)
    clear z0 z1 HSW HF1 HF2 HO HLN
    obtain ⟨xa, kE⟩ := blks1 w30 #[.int .i64 0, .int .i64 0] 28
    replace hR := hR.ext xa
    replace hP := hP.ext xa
    replace kR := kR.ext xa
    replace kP := kP.ext xa
    replace X := ext_trans X xa
    clear xa
    go_wp2_with fail
    generalize (w30.alloc (.cells #[.int .i64 0, .int .i64 0] 28)) = w31 at *
    generalize w30.heap.size = BE at *
    refine (fine_ext (fine_any (some ⟨BE, 0, none⟩) 2 2 [0, 0] _ rfl (by omega) (blk_ints kE))).mono ?_
    rintro e w32 ⟨rfl, x⟩
    replace hR := hR.ext x
    replace hP := hP.ext x
    replace kR := kR.ext x
    replace kP := kP.ext x
    replace kE := kE.ext x
    replace X := ext_trans X x
    clear x
    rw [show allZero [0, 0] = true from rfl]
    clear kE
    go_wp2
    go_ret
    exact ⟨by first | rfl | simp, X⟩
  · skip
    obtain rfl : z2 = 3 := HSW.out.trans (by decide)
    clear z0 z1 HSW HF1 HF2 HO HLN
    obtain ⟨xa, kE⟩ := blks1 w30 #[.int .i64 0, .int .i64 0] 28
    replace hR := hR.ext xa
    replace hP := hP.ext xa
    replace kR := kR.ext xa
    replace kP := kP.ext xa
    replace X := ext_trans X xa
    clear xa
    go_wp2_with fail
    generalize (w30.alloc (.cells #[.int .i64 0, .int .i64 0] 28)) = w31 at *
    generalize w30.heap.size = BE at *
    refine (fine_ext (fine_any (some ⟨BE, 0, none⟩) 2 2 [0, 0] _ rfl (by omega) (blk_ints kE))).mono ?_
    rintro e w32 ⟨rfl, x⟩
    replace hR := hR.ext x
    replace hP := hP.ext x
    replace kR := kR.ext x
    replace kP := kP.ext x
    replace kE := kE.ext x
    replace X := ext_trans X x
    clear x
    rw [show allZero [0, 0] = true from rfl]
    clear kE
    go_wp2
    go_ret
    exact ⟨by first | rfl | simp, X⟩
theorem endsExchanged_law (v : Value) (R : RulesM) (u : Value) (P : PosM) (w : World) (hR : RulesAt w v R) (hP : PosAt w u P) :
    Calls Try.prog 9 #[v, u] w fun e w' => e = .returned (.bool true) ∧ Ext w w' := by
  by_cases h : checkE (noFalls R) P = 0
  · obtain ⟨hV, hS⟩ := check_iff.1 h
    exact endsExchanged_yes R P v u w hR hP hV hS
  · exact endsExchanged_no R P v u w hR hP h

end Go.Proofs.Ytcfiannlpkofpaa
