/- Walk: the law PlainRepeats. -/
import Derived.Test.YtmofipijjokjfaaGGameB
import Derived.Test.YtmofipijjokjfaaRowIn
import Derived.Test.YtmofipijjokjfaaWon
import Derived.Test.YtmofipijjokjfaaSome
import Derived.BigFrame
namespace Go.Proofs.Ytmofipijjokjfaa
open Go.ChangeShapes Go.WideShapes Go.ChangeAt Go.RowKit Go.Shelf
set_option linter.unusedVariables false
set_option linter.unusedSimpArgs false
theorem run_min3 (W : World) (ats : Array TypeId) (ty : TypeId) (a b : Int) : (Builtin.min_ ats ty #[.int .i64 a, .int .i64 b]).run Try.prog W = .ok (.int .i64 (min a b)) W := by
  have e : min a b = if b < a then b else a := by split <;> omega
  rw [e]
  simp [Builtin.min_, Builtin.min2]
theorem count_pos {ps : List PosM} {P : PosM} (h : P ∈ ps) : 1 ≤ countG ps P := by
  unfold countG
  exact List.length_pos_iff_exists_mem.2 ⟨P, List.mem_filter.2 ⟨h, sameB_self P⟩⟩
theorem rept_cases {R : RulesM} (hV : Valid R) : R.rept = 0 ∨ (0 < R.rept ∧ R.rept ≠ 0) := by
  have h := hV.last
  unfold lastB at h
  simp only [Bool.and_eq_true, Bool.or_eq_true, beq_iff_eq, decide_eq_true_eq, inB_iff] at h
  omega
theorem moves_open' {R : RulesM} {P : PosM} (hT : P.turn = 0 ∨ P.turn = 1) (h : resultM R P = 0) : listM R P ≠ [] := by
  have := open_moves h hT
  intro e
  rw [e] at this
  simp at this
set_option maxHeartbeats 8000000 in
set_option maxRecDepth 100000 in
theorem plainRepeats_bad (v : Value) (R : RulesM) (A : Option Addr) (n c : Nat) (z : List Int) (w : World) (hR : RulesAt w v R) (he : rulesE R ≠ 0) :
    Calls Try.prog 13 #[v, .slice A n c] w fun e w' => e = .returned (.bool true) ∧ Ext w w' := by
  have HWO := hide (fun W (v1 v2 : Value) (h1 : RulesAt W v1 threeR) (h2 : PosAt W v2 wonP) => won_any v1 v2 W h1 h2)
  have HNW := hide (fun W (v1 : Value) (h1 : RulesAt W v1 R) => New_no R v1 W h1 he)
  have t0 : (rulesE R != 0) = true := by simpa using he
  clear he
  generalize rulesE R = E at *
  have hR0 := hR
  obtain ⟨pA, pc, sA, sc, eA, ec, rfl, -⟩ := hR0
  go_enter Try.func13, Try.ntmps13
  go_wp2_with fail
  obtain ⟨xa, kR⟩ := blks1 w #[.string R.name, .int .i64 R.width, .int .i64 R.height, .slice pA R.pieces.length pc, .slice sA R.start.length sc, .bool R.falls, .bool R.keeps, .slice eA R.ends.length ec, .int .i64 R.blocked, .int .i64 R.quiet, .int .i64 R.rept] 26
  replace hR := hR.ext xa
  have X := xa
  clear xa
  generalize (w.alloc (.cells #[.string R.name, .int .i64 R.width, .int .i64 R.height, .slice pA R.pieces.length pc, .slice sA R.start.length sc, .bool R.falls, .bool R.keeps, .slice eA R.ends.length ec, .int .i64 R.blocked, .int .i64 R.quiet, .int .i64 R.rept] 26)) = w2 at *
  generalize w.heap.size = BR at *
  have HS0 := hide (fun W (h : Ext w2 W) => And.intro (hR.ext h) (And.intro (kR.ext h) (ext_trans X h)))
  clear hR kR X
  refine (near_any _).mono ?_
  rintro e wn ⟨vn, rfl, hn, xn⟩
  obtain ⟨g0, c0, g1, c1, g2, c2, en, b0, b1, b2, r0, r1, r2, m0, m1, m2⟩ := hn
  have en' : vn = .agg #[.slice (some ⟨g0, 0, none⟩) 9 c0, .slice (some ⟨g1, 0, none⟩) 1 c1, .slice (some ⟨g2, 0, none⟩) 1 c2, .int .i64 0, .int .i64 0] := en
  subst en'
  clear en
  obtain ⟨xa, kW⟩ := blks1 wn #[.slice (some ⟨g0, 0, none⟩) 9 c0, .slice (some ⟨g1, 0, none⟩) 1 c1, .slice (some ⟨g2, 0, none⟩) 1 c2, .int .i64 0, .int .i64 0] 29
  have q0 := r0.alloc (.cells #[.slice (some ⟨g0, 0, none⟩) 9 c0, .slice (some ⟨g1, 0, none⟩) 1 c1, .slice (some ⟨g2, 0, none⟩) 1 c2, .int .i64 0, .int .i64 0] 29)
  have q1 := r1.alloc (.cells #[.slice (some ⟨g0, 0, none⟩) 9 c0, .slice (some ⟨g1, 0, none⟩) 1 c1, .slice (some ⟨g2, 0, none⟩) 1 c2, .int .i64 0, .int .i64 0] 29)
  have q2 := r2.alloc (.cells #[.slice (some ⟨g0, 0, none⟩) 9 c0, .slice (some ⟨g1, 0, none⟩) 1 c1, .slice (some ⟨g2, 0, none⟩) 1 c2, .int .i64 0, .int .i64 0] 29)
  have hlt : Hid (w2.heap.size ≤ g0 ∧ g0 < g1 ∧ g1 < g2 ∧ g2 < wn.heap.size) := hide ⟨b0, b1, b2, r2.lt⟩
  have HXN := hide (ext_trans xn xa)
  clear r0 r1 r2 b0 b1 b2 xn xa
  go_upto_region 2 with fail
  generalize wn.alloc (.cells #[.slice (some ⟨g0, 0, none⟩) 9 c0, .slice (some ⟨g1, 0, none⟩) 1 c1, .slice (some ⟨g2, 0, none⟩) 1 c2, .int .i64 0, .int .i64 0] 29) = wm at *
  generalize wn.heap.size = BW at *
  have kc := kW.cell
  have kz := kW.frozen
  have s2 : wm.cell? ⟨g0, 2, none⟩ = some (.int .i64 0) := q0.cell (i := 2) (by decide)
  have sz : wm.frozen? ⟨g0, 2, none⟩ = false := q0.frozen 2
  have ng : ¬ BW = g0 := by have := hlt.out; omega
  have ng' : ¬ g0 = BW := by have := hlt.out; omega
  go_wp2_with fail
  have KF := hide (blk_put (Blk.far kW (p := ⟨g0, 2, none⟩) ng (.int .i64 1)) (i := 3) (u := .int .i64 1) (cs' := #[.slice (some ⟨g0, 0, none⟩) 9 c0, .slice (some ⟨g1, 0, none⟩) 1 c1, .slice (some ⟨g2, 0, none⟩) 1 c2, .int .i64 1, .int .i64 0]) rfl)
  have PF : Hid (PosAt ((wm.setCell ⟨g0, 2, none⟩ (.int .i64 1)).setCell ⟨BW, 3, none⟩ (.int .i64 1)) (.agg #[.slice (some ⟨g0, 0, none⟩) 9 c0, .slice (some ⟨g1, 0, none⟩) 1 c1, .slice (some ⟨g2, 0, none⟩) 1 c2, .int .i64 1, .int .i64 0]) wonP) := hide ⟨_, c0, _, c1, _, c2, rfl, (IRow.far (q0.set_ 2 1) (p := ⟨BW, 3, none⟩) ng' _).ints, (IRow.far (IRow.far q1 (p := ⟨g0, 2, none⟩) (by have := hlt.out; show g1 ≠ g0; omega) _) (p := ⟨BW, 3, none⟩) (by have := hlt.out; show g1 ≠ BW; omega) _).ints, (IRow.far (IRow.far q2 (p := ⟨g0, 2, none⟩) (by have := hlt.out; show g2 ≠ g0; omega) _) (p := ⟨BW, 3, none⟩) (by have := hlt.out; show g2 ≠ BW; omega) _).ints, m0, m1, m2⟩
  have XF := hide (ext_set (ext_set HXN.out (p := ⟨g0, 2, none⟩) (by have := hlt.out; show w2.heap.size ≤ g0; omega) (.int .i64 1)) (p := ⟨BW, 3, none⟩) (by have := hlt.out; show w2.heap.size ≤ BW; omega) (.int .i64 1))
  clear kc kz s2 sz kW q0 q1 q2 ng ng' m0 m1 m2 HXN hlt
  generalize (wm.setCell ⟨g0, 2, none⟩ (.int .i64 1)).setCell ⟨BW, 3, none⟩ (.int .i64 1) = wf at *
  have keepK := hide (fun W (h : Ext wf W) => (show (fun W => W.cell? ⟨BW, 0, none⟩ = some (.slice (some ⟨g0, 0, none⟩) 9 c0) ∧ W.cell? ⟨BW, 1, none⟩ = some (.slice (some ⟨g1, 0, none⟩) 1 c1) ∧ W.cell? ⟨BW, 2, none⟩ = some (.slice (some ⟨g2, 0, none⟩) 1 c2) ∧ W.cell? ⟨BW, 3, none⟩ = some (.int .i64 1) ∧ W.cell? ⟨BW, 4, none⟩ = some (.int .i64 0) ∧ Ext wf W) W from ⟨(KF.out.ext h).cell 0, (KF.out.ext h).cell 1, (KF.out.ext h).cell 2, (KF.out.ext h).cell 3, (KF.out.ext h).cell 4, h⟩))
  have yy : Ext wf wf.drew := Below.drew (Below.refl _ _)
  refine region_K (fun W => W.cell? ⟨BW, 0, none⟩ = some (.slice (some ⟨g0, 0, none⟩) 9 c0) ∧ W.cell? ⟨BW, 1, none⟩ = some (.slice (some ⟨g1, 0, none⟩) 1 c1) ∧ W.cell? ⟨BW, 2, none⟩ = some (.slice (some ⟨g2, 0, none⟩) 1 c2) ∧ W.cell? ⟨BW, 3, none⟩ = some (.int .i64 1) ∧ W.cell? ⟨BW, 4, none⟩ = some (.int .i64 0) ∧ Ext wf W) (fun _ => True) [] (by kernel_rfl) ?_
  have hT0 := keepK.out _ yy
  refine anyK_take 1 (oi := ?oo1) ?ho1 (by kernel_rfl) (by kernel_rfl) (by kernel_rfl) (by kernel_rfl) ?hq1 ?hw1 hT0 (fun _ => trivial) (v := ?vv1) ?hy1 ?hk1
  case ho1 => (simp only [List.getElem?_toArray, List.getElem?_cons_succ, List.getElem?_cons_zero]; rfl)
  case hq1 => exact fun _ _ _ h => h
  case hw1 => rfl
  case hy1 =>
    intro W hW
    obtain ⟨z0, z1, z2, z3, z4, z5⟩ := hW
    go_simp
    first | done | with_reducible rfl
  case hk1 =>
  try simp only [Act.put, List.setIfInBounds_toArray, List.set_cons_zero, List.set_cons_succ]
  refine anyK_on1 0 (by kernel_rfl) ?_
  refine anyK_one 0 (o := ?oo2) ?ho2 ?hk2
  case ho2 => (simp only [List.getElem?_toArray, List.getElem?_cons_succ, List.getElem?_cons_zero]; rfl)
  case hk2 =>
  intro K hK
  go_simp
  refine (three_any _).mono ?_
  rintro e wt ⟨vt, rfl, ht, xx⟩
  try go_wp2_with fail
  replace yy := ext_trans yy xx
  have hT1 := keepK.out _ yy
  refine hK.out _ _ hT1 (fun _ => trivial) ?_
  clear hK K
  try simp only [Act.put, List.setIfInBounds_toArray, List.set_cons_zero, List.set_cons_succ]
  refine anyK_on1 2 (by kernel_rfl) ?_
  refine anyK_one 2 (o := ?oo3) ?ho3 ?hk3
  case ho3 => (simp only [List.getElem?_toArray, List.getElem?_cons_succ, List.getElem?_cons_zero]; rfl)
  case hk3 =>
  intro K hK
  go_simp
  refine (HWO.out _ _ _ ht (PF.out.ext yy)).mono ?_
  rintro e wo ⟨rfl, xx⟩
  try go_wp2_with fail
  replace yy := ext_trans yy xx
  have hT2 := keepK.out _ yy
  refine hK.out _ _ hT2 (fun _ => trivial) ?_
  clear hK K
  try simp only [Act.put, List.setIfInBounds_toArray, List.set_cons_zero, List.set_cons_succ]
  refine anyK_take 3 (oi := ?oo4) ?ho4 (by kernel_rfl) (by kernel_rfl) (by kernel_rfl) (by kernel_rfl) ?hq4 ?hw4 hT2 (fun _ => trivial) (v := ?vv4) ?hy4 ?hk4
  case ho4 => (simp only [List.getElem?_toArray, List.getElem?_cons_succ, List.getElem?_cons_zero]; rfl)
  case hq4 => exact fun _ _ _ h => h
  case hw4 => rfl
  case hy4 =>
    intro W hW
    go_simp
    first | done | with_reducible rfl
  case hk4 =>
  try simp only [Act.put, List.setIfInBounds_toArray, List.set_cons_zero, List.set_cons_succ]
  refine anyK_take 4 (oi := ?oo5) ?ho5 (by kernel_rfl) (by kernel_rfl) (by kernel_rfl) (by kernel_rfl) ?hq5 ?hw5 hT2 (fun _ => trivial) (v := ?vv5) ?hy5 ?hk5
  case ho5 => (simp only [List.getElem?_toArray, List.getElem?_cons_succ, List.getElem?_cons_zero]; rfl)
  case hq5 => exact fun _ _ _ h => h
  case hw5 => rfl
  case hy5 =>
    intro W hW
    go_simp
    first | done | with_reducible rfl
  case hk5 =>
  try simp only [Act.put, List.setIfInBounds_toArray, List.set_cons_zero, List.set_cons_succ]
  refine anyK_take 5 (oi := ?oo6) ?ho6 (by kernel_rfl) (by kernel_rfl) (by kernel_rfl) (by kernel_rfl) ?hq6 ?hw6 hT2 (fun _ => trivial) (v := ?vv6) ?hy6 ?hk6
  case ho6 => (simp only [List.getElem?_toArray, List.getElem?_cons_succ, List.getElem?_cons_zero]; rfl)
  case hq6 => exact fun _ _ _ h => h
  case hw6 => rfl
  case hy6 =>
    intro W hW
    go_simp
    first | done | with_reducible rfl
  case hk6 =>
  try simp only [Act.put, List.setIfInBounds_toArray, List.set_cons_zero, List.set_cons_succ]
  refine anyK_take 6 (oi := ?oo7) ?ho7 (by kernel_rfl) (by kernel_rfl) (by kernel_rfl) (by kernel_rfl) ?hq7 ?hw7 hT2 (fun _ => trivial) (v := ?vv7) ?hy7 ?hk7
  case ho7 => (simp only [List.getElem?_toArray, List.getElem?_cons_succ, List.getElem?_cons_zero]; rfl)
  case hq7 => exact fun _ _ _ h => h
  case hw7 => rfl
  case hy7 =>
    intro W hW
    go_simp
    first | done | with_reducible rfl
  case hk7 =>
  try simp only [Act.put, List.setIfInBounds_toArray, List.set_cons_zero, List.set_cons_succ]
  refine anyK_take 7 (oi := ?oo8) ?ho8 (by kernel_rfl) (by kernel_rfl) (by kernel_rfl) (by kernel_rfl) ?hq8 ?hw8 hT2 (fun _ => trivial) (v := ?vv8) ?hy8 ?hk8
  case ho8 => (simp only [List.getElem?_toArray, List.getElem?_cons_succ, List.getElem?_cons_zero]; rfl)
  case hq8 => exact fun _ _ _ h => h
  case hw8 => rfl
  case hy8 =>
    intro W hW
    go_simp
    first | done | with_reducible rfl
  case hk8 =>
  try simp only [Act.put, List.setIfInBounds_toArray, List.set_cons_zero, List.set_cons_succ]
  refine anyK_done (by kernel_rfl) ?_ _
  clear keepK hT0 hT1 hT2
  obtain ⟨hR, kR, X⟩ := HS0.out _ (ext_trans XF.out yy)
  clear HS0 XF KF PF HWO ht xx yy
  go_wp2_with fail
  refine (played_any _).mono ?_
  rintro e w23 ⟨rfl, x⟩
  replace hR := hR.ext x
  replace kR := kR.ext x
  replace X := ext_trans X x
  clear x
  go_wp2_with fail
  refine (plays_any _).mono ?_
  rintro e w24 ⟨rfl, x⟩
  replace hR := hR.ext x
  replace kR := kR.ext x
  replace X := ext_trans X x
  clear x
  have fR := kR.cell
  go_wp2_with fail
  refine (HNW.out _ _ hR).mono ?_
  rintro e w25 ⟨rfl, x⟩
  replace hR := hR.ext x
  replace kR := kR.ext x
  replace X := ext_trans X x
  replace fR := kR.cell
  clear x
  clear fR
  go_wp2
  all_goals go_ret
  all_goals exact ⟨by first | rfl | simp, X⟩
set_option maxHeartbeats 8000000 in
set_option maxRecDepth 100000 in
theorem plainRepeats_nil (v : Value) (R : RulesM) (A : Option Addr) (n c : Nat) (z : List Int) (w : World) (hR : RulesAt w v R) (hV : Valid R) (hA : A = none) (hn : n = 0) (hc : c = 0) :
    Calls Try.prog 13 #[v, .slice A n c] w fun e w' => e = .returned (.bool true) ∧ Ext w w' := by
  have HWO := hide (fun W (v1 v2 : Value) (h1 : RulesAt W v1 threeR) (h2 : PosAt W v2 wonP) => won_any v1 v2 W h1 h2)
  have HNW := hide (fun W (v1 : Value) (h1 : RulesAt W v1 R) => New_yes R v1 W h1 hV)
  have HV := hide hV
  clear hV
  obtain ⟨q, hq⟩ : ∃ q : Int, min (n : Int) 30 = q := ⟨_, rfl⟩
  have hmin : ∀ W ats ty, (Builtin.min_ ats ty #[.int .i64 (n : Int), .int .i64 30]).run Try.prog W = .ok (.int .i64 q) W := fun W ats ty => by rw [← hq]; exact run_min3 W ats ty n 30
  subst hA hn hc
  obtain rfl : q = 0 := by omega
  clear hq
  have hR0 := hR
  obtain ⟨pA, pc, sA, sc, eA, ec, rfl, -⟩ := hR0
  go_enter Try.func13, Try.ntmps13
  go_wp2_with fail
  obtain ⟨xa, kR⟩ := blks1 w #[.string R.name, .int .i64 R.width, .int .i64 R.height, .slice pA R.pieces.length pc, .slice sA R.start.length sc, .bool R.falls, .bool R.keeps, .slice eA R.ends.length ec, .int .i64 R.blocked, .int .i64 R.quiet, .int .i64 R.rept] 26
  replace hR := hR.ext xa
  have X := xa
  clear xa
  generalize (w.alloc (.cells #[.string R.name, .int .i64 R.width, .int .i64 R.height, .slice pA R.pieces.length pc, .slice sA R.start.length sc, .bool R.falls, .bool R.keeps, .slice eA R.ends.length ec, .int .i64 R.blocked, .int .i64 R.quiet, .int .i64 R.rept] 26)) = w2 at *
  generalize w.heap.size = BR at *
  have HS0 := hide (fun W (h : Ext w2 W) => And.intro (hR.ext h) (And.intro (kR.ext h) (ext_trans X h)))
  clear hR kR X
  refine (near_any _).mono ?_
  rintro e wn ⟨vn, rfl, hn, xn⟩
  obtain ⟨g0, c0, g1, c1, g2, c2, en, b0, b1, b2, r0, r1, r2, m0, m1, m2⟩ := hn
  have en' : vn = .agg #[.slice (some ⟨g0, 0, none⟩) 9 c0, .slice (some ⟨g1, 0, none⟩) 1 c1, .slice (some ⟨g2, 0, none⟩) 1 c2, .int .i64 0, .int .i64 0] := en
  subst en'
  clear en
  obtain ⟨xa, kW⟩ := blks1 wn #[.slice (some ⟨g0, 0, none⟩) 9 c0, .slice (some ⟨g1, 0, none⟩) 1 c1, .slice (some ⟨g2, 0, none⟩) 1 c2, .int .i64 0, .int .i64 0] 29
  have q0 := r0.alloc (.cells #[.slice (some ⟨g0, 0, none⟩) 9 c0, .slice (some ⟨g1, 0, none⟩) 1 c1, .slice (some ⟨g2, 0, none⟩) 1 c2, .int .i64 0, .int .i64 0] 29)
  have q1 := r1.alloc (.cells #[.slice (some ⟨g0, 0, none⟩) 9 c0, .slice (some ⟨g1, 0, none⟩) 1 c1, .slice (some ⟨g2, 0, none⟩) 1 c2, .int .i64 0, .int .i64 0] 29)
  have q2 := r2.alloc (.cells #[.slice (some ⟨g0, 0, none⟩) 9 c0, .slice (some ⟨g1, 0, none⟩) 1 c1, .slice (some ⟨g2, 0, none⟩) 1 c2, .int .i64 0, .int .i64 0] 29)
  have hlt : Hid (w2.heap.size ≤ g0 ∧ g0 < g1 ∧ g1 < g2 ∧ g2 < wn.heap.size) := hide ⟨b0, b1, b2, r2.lt⟩
  have HXN := hide (ext_trans xn xa)
  clear r0 r1 r2 b0 b1 b2 xn xa
  go_upto_region 2 with fail
  generalize wn.alloc (.cells #[.slice (some ⟨g0, 0, none⟩) 9 c0, .slice (some ⟨g1, 0, none⟩) 1 c1, .slice (some ⟨g2, 0, none⟩) 1 c2, .int .i64 0, .int .i64 0] 29) = wm at *
  generalize wn.heap.size = BW at *
  have kc := kW.cell
  have kz := kW.frozen
  have s2 : wm.cell? ⟨g0, 2, none⟩ = some (.int .i64 0) := q0.cell (i := 2) (by decide)
  have sz : wm.frozen? ⟨g0, 2, none⟩ = false := q0.frozen 2
  have ng : ¬ BW = g0 := by have := hlt.out; omega
  have ng' : ¬ g0 = BW := by have := hlt.out; omega
  go_wp2_with fail
  have KF := hide (blk_put (Blk.far kW (p := ⟨g0, 2, none⟩) ng (.int .i64 1)) (i := 3) (u := .int .i64 1) (cs' := #[.slice (some ⟨g0, 0, none⟩) 9 c0, .slice (some ⟨g1, 0, none⟩) 1 c1, .slice (some ⟨g2, 0, none⟩) 1 c2, .int .i64 1, .int .i64 0]) rfl)
  have PF : Hid (PosAt ((wm.setCell ⟨g0, 2, none⟩ (.int .i64 1)).setCell ⟨BW, 3, none⟩ (.int .i64 1)) (.agg #[.slice (some ⟨g0, 0, none⟩) 9 c0, .slice (some ⟨g1, 0, none⟩) 1 c1, .slice (some ⟨g2, 0, none⟩) 1 c2, .int .i64 1, .int .i64 0]) wonP) := hide ⟨_, c0, _, c1, _, c2, rfl, (IRow.far (q0.set_ 2 1) (p := ⟨BW, 3, none⟩) ng' _).ints, (IRow.far (IRow.far q1 (p := ⟨g0, 2, none⟩) (by have := hlt.out; show g1 ≠ g0; omega) _) (p := ⟨BW, 3, none⟩) (by have := hlt.out; show g1 ≠ BW; omega) _).ints, (IRow.far (IRow.far q2 (p := ⟨g0, 2, none⟩) (by have := hlt.out; show g2 ≠ g0; omega) _) (p := ⟨BW, 3, none⟩) (by have := hlt.out; show g2 ≠ BW; omega) _).ints, m0, m1, m2⟩
  have XF := hide (ext_set (ext_set HXN.out (p := ⟨g0, 2, none⟩) (by have := hlt.out; show w2.heap.size ≤ g0; omega) (.int .i64 1)) (p := ⟨BW, 3, none⟩) (by have := hlt.out; show w2.heap.size ≤ BW; omega) (.int .i64 1))
  clear kc kz s2 sz kW q0 q1 q2 ng ng' m0 m1 m2 HXN hlt
  generalize (wm.setCell ⟨g0, 2, none⟩ (.int .i64 1)).setCell ⟨BW, 3, none⟩ (.int .i64 1) = wf at *
  have keepK := hide (fun W (h : Ext wf W) => (show (fun W => W.cell? ⟨BW, 0, none⟩ = some (.slice (some ⟨g0, 0, none⟩) 9 c0) ∧ W.cell? ⟨BW, 1, none⟩ = some (.slice (some ⟨g1, 0, none⟩) 1 c1) ∧ W.cell? ⟨BW, 2, none⟩ = some (.slice (some ⟨g2, 0, none⟩) 1 c2) ∧ W.cell? ⟨BW, 3, none⟩ = some (.int .i64 1) ∧ W.cell? ⟨BW, 4, none⟩ = some (.int .i64 0) ∧ Ext wf W) W from ⟨(KF.out.ext h).cell 0, (KF.out.ext h).cell 1, (KF.out.ext h).cell 2, (KF.out.ext h).cell 3, (KF.out.ext h).cell 4, h⟩))
  have yy : Ext wf wf.drew := Below.drew (Below.refl _ _)
  refine region_K (fun W => W.cell? ⟨BW, 0, none⟩ = some (.slice (some ⟨g0, 0, none⟩) 9 c0) ∧ W.cell? ⟨BW, 1, none⟩ = some (.slice (some ⟨g1, 0, none⟩) 1 c1) ∧ W.cell? ⟨BW, 2, none⟩ = some (.slice (some ⟨g2, 0, none⟩) 1 c2) ∧ W.cell? ⟨BW, 3, none⟩ = some (.int .i64 1) ∧ W.cell? ⟨BW, 4, none⟩ = some (.int .i64 0) ∧ Ext wf W) (fun _ => True) [] (by kernel_rfl) ?_
  have hT0 := keepK.out _ yy
  refine anyK_take 1 (oi := ?oo9) ?ho9 (by kernel_rfl) (by kernel_rfl) (by kernel_rfl) (by kernel_rfl) ?hq9 ?hw9 hT0 (fun _ => trivial) (v := ?vv9) ?hy9 ?hk9
  case ho9 => (simp only [List.getElem?_toArray, List.getElem?_cons_succ, List.getElem?_cons_zero]; rfl)
  case hq9 => exact fun _ _ _ h => h
  case hw9 => rfl
  case hy9 =>
    intro W hW
    obtain ⟨z0, z1, z2, z3, z4, z5⟩ := hW
    go_simp
    first | done | with_reducible rfl
  case hk9 =>
  try simp only [Act.put, List.setIfInBounds_toArray, List.set_cons_zero, List.set_cons_succ]
  refine anyK_on1 0 (by kernel_rfl) ?_
  refine anyK_one 0 (o := ?oo10) ?ho10 ?hk10
  case ho10 => (simp only [List.getElem?_toArray, List.getElem?_cons_succ, List.getElem?_cons_zero]; rfl)
  case hk10 =>
  intro K hK
  go_simp
  refine (three_any _).mono ?_
  rintro e wt ⟨vt, rfl, ht, xx⟩
  try go_wp2_with fail
  replace yy := ext_trans yy xx
  have hT1 := keepK.out _ yy
  refine hK.out _ _ hT1 (fun _ => trivial) ?_
  clear hK K
  try simp only [Act.put, List.setIfInBounds_toArray, List.set_cons_zero, List.set_cons_succ]
  refine anyK_on1 2 (by kernel_rfl) ?_
  refine anyK_one 2 (o := ?oo11) ?ho11 ?hk11
  case ho11 => (simp only [List.getElem?_toArray, List.getElem?_cons_succ, List.getElem?_cons_zero]; rfl)
  case hk11 =>
  intro K hK
  go_simp
  refine (HWO.out _ _ _ ht (PF.out.ext yy)).mono ?_
  rintro e wo ⟨rfl, xx⟩
  try go_wp2_with fail
  replace yy := ext_trans yy xx
  have hT2 := keepK.out _ yy
  refine hK.out _ _ hT2 (fun _ => trivial) ?_
  clear hK K
  try simp only [Act.put, List.setIfInBounds_toArray, List.set_cons_zero, List.set_cons_succ]
  refine anyK_take 3 (oi := ?oo12) ?ho12 (by kernel_rfl) (by kernel_rfl) (by kernel_rfl) (by kernel_rfl) ?hq12 ?hw12 hT2 (fun _ => trivial) (v := ?vv12) ?hy12 ?hk12
  case ho12 => (simp only [List.getElem?_toArray, List.getElem?_cons_succ, List.getElem?_cons_zero]; rfl)
  case hq12 => exact fun _ _ _ h => h
  case hw12 => rfl
  case hy12 =>
    intro W hW
    go_simp
    first | done | with_reducible rfl
  case hk12 =>
  try simp only [Act.put, List.setIfInBounds_toArray, List.set_cons_zero, List.set_cons_succ]
  refine anyK_take 4 (oi := ?oo13) ?ho13 (by kernel_rfl) (by kernel_rfl) (by kernel_rfl) (by kernel_rfl) ?hq13 ?hw13 hT2 (fun _ => trivial) (v := ?vv13) ?hy13 ?hk13
  case ho13 => (simp only [List.getElem?_toArray, List.getElem?_cons_succ, List.getElem?_cons_zero]; rfl)
  case hq13 => exact fun _ _ _ h => h
  case hw13 => rfl
  case hy13 =>
    intro W hW
    go_simp
    first | done | with_reducible rfl
  case hk13 =>
  try simp only [Act.put, List.setIfInBounds_toArray, List.set_cons_zero, List.set_cons_succ]
  refine anyK_take 5 (oi := ?oo14) ?ho14 (by kernel_rfl) (by kernel_rfl) (by kernel_rfl) (by kernel_rfl) ?hq14 ?hw14 hT2 (fun _ => trivial) (v := ?vv14) ?hy14 ?hk14
  case ho14 => (simp only [List.getElem?_toArray, List.getElem?_cons_succ, List.getElem?_cons_zero]; rfl)
  case hq14 => exact fun _ _ _ h => h
  case hw14 => rfl
  case hy14 =>
    intro W hW
    go_simp
    first | done | with_reducible rfl
  case hk14 =>
  try simp only [Act.put, List.setIfInBounds_toArray, List.set_cons_zero, List.set_cons_succ]
  refine anyK_take 6 (oi := ?oo15) ?ho15 (by kernel_rfl) (by kernel_rfl) (by kernel_rfl) (by kernel_rfl) ?hq15 ?hw15 hT2 (fun _ => trivial) (v := ?vv15) ?hy15 ?hk15
  case ho15 => (simp only [List.getElem?_toArray, List.getElem?_cons_succ, List.getElem?_cons_zero]; rfl)
  case hq15 => exact fun _ _ _ h => h
  case hw15 => rfl
  case hy15 =>
    intro W hW
    go_simp
    first | done | with_reducible rfl
  case hk15 =>
  try simp only [Act.put, List.setIfInBounds_toArray, List.set_cons_zero, List.set_cons_succ]
  refine anyK_take 7 (oi := ?oo16) ?ho16 (by kernel_rfl) (by kernel_rfl) (by kernel_rfl) (by kernel_rfl) ?hq16 ?hw16 hT2 (fun _ => trivial) (v := ?vv16) ?hy16 ?hk16
  case ho16 => (simp only [List.getElem?_toArray, List.getElem?_cons_succ, List.getElem?_cons_zero]; rfl)
  case hq16 => exact fun _ _ _ h => h
  case hw16 => rfl
  case hy16 =>
    intro W hW
    go_simp
    first | done | with_reducible rfl
  case hk16 =>
  try simp only [Act.put, List.setIfInBounds_toArray, List.set_cons_zero, List.set_cons_succ]
  refine anyK_done (by kernel_rfl) ?_ _
  clear keepK hT0 hT1 hT2
  obtain ⟨hR, kR, X⟩ := HS0.out _ (ext_trans XF.out yy)
  clear HS0 XF KF PF HWO ht xx yy
  go_wp2_with fail
  refine (played_any _).mono ?_
  rintro e w23 ⟨rfl, x⟩
  replace hR := hR.ext x
  replace kR := kR.ext x
  replace X := ext_trans X x
  clear x
  go_wp2_with fail
  refine (plays_any _).mono ?_
  rintro e w24 ⟨rfl, x⟩
  replace hR := hR.ext x
  replace kR := kR.ext x
  replace X := ext_trans X x
  clear x
  have fR := kR.cell
  go_wp2_with fail
  have HR := hide hR
  have KR := hide kR
  have XB := hide X
  refine (HNW.out _ _ hR).mono ?_
  rintro e wn ⟨BG, rfl, hG⟩
  have HG := hide hG
  clear hG fR hR kR X HNW
  go_wp2
  go_loopw [61] (fun i wr => i = .int .i64 0 ∧ Ext wn wr) (fun _ _ => 0)
  case atStart => exact ⟨rfl, Below.refl _ _⟩
  case round =>
    obtain ⟨rfl, xr⟩ := hrel
    have XR := hide xr
    clear xr
    go_wp2
    go_ret
    exact ⟨rfl, ext_trans XB.out (ext_trans HG.out.old XR.out)⟩
set_option maxHeartbeats 8000000 in
set_option maxRecDepth 100000 in
theorem plainRepeats_zero (v : Value) (R : RulesM) (A : Option Addr) (n c : Nat) (z : List Int) (w : World) (hR : RulesAt w v R) (hV : Valid R) (x : Addr) (hA : A = some x) (hn : n = 0) (hc : c = 0) :
    Calls Try.prog 13 #[v, .slice A n c] w fun e w' => e = .returned (.bool true) ∧ Ext w w' := by
  have HWO := hide (fun W (v1 v2 : Value) (h1 : RulesAt W v1 threeR) (h2 : PosAt W v2 wonP) => won_any v1 v2 W h1 h2)
  have HNW := hide (fun W (v1 : Value) (h1 : RulesAt W v1 R) => New_yes R v1 W h1 hV)
  have HV := hide hV
  clear hV
  obtain ⟨q, hq⟩ : ∃ q : Int, min (n : Int) 30 = q := ⟨_, rfl⟩
  have hmin : ∀ W ats ty, (Builtin.min_ ats ty #[.int .i64 (n : Int), .int .i64 30]).run Try.prog W = .ok (.int .i64 q) W := fun W ats ty => by rw [← hq]; exact run_min3 W ats ty n 30
  subst hA hn hc
  obtain rfl : q = 0 := by omega
  clear hq
  have hR0 := hR
  obtain ⟨pA, pc, sA, sc, eA, ec, rfl, -⟩ := hR0
  go_enter Try.func13, Try.ntmps13
  go_wp2_with fail
  obtain ⟨xa, kR⟩ := blks1 w #[.string R.name, .int .i64 R.width, .int .i64 R.height, .slice pA R.pieces.length pc, .slice sA R.start.length sc, .bool R.falls, .bool R.keeps, .slice eA R.ends.length ec, .int .i64 R.blocked, .int .i64 R.quiet, .int .i64 R.rept] 26
  replace hR := hR.ext xa
  have X := xa
  clear xa
  generalize (w.alloc (.cells #[.string R.name, .int .i64 R.width, .int .i64 R.height, .slice pA R.pieces.length pc, .slice sA R.start.length sc, .bool R.falls, .bool R.keeps, .slice eA R.ends.length ec, .int .i64 R.blocked, .int .i64 R.quiet, .int .i64 R.rept] 26)) = w2 at *
  generalize w.heap.size = BR at *
  have HS0 := hide (fun W (h : Ext w2 W) => And.intro (hR.ext h) (And.intro (kR.ext h) (ext_trans X h)))
  clear hR kR X
  refine (near_any _).mono ?_
  rintro e wn ⟨vn, rfl, hn, xn⟩
  obtain ⟨g0, c0, g1, c1, g2, c2, en, b0, b1, b2, r0, r1, r2, m0, m1, m2⟩ := hn
  have en' : vn = .agg #[.slice (some ⟨g0, 0, none⟩) 9 c0, .slice (some ⟨g1, 0, none⟩) 1 c1, .slice (some ⟨g2, 0, none⟩) 1 c2, .int .i64 0, .int .i64 0] := en
  subst en'
  clear en
  obtain ⟨xa, kW⟩ := blks1 wn #[.slice (some ⟨g0, 0, none⟩) 9 c0, .slice (some ⟨g1, 0, none⟩) 1 c1, .slice (some ⟨g2, 0, none⟩) 1 c2, .int .i64 0, .int .i64 0] 29
  have q0 := r0.alloc (.cells #[.slice (some ⟨g0, 0, none⟩) 9 c0, .slice (some ⟨g1, 0, none⟩) 1 c1, .slice (some ⟨g2, 0, none⟩) 1 c2, .int .i64 0, .int .i64 0] 29)
  have q1 := r1.alloc (.cells #[.slice (some ⟨g0, 0, none⟩) 9 c0, .slice (some ⟨g1, 0, none⟩) 1 c1, .slice (some ⟨g2, 0, none⟩) 1 c2, .int .i64 0, .int .i64 0] 29)
  have q2 := r2.alloc (.cells #[.slice (some ⟨g0, 0, none⟩) 9 c0, .slice (some ⟨g1, 0, none⟩) 1 c1, .slice (some ⟨g2, 0, none⟩) 1 c2, .int .i64 0, .int .i64 0] 29)
  have hlt : Hid (w2.heap.size ≤ g0 ∧ g0 < g1 ∧ g1 < g2 ∧ g2 < wn.heap.size) := hide ⟨b0, b1, b2, r2.lt⟩
  have HXN := hide (ext_trans xn xa)
  clear r0 r1 r2 b0 b1 b2 xn xa
  go_upto_region 2 with fail
  generalize wn.alloc (.cells #[.slice (some ⟨g0, 0, none⟩) 9 c0, .slice (some ⟨g1, 0, none⟩) 1 c1, .slice (some ⟨g2, 0, none⟩) 1 c2, .int .i64 0, .int .i64 0] 29) = wm at *
  generalize wn.heap.size = BW at *
  have kc := kW.cell
  have kz := kW.frozen
  have s2 : wm.cell? ⟨g0, 2, none⟩ = some (.int .i64 0) := q0.cell (i := 2) (by decide)
  have sz : wm.frozen? ⟨g0, 2, none⟩ = false := q0.frozen 2
  have ng : ¬ BW = g0 := by have := hlt.out; omega
  have ng' : ¬ g0 = BW := by have := hlt.out; omega
  go_wp2_with fail
  have KF := hide (blk_put (Blk.far kW (p := ⟨g0, 2, none⟩) ng (.int .i64 1)) (i := 3) (u := .int .i64 1) (cs' := #[.slice (some ⟨g0, 0, none⟩) 9 c0, .slice (some ⟨g1, 0, none⟩) 1 c1, .slice (some ⟨g2, 0, none⟩) 1 c2, .int .i64 1, .int .i64 0]) rfl)
  have PF : Hid (PosAt ((wm.setCell ⟨g0, 2, none⟩ (.int .i64 1)).setCell ⟨BW, 3, none⟩ (.int .i64 1)) (.agg #[.slice (some ⟨g0, 0, none⟩) 9 c0, .slice (some ⟨g1, 0, none⟩) 1 c1, .slice (some ⟨g2, 0, none⟩) 1 c2, .int .i64 1, .int .i64 0]) wonP) := hide ⟨_, c0, _, c1, _, c2, rfl, (IRow.far (q0.set_ 2 1) (p := ⟨BW, 3, none⟩) ng' _).ints, (IRow.far (IRow.far q1 (p := ⟨g0, 2, none⟩) (by have := hlt.out; show g1 ≠ g0; omega) _) (p := ⟨BW, 3, none⟩) (by have := hlt.out; show g1 ≠ BW; omega) _).ints, (IRow.far (IRow.far q2 (p := ⟨g0, 2, none⟩) (by have := hlt.out; show g2 ≠ g0; omega) _) (p := ⟨BW, 3, none⟩) (by have := hlt.out; show g2 ≠ BW; omega) _).ints, m0, m1, m2⟩
  have XF := hide (ext_set (ext_set HXN.out (p := ⟨g0, 2, none⟩) (by have := hlt.out; show w2.heap.size ≤ g0; omega) (.int .i64 1)) (p := ⟨BW, 3, none⟩) (by have := hlt.out; show w2.heap.size ≤ BW; omega) (.int .i64 1))
  clear kc kz s2 sz kW q0 q1 q2 ng ng' m0 m1 m2 HXN hlt
  generalize (wm.setCell ⟨g0, 2, none⟩ (.int .i64 1)).setCell ⟨BW, 3, none⟩ (.int .i64 1) = wf at *
  have keepK := hide (fun W (h : Ext wf W) => (show (fun W => W.cell? ⟨BW, 0, none⟩ = some (.slice (some ⟨g0, 0, none⟩) 9 c0) ∧ W.cell? ⟨BW, 1, none⟩ = some (.slice (some ⟨g1, 0, none⟩) 1 c1) ∧ W.cell? ⟨BW, 2, none⟩ = some (.slice (some ⟨g2, 0, none⟩) 1 c2) ∧ W.cell? ⟨BW, 3, none⟩ = some (.int .i64 1) ∧ W.cell? ⟨BW, 4, none⟩ = some (.int .i64 0) ∧ Ext wf W) W from ⟨(KF.out.ext h).cell 0, (KF.out.ext h).cell 1, (KF.out.ext h).cell 2, (KF.out.ext h).cell 3, (KF.out.ext h).cell 4, h⟩))
  have yy : Ext wf wf.drew := Below.drew (Below.refl _ _)
  refine region_K (fun W => W.cell? ⟨BW, 0, none⟩ = some (.slice (some ⟨g0, 0, none⟩) 9 c0) ∧ W.cell? ⟨BW, 1, none⟩ = some (.slice (some ⟨g1, 0, none⟩) 1 c1) ∧ W.cell? ⟨BW, 2, none⟩ = some (.slice (some ⟨g2, 0, none⟩) 1 c2) ∧ W.cell? ⟨BW, 3, none⟩ = some (.int .i64 1) ∧ W.cell? ⟨BW, 4, none⟩ = some (.int .i64 0) ∧ Ext wf W) (fun _ => True) [] (by kernel_rfl) ?_
  have hT0 := keepK.out _ yy
  refine anyK_take 1 (oi := ?oo17) ?ho17 (by kernel_rfl) (by kernel_rfl) (by kernel_rfl) (by kernel_rfl) ?hq17 ?hw17 hT0 (fun _ => trivial) (v := ?vv17) ?hy17 ?hk17
  case ho17 => (simp only [List.getElem?_toArray, List.getElem?_cons_succ, List.getElem?_cons_zero]; rfl)
  case hq17 => exact fun _ _ _ h => h
  case hw17 => rfl
  case hy17 =>
    intro W hW
    obtain ⟨z0, z1, z2, z3, z4, z5⟩ := hW
    go_simp
    first | done | with_reducible rfl
  case hk17 =>
  try simp only [Act.put, List.setIfInBounds_toArray, List.set_cons_zero, List.set_cons_succ]
  refine anyK_on1 0 (by kernel_rfl) ?_
  refine anyK_one 0 (o := ?oo18) ?ho18 ?hk18
  case ho18 => (simp only [List.getElem?_toArray, List.getElem?_cons_succ, List.getElem?_cons_zero]; rfl)
  case hk18 =>
  intro K hK
  go_simp
  refine (three_any _).mono ?_
  rintro e wt ⟨vt, rfl, ht, xx⟩
  try go_wp2_with fail
  replace yy := ext_trans yy xx
  have hT1 := keepK.out _ yy
  refine hK.out _ _ hT1 (fun _ => trivial) ?_
  clear hK K
  try simp only [Act.put, List.setIfInBounds_toArray, List.set_cons_zero, List.set_cons_succ]
  refine anyK_on1 2 (by kernel_rfl) ?_
  refine anyK_one 2 (o := ?oo19) ?ho19 ?hk19
  case ho19 => (simp only [List.getElem?_toArray, List.getElem?_cons_succ, List.getElem?_cons_zero]; rfl)
  case hk19 =>
  intro K hK
  go_simp
  refine (HWO.out _ _ _ ht (PF.out.ext yy)).mono ?_
  rintro e wo ⟨rfl, xx⟩
  try go_wp2_with fail
  replace yy := ext_trans yy xx
  have hT2 := keepK.out _ yy
  refine hK.out _ _ hT2 (fun _ => trivial) ?_
  clear hK K
  try simp only [Act.put, List.setIfInBounds_toArray, List.set_cons_zero, List.set_cons_succ]
  refine anyK_take 3 (oi := ?oo20) ?ho20 (by kernel_rfl) (by kernel_rfl) (by kernel_rfl) (by kernel_rfl) ?hq20 ?hw20 hT2 (fun _ => trivial) (v := ?vv20) ?hy20 ?hk20
  case ho20 => (simp only [List.getElem?_toArray, List.getElem?_cons_succ, List.getElem?_cons_zero]; rfl)
  case hq20 => exact fun _ _ _ h => h
  case hw20 => rfl
  case hy20 =>
    intro W hW
    go_simp
    first | done | with_reducible rfl
  case hk20 =>
  try simp only [Act.put, List.setIfInBounds_toArray, List.set_cons_zero, List.set_cons_succ]
  refine anyK_take 4 (oi := ?oo21) ?ho21 (by kernel_rfl) (by kernel_rfl) (by kernel_rfl) (by kernel_rfl) ?hq21 ?hw21 hT2 (fun _ => trivial) (v := ?vv21) ?hy21 ?hk21
  case ho21 => (simp only [List.getElem?_toArray, List.getElem?_cons_succ, List.getElem?_cons_zero]; rfl)
  case hq21 => exact fun _ _ _ h => h
  case hw21 => rfl
  case hy21 =>
    intro W hW
    go_simp
    first | done | with_reducible rfl
  case hk21 =>
  try simp only [Act.put, List.setIfInBounds_toArray, List.set_cons_zero, List.set_cons_succ]
  refine anyK_take 5 (oi := ?oo22) ?ho22 (by kernel_rfl) (by kernel_rfl) (by kernel_rfl) (by kernel_rfl) ?hq22 ?hw22 hT2 (fun _ => trivial) (v := ?vv22) ?hy22 ?hk22
  case ho22 => (simp only [List.getElem?_toArray, List.getElem?_cons_succ, List.getElem?_cons_zero]; rfl)
  case hq22 => exact fun _ _ _ h => h
  case hw22 => rfl
  case hy22 =>
    intro W hW
    go_simp
    first | done | with_reducible rfl
  case hk22 =>
  try simp only [Act.put, List.setIfInBounds_toArray, List.set_cons_zero, List.set_cons_succ]
  refine anyK_take 6 (oi := ?oo23) ?ho23 (by kernel_rfl) (by kernel_rfl) (by kernel_rfl) (by kernel_rfl) ?hq23 ?hw23 hT2 (fun _ => trivial) (v := ?vv23) ?hy23 ?hk23
  case ho23 => (simp only [List.getElem?_toArray, List.getElem?_cons_succ, List.getElem?_cons_zero]; rfl)
  case hq23 => exact fun _ _ _ h => h
  case hw23 => rfl
  case hy23 =>
    intro W hW
    go_simp
    first | done | with_reducible rfl
  case hk23 =>
  try simp only [Act.put, List.setIfInBounds_toArray, List.set_cons_zero, List.set_cons_succ]
  refine anyK_take 7 (oi := ?oo24) ?ho24 (by kernel_rfl) (by kernel_rfl) (by kernel_rfl) (by kernel_rfl) ?hq24 ?hw24 hT2 (fun _ => trivial) (v := ?vv24) ?hy24 ?hk24
  case ho24 => (simp only [List.getElem?_toArray, List.getElem?_cons_succ, List.getElem?_cons_zero]; rfl)
  case hq24 => exact fun _ _ _ h => h
  case hw24 => rfl
  case hy24 =>
    intro W hW
    go_simp
    first | done | with_reducible rfl
  case hk24 =>
  try simp only [Act.put, List.setIfInBounds_toArray, List.set_cons_zero, List.set_cons_succ]
  refine anyK_done (by kernel_rfl) ?_ _
  clear keepK hT0 hT1 hT2
  obtain ⟨hR, kR, X⟩ := HS0.out _ (ext_trans XF.out yy)
  clear HS0 XF KF PF HWO ht xx yy
  go_wp2_with fail
  refine (played_any _).mono ?_
  rintro e w23 ⟨rfl, x⟩
  replace hR := hR.ext x
  replace kR := kR.ext x
  replace X := ext_trans X x
  clear x
  go_wp2_with fail
  refine (plays_any _).mono ?_
  rintro e w24 ⟨rfl, x⟩
  replace hR := hR.ext x
  replace kR := kR.ext x
  replace X := ext_trans X x
  clear x
  have fR := kR.cell
  go_wp2_with fail
  have HR := hide hR
  have KR := hide kR
  have XB := hide X
  refine (HNW.out _ _ hR).mono ?_
  rintro e wn ⟨BG, rfl, hG⟩
  have HG := hide hG
  clear hG fR hR kR X HNW
  go_wp2
  go_loopw [61] (fun i wr => i = .int .i64 0 ∧ Ext wn wr) (fun _ _ => 0)
  case atStart => exact ⟨rfl, Below.refl _ _⟩
  case round =>
    obtain ⟨rfl, xr⟩ := hrel
    have XR := hide xr
    clear xr
    go_wp2
    go_ret
    exact ⟨rfl, ext_trans XB.out (ext_trans HG.out.old XR.out)⟩
set_option maxHeartbeats 8000000 in
set_option maxRecDepth 100000 in
theorem plainRepeats_go (v : Value) (R : RulesM) (A : Option Addr) (n c : Nat) (z : List Int) (w : World) (hR : RulesAt w v R) (hV : Valid R) (b : Nat) (o : Nat) (hA : A = some ⟨b, o, none⟩) (hn : n ≤ c) (hz : IntsAt w A (z.take n)) (hzl : (z.take n).length = n) (hcm : c ≤ maxLen) :
    Calls Try.prog 13 #[v, .slice A n c] w fun e w' => e = .returned (.bool true) ∧ Ext w w' := by
  have HWO := hide (fun W (v1 v2 : Value) (h1 : RulesAt W v1 threeR) (h2 : PosAt W v2 wonP) => won_any v1 v2 W h1 h2)
  have HNW := hide (fun W (v1 : Value) (h1 : RulesAt W v1 R) => New_yes R v1 W h1 hV)
  have HV := hide hV
  clear hV
  obtain ⟨q, hq⟩ : ∃ q : Int, min (n : Int) 30 = q := ⟨_, rfl⟩
  have hmin : ∀ W ats ty, (Builtin.min_ ats ty #[.int .i64 (n : Int), .int .i64 30]).run Try.prog W = .ok (.int .i64 q) W := fun W ats ty => by rw [← hq]; exact run_min3 W ats ty n 30
  subst hA
  have HZ := hide hz
  have HZL := hide hzl
  have q0 : 0 ≤ q := by omega
  have qc : q ≤ (c : Int) := by omega
  have q30 : q ≤ 30 := by omega
  obtain ⟨qn, hqn⟩ := Int.eq_ofNat_of_zero_le q0
  have hqn' : q = (qn : Int) := hqn
  subst hqn'
  have hq1 : qn ≤ n := by omega
  have hq2 : qn ≤ 30 := by omega
  have hq3 : qn ≤ c := by omega
  have hqw : IntKind.i64.wrap (qn : Int) = (qn : Int) := by rw [IntKind.wrap_i64]; omega
  have HQ := hide (And.intro hq1 (And.intro hq2 hq3))
  clear hq hqn hz hzl hn hcm
  have hR0 := hR
  obtain ⟨pA, pc, sA, sc, eA, ec, rfl, -⟩ := hR0
  go_enter Try.func13, Try.ntmps13
  go_wp2_with fail
  obtain ⟨xa, kR⟩ := blks1 w #[.string R.name, .int .i64 R.width, .int .i64 R.height, .slice pA R.pieces.length pc, .slice sA R.start.length sc, .bool R.falls, .bool R.keeps, .slice eA R.ends.length ec, .int .i64 R.blocked, .int .i64 R.quiet, .int .i64 R.rept] 26
  replace hR := hR.ext xa
  have X := xa
  clear xa
  generalize (w.alloc (.cells #[.string R.name, .int .i64 R.width, .int .i64 R.height, .slice pA R.pieces.length pc, .slice sA R.start.length sc, .bool R.falls, .bool R.keeps, .slice eA R.ends.length ec, .int .i64 R.blocked, .int .i64 R.quiet, .int .i64 R.rept] 26)) = w2 at *
  generalize w.heap.size = BR at *
  have HS0 := hide (fun W (h : Ext w2 W) => And.intro (hR.ext h) (And.intro (kR.ext h) (ext_trans X h)))
  clear hR kR X
  refine (near_any _).mono ?_
  rintro e wn ⟨vn, rfl, hn, xn⟩
  obtain ⟨g0, c0, g1, c1, g2, c2, en, b0, b1, b2, r0, r1, r2, m0, m1, m2⟩ := hn
  have en' : vn = .agg #[.slice (some ⟨g0, 0, none⟩) 9 c0, .slice (some ⟨g1, 0, none⟩) 1 c1, .slice (some ⟨g2, 0, none⟩) 1 c2, .int .i64 0, .int .i64 0] := en
  subst en'
  clear en
  obtain ⟨xa, kW⟩ := blks1 wn #[.slice (some ⟨g0, 0, none⟩) 9 c0, .slice (some ⟨g1, 0, none⟩) 1 c1, .slice (some ⟨g2, 0, none⟩) 1 c2, .int .i64 0, .int .i64 0] 29
  have q0 := r0.alloc (.cells #[.slice (some ⟨g0, 0, none⟩) 9 c0, .slice (some ⟨g1, 0, none⟩) 1 c1, .slice (some ⟨g2, 0, none⟩) 1 c2, .int .i64 0, .int .i64 0] 29)
  have q1 := r1.alloc (.cells #[.slice (some ⟨g0, 0, none⟩) 9 c0, .slice (some ⟨g1, 0, none⟩) 1 c1, .slice (some ⟨g2, 0, none⟩) 1 c2, .int .i64 0, .int .i64 0] 29)
  have q2 := r2.alloc (.cells #[.slice (some ⟨g0, 0, none⟩) 9 c0, .slice (some ⟨g1, 0, none⟩) 1 c1, .slice (some ⟨g2, 0, none⟩) 1 c2, .int .i64 0, .int .i64 0] 29)
  have hlt : Hid (w2.heap.size ≤ g0 ∧ g0 < g1 ∧ g1 < g2 ∧ g2 < wn.heap.size) := hide ⟨b0, b1, b2, r2.lt⟩
  have HXN := hide (ext_trans xn xa)
  clear r0 r1 r2 b0 b1 b2 xn xa
  go_upto_region 2 with fail
  generalize wn.alloc (.cells #[.slice (some ⟨g0, 0, none⟩) 9 c0, .slice (some ⟨g1, 0, none⟩) 1 c1, .slice (some ⟨g2, 0, none⟩) 1 c2, .int .i64 0, .int .i64 0] 29) = wm at *
  generalize wn.heap.size = BW at *
  have kc := kW.cell
  have kz := kW.frozen
  have s2 : wm.cell? ⟨g0, 2, none⟩ = some (.int .i64 0) := q0.cell (i := 2) (by decide)
  have sz : wm.frozen? ⟨g0, 2, none⟩ = false := q0.frozen 2
  have ng : ¬ BW = g0 := by have := hlt.out; omega
  have ng' : ¬ g0 = BW := by have := hlt.out; omega
  go_wp2_with fail
  have KF := hide (blk_put (Blk.far kW (p := ⟨g0, 2, none⟩) ng (.int .i64 1)) (i := 3) (u := .int .i64 1) (cs' := #[.slice (some ⟨g0, 0, none⟩) 9 c0, .slice (some ⟨g1, 0, none⟩) 1 c1, .slice (some ⟨g2, 0, none⟩) 1 c2, .int .i64 1, .int .i64 0]) rfl)
  have PF : Hid (PosAt ((wm.setCell ⟨g0, 2, none⟩ (.int .i64 1)).setCell ⟨BW, 3, none⟩ (.int .i64 1)) (.agg #[.slice (some ⟨g0, 0, none⟩) 9 c0, .slice (some ⟨g1, 0, none⟩) 1 c1, .slice (some ⟨g2, 0, none⟩) 1 c2, .int .i64 1, .int .i64 0]) wonP) := hide ⟨_, c0, _, c1, _, c2, rfl, (IRow.far (q0.set_ 2 1) (p := ⟨BW, 3, none⟩) ng' _).ints, (IRow.far (IRow.far q1 (p := ⟨g0, 2, none⟩) (by have := hlt.out; show g1 ≠ g0; omega) _) (p := ⟨BW, 3, none⟩) (by have := hlt.out; show g1 ≠ BW; omega) _).ints, (IRow.far (IRow.far q2 (p := ⟨g0, 2, none⟩) (by have := hlt.out; show g2 ≠ g0; omega) _) (p := ⟨BW, 3, none⟩) (by have := hlt.out; show g2 ≠ BW; omega) _).ints, m0, m1, m2⟩
  have XF := hide (ext_set (ext_set HXN.out (p := ⟨g0, 2, none⟩) (by have := hlt.out; show w2.heap.size ≤ g0; omega) (.int .i64 1)) (p := ⟨BW, 3, none⟩) (by have := hlt.out; show w2.heap.size ≤ BW; omega) (.int .i64 1))
  clear kc kz s2 sz kW q0 q1 q2 ng ng' m0 m1 m2 HXN hlt
  generalize (wm.setCell ⟨g0, 2, none⟩ (.int .i64 1)).setCell ⟨BW, 3, none⟩ (.int .i64 1) = wf at *
  have keepK := hide (fun W (h : Ext wf W) => (show (fun W => W.cell? ⟨BW, 0, none⟩ = some (.slice (some ⟨g0, 0, none⟩) 9 c0) ∧ W.cell? ⟨BW, 1, none⟩ = some (.slice (some ⟨g1, 0, none⟩) 1 c1) ∧ W.cell? ⟨BW, 2, none⟩ = some (.slice (some ⟨g2, 0, none⟩) 1 c2) ∧ W.cell? ⟨BW, 3, none⟩ = some (.int .i64 1) ∧ W.cell? ⟨BW, 4, none⟩ = some (.int .i64 0) ∧ Ext wf W) W from ⟨(KF.out.ext h).cell 0, (KF.out.ext h).cell 1, (KF.out.ext h).cell 2, (KF.out.ext h).cell 3, (KF.out.ext h).cell 4, h⟩))
  have yy : Ext wf wf.drew := Below.drew (Below.refl _ _)
  refine region_K (fun W => W.cell? ⟨BW, 0, none⟩ = some (.slice (some ⟨g0, 0, none⟩) 9 c0) ∧ W.cell? ⟨BW, 1, none⟩ = some (.slice (some ⟨g1, 0, none⟩) 1 c1) ∧ W.cell? ⟨BW, 2, none⟩ = some (.slice (some ⟨g2, 0, none⟩) 1 c2) ∧ W.cell? ⟨BW, 3, none⟩ = some (.int .i64 1) ∧ W.cell? ⟨BW, 4, none⟩ = some (.int .i64 0) ∧ Ext wf W) (fun _ => True) [] (by kernel_rfl) ?_
  have hT0 := keepK.out _ yy
  refine anyK_take 1 (oi := ?oo25) ?ho25 (by kernel_rfl) (by kernel_rfl) (by kernel_rfl) (by kernel_rfl) ?hq25 ?hw25 hT0 (fun _ => trivial) (v := ?vv25) ?hy25 ?hk25
  case ho25 => (simp only [List.getElem?_toArray, List.getElem?_cons_succ, List.getElem?_cons_zero]; rfl)
  case hq25 => exact fun _ _ _ h => h
  case hw25 => rfl
  case hy25 =>
    intro W hW
    obtain ⟨z0, z1, z2, z3, z4, z5⟩ := hW
    go_simp
    first | done | with_reducible rfl
  case hk25 =>
  try simp only [Act.put, List.setIfInBounds_toArray, List.set_cons_zero, List.set_cons_succ]
  refine anyK_on1 0 (by kernel_rfl) ?_
  refine anyK_one 0 (o := ?oo26) ?ho26 ?hk26
  case ho26 => (simp only [List.getElem?_toArray, List.getElem?_cons_succ, List.getElem?_cons_zero]; rfl)
  case hk26 =>
  intro K hK
  go_simp
  refine (three_any _).mono ?_
  rintro e wt ⟨vt, rfl, ht, xx⟩
  try go_wp2_with fail
  replace yy := ext_trans yy xx
  have hT1 := keepK.out _ yy
  refine hK.out _ _ hT1 (fun _ => trivial) ?_
  clear hK K
  try simp only [Act.put, List.setIfInBounds_toArray, List.set_cons_zero, List.set_cons_succ]
  refine anyK_on1 2 (by kernel_rfl) ?_
  refine anyK_one 2 (o := ?oo27) ?ho27 ?hk27
  case ho27 => (simp only [List.getElem?_toArray, List.getElem?_cons_succ, List.getElem?_cons_zero]; rfl)
  case hk27 =>
  intro K hK
  go_simp
  refine (HWO.out _ _ _ ht (PF.out.ext yy)).mono ?_
  rintro e wo ⟨rfl, xx⟩
  try go_wp2_with fail
  replace yy := ext_trans yy xx
  have hT2 := keepK.out _ yy
  refine hK.out _ _ hT2 (fun _ => trivial) ?_
  clear hK K
  try simp only [Act.put, List.setIfInBounds_toArray, List.set_cons_zero, List.set_cons_succ]
  refine anyK_take 3 (oi := ?oo28) ?ho28 (by kernel_rfl) (by kernel_rfl) (by kernel_rfl) (by kernel_rfl) ?hq28 ?hw28 hT2 (fun _ => trivial) (v := ?vv28) ?hy28 ?hk28
  case ho28 => (simp only [List.getElem?_toArray, List.getElem?_cons_succ, List.getElem?_cons_zero]; rfl)
  case hq28 => exact fun _ _ _ h => h
  case hw28 => rfl
  case hy28 =>
    intro W hW
    go_simp
    first | done | with_reducible rfl
  case hk28 =>
  try simp only [Act.put, List.setIfInBounds_toArray, List.set_cons_zero, List.set_cons_succ]
  refine anyK_take 4 (oi := ?oo29) ?ho29 (by kernel_rfl) (by kernel_rfl) (by kernel_rfl) (by kernel_rfl) ?hq29 ?hw29 hT2 (fun _ => trivial) (v := ?vv29) ?hy29 ?hk29
  case ho29 => (simp only [List.getElem?_toArray, List.getElem?_cons_succ, List.getElem?_cons_zero]; rfl)
  case hq29 => exact fun _ _ _ h => h
  case hw29 => rfl
  case hy29 =>
    intro W hW
    go_simp
    first | done | with_reducible rfl
  case hk29 =>
  try simp only [Act.put, List.setIfInBounds_toArray, List.set_cons_zero, List.set_cons_succ]
  refine anyK_take 5 (oi := ?oo30) ?ho30 (by kernel_rfl) (by kernel_rfl) (by kernel_rfl) (by kernel_rfl) ?hq30 ?hw30 hT2 (fun _ => trivial) (v := ?vv30) ?hy30 ?hk30
  case ho30 => (simp only [List.getElem?_toArray, List.getElem?_cons_succ, List.getElem?_cons_zero]; rfl)
  case hq30 => exact fun _ _ _ h => h
  case hw30 => rfl
  case hy30 =>
    intro W hW
    go_simp
    first | done | with_reducible rfl
  case hk30 =>
  try simp only [Act.put, List.setIfInBounds_toArray, List.set_cons_zero, List.set_cons_succ]
  refine anyK_take 6 (oi := ?oo31) ?ho31 (by kernel_rfl) (by kernel_rfl) (by kernel_rfl) (by kernel_rfl) ?hq31 ?hw31 hT2 (fun _ => trivial) (v := ?vv31) ?hy31 ?hk31
  case ho31 => (simp only [List.getElem?_toArray, List.getElem?_cons_succ, List.getElem?_cons_zero]; rfl)
  case hq31 => exact fun _ _ _ h => h
  case hw31 => rfl
  case hy31 =>
    intro W hW
    go_simp
    first | done | with_reducible rfl
  case hk31 =>
  try simp only [Act.put, List.setIfInBounds_toArray, List.set_cons_zero, List.set_cons_succ]
  refine anyK_take 7 (oi := ?oo32) ?ho32 (by kernel_rfl) (by kernel_rfl) (by kernel_rfl) (by kernel_rfl) ?hq32 ?hw32 hT2 (fun _ => trivial) (v := ?vv32) ?hy32 ?hk32
  case ho32 => (simp only [List.getElem?_toArray, List.getElem?_cons_succ, List.getElem?_cons_zero]; rfl)
  case hq32 => exact fun _ _ _ h => h
  case hw32 => rfl
  case hy32 =>
    intro W hW
    go_simp
    first | done | with_reducible rfl
  case hk32 =>
  try simp only [Act.put, List.setIfInBounds_toArray, List.set_cons_zero, List.set_cons_succ]
  refine anyK_done (by kernel_rfl) ?_ _
  clear keepK hT0 hT1 hT2
  obtain ⟨hR, kR, X⟩ := HS0.out _ (ext_trans XF.out yy)
  clear HS0 XF KF PF HWO ht xx yy
  go_wp2_with fail
  refine (played_any _).mono ?_
  rintro e w23 ⟨rfl, x⟩
  replace hR := hR.ext x
  replace kR := kR.ext x
  replace X := ext_trans X x
  clear x
  go_wp2_with fail
  refine (plays_any _).mono ?_
  rintro e w24 ⟨rfl, x⟩
  replace hR := hR.ext x
  replace kR := kR.ext x
  replace X := ext_trans X x
  clear x
  have fR := kR.cell
  go_wp2_with fail
  have HR := hide hR
  have KR := hide kR
  have XB := hide X
  refine (HNW.out _ _ hR).mono ?_
  rintro e wn ⟨BG, rfl, hG⟩
  have HG := hide hG
  clear hG fR hR kR X HNW
  go_wp2
  go_loopw [61] (fun i wr => ∃ (k : Nat) (ps : List PosM) (ms : List MoveM), k ≤ qn ∧ i = .int .i64 k ∧ GameAt w24 wr BG R ps ms ∧ Hid (Played R ps ms ∧ ms.length ≤ k)) (fun i _ => qn - (intOf i).toNat)
  case atStart => exact ⟨0, _, _, Nat.zero_le _, rfl, HG.out, hide ⟨played_nil R, Nat.le_refl _⟩⟩
  case round =>
    clear HG
    obtain ⟨k, ps, ms, hk, rfl, hG, hP⟩ := hrel
    by_cases hlt : k < qn
    · obtain ⟨P, hP1, hP2⟩ := hP.out.1.last
      have HPL := hide hP2
      have hl : ps.length ≤ 100000 := by have := hP.out.1.len; have := hP.out.1.bd; omega
      have hlm : ms.length ≤ 100000 := by have := hP.out.1.bd; omega
      have hS := hP.out.1.sound HV.out
      have HSP := hide (hS P (last_mem hP2))
      have HPO := hide (fun W (x : Ext wr W) => GPosition_any (hG.ext x) (by omega) (fit_of HV.out hS) hP2)
      have HRE := hide (fun W (x : Ext wr W) => GResult_any (hG.ext x) (by omega) HV.out hS hP2)
      have HCT := hide (fun W (x : Ext wr W) => GCount_any (hG.ext x) (by omega) (fit_of HV.out hS) hP2)
      have HMV := hide (fun W (x : Ext wr W) => GMoves_any (hG.ext x) hlm)
      have HRr := hide (HR.out.ext hG.old)
      have KRr := hide (KR.out.ext hG.old)
      have HEO := hide (fun (v : Value) W (x : Ext wr W) (h : PosAt W v P) => EOf_yes R P _ v W (HRr.out.ext x) h HV.out HSP.out)
      have HAL := hide (fun (v : Value) W (x : Ext wr W) (h : PosAt W v P) => All_yes R P _ v W (HRr.out.ext x) h HV.out HSP.out)
      have HPY := hide (fun (m : MoveM) (hr : resultG R ps P = 0) (hm : m ∈ listM R P) W (x : Ext wr W) => Play_yes (hG.ext x) hl hlm HV.out hS hP2 m hr hm (by have := hP.out.2; have := HQ.out.2.1; omega))
      have HSN := hide (fun (m : MoveM) (hr : resultG R ps P = 0) (hm : m ∈ listM R P) => hP.out.1.snoc hP2 (play4 hr hm (by have := hP.out.2; have := HQ.out.2.1; omega)))
      have hc1 : 1 ≤ countG ps P := count_pos (last_mem hP2)
      have hc2 : countG ps P ≤ ms.length + 1 := by have := countG_le ps P; have := hP.out.1.len; omega
      have HXW := hide hG.old
      have HLN := hide hP.out.2
      have HRT := hide (rept_cases HV.out)
      have HRG := hide (show resultG R ps P = if resultM R P = 0 ∧ R.rept ≠ 0 ∧ R.rept ≤ (countG ps P : Int) then 3 else resultM R P from rfl)
      have HLI := hide (fun (h : resultM R P = 0) => moves_open' HSP.out.turn h)
      have HLL := hide (listM_len HV.out HSP.out)
      obtain ⟨b', o', eA, hcell⟩ := (HZ.out.ext (ext_trans XB.out HXW.out)) k (by rw [HZL.out]; have := HQ.out.1; omega)
      simp only [Option.some.injEq, Addr.mk.injEq, and_true] at eA
      obtain ⟨rfl, rfl⟩ := eA
      have j0 : (0 : Int) ≤ (k : Int) := by omega
      have j1 : (k : Int) < (qn : Int) := by omega
      clear hG hP hP1 hP2 hl hS
      generalize (z.take n).getD k 0 = pick at *
      generalize makeM R P = MK at *
      generalize listM R P = L at *
      generalize resultG R ps P = G at *
      generalize countG ps P = ct at *
      go_upto_region 12 with fail
      clear hcell
      have keepK := hide (fun W (h : Ext wr W) => (show (fun W => W.cell? ⟨BR, 0, none⟩ = some (.string R.name) ∧ W.cell? ⟨BR, 1, none⟩ = some (.int .i64 R.width) ∧ W.cell? ⟨BR, 2, none⟩ = some (.int .i64 R.height) ∧ W.cell? ⟨BR, 3, none⟩ = some (.slice pA R.pieces.length pc) ∧ W.cell? ⟨BR, 4, none⟩ = some (.slice sA R.start.length sc) ∧ W.cell? ⟨BR, 5, none⟩ = some (.bool R.falls) ∧ W.cell? ⟨BR, 6, none⟩ = some (.bool R.keeps) ∧ W.cell? ⟨BR, 7, none⟩ = some (.slice eA R.ends.length ec) ∧ W.cell? ⟨BR, 8, none⟩ = some (.int .i64 R.blocked) ∧ W.cell? ⟨BR, 9, none⟩ = some (.int .i64 R.quiet) ∧ W.cell? ⟨BR, 10, none⟩ = some (.int .i64 R.rept) ∧ Ext wr W) W from ⟨(KRr.out.ext h).cell 0, (KRr.out.ext h).cell 1, (KRr.out.ext h).cell 2, (KRr.out.ext h).cell 3, (KRr.out.ext h).cell 4, (KRr.out.ext h).cell 5, (KRr.out.ext h).cell 6, (KRr.out.ext h).cell 7, (KRr.out.ext h).cell 8, (KRr.out.ext h).cell 9, (KRr.out.ext h).cell 10, h⟩))
      have yy : Ext wr wr.drew := Below.drew (Below.refl _ _)
      refine region_K (fun W => W.cell? ⟨BR, 0, none⟩ = some (.string R.name) ∧ W.cell? ⟨BR, 1, none⟩ = some (.int .i64 R.width) ∧ W.cell? ⟨BR, 2, none⟩ = some (.int .i64 R.height) ∧ W.cell? ⟨BR, 3, none⟩ = some (.slice pA R.pieces.length pc) ∧ W.cell? ⟨BR, 4, none⟩ = some (.slice sA R.start.length sc) ∧ W.cell? ⟨BR, 5, none⟩ = some (.bool R.falls) ∧ W.cell? ⟨BR, 6, none⟩ = some (.bool R.keeps) ∧ W.cell? ⟨BR, 7, none⟩ = some (.slice eA R.ends.length ec) ∧ W.cell? ⟨BR, 8, none⟩ = some (.int .i64 R.blocked) ∧ W.cell? ⟨BR, 9, none⟩ = some (.int .i64 R.quiet) ∧ W.cell? ⟨BR, 10, none⟩ = some (.int .i64 R.rept) ∧ Ext wr W) (fun _ => True) [] (by kernel_rfl) ?_
      have hT0 := keepK.out _ yy
      refine anyK_take 0 (oi := ?oo33) ?ho33 (by kernel_rfl) (by kernel_rfl) (by kernel_rfl) (by kernel_rfl) ?hq33 ?hw33 hT0 (fun _ => trivial) (v := ?vv33) ?hy33 ?hk33
      case ho33 => (simp only [List.getElem?_toArray, List.getElem?_cons_succ, List.getElem?_cons_zero]; rfl)
      case hq33 => exact fun _ _ _ h => h
      case hw33 => rfl
      case hy33 =>
        intro W hW
        obtain ⟨z0, z1, z2, z3, z4, z5, z6, z7, z8, z9, z10, z11⟩ := hW
        go_simp
        first | done | with_reducible rfl
      case hk33 =>
      try simp only [Act.put, List.setIfInBounds_toArray, List.set_cons_zero, List.set_cons_succ]
      refine anyK_take 1 (oi := ?oo34) ?ho34 (by kernel_rfl) (by kernel_rfl) (by kernel_rfl) (by kernel_rfl) ?hq34 ?hw34 hT0 (fun _ => trivial) (v := ?vv34) ?hy34 ?hk34
      case ho34 => (simp only [List.getElem?_toArray, List.getElem?_cons_succ, List.getElem?_cons_zero]; rfl)
      case hq34 => exact fun _ _ _ h => h
      case hw34 => rfl
      case hy34 =>
        intro W hW
        go_simp
        first | done | with_reducible rfl
      case hk34 =>
      try simp only [Act.put, List.setIfInBounds_toArray, List.set_cons_zero, List.set_cons_succ]
      refine anyK_on1 2 (by kernel_rfl) ?_
      refine anyK_one 2 (o := ?oo35) ?ho35 ?hk35
      case ho35 => (simp only [List.getElem?_toArray, List.getElem?_cons_succ, List.getElem?_cons_zero]; rfl)
      case hk35 =>
      intro K hK
      go_simp
      refine (HPO.out _ yy).mono ?_
      rintro e wp ⟨v6, rfl, p6, xx⟩
      try go_wp2_with fail
      replace yy := ext_trans yy xx
      have HP6 := hide p6
      clear p6
      have hT1 := keepK.out _ yy
      refine hK.out _ _ hT1 (fun _ => trivial) ?_
      clear hK K
      try simp only [Act.put, List.setIfInBounds_toArray, List.set_cons_zero, List.set_cons_succ]
      refine anyK_on1 3 (by kernel_rfl) ?_
      refine anyK_one 3 (o := ?oo36) ?ho36 ?hk36
      case ho36 => (simp only [List.getElem?_toArray, List.getElem?_cons_succ, List.getElem?_cons_zero]; rfl)
      case hk36 =>
      intro K hK
      go_simp
      refine (HEO.out _ _ yy HP6.out.at_).mono ?_
      rintro e wq ⟨rfl, xx⟩
      try go_wp2_with fail
      replace yy := ext_trans yy xx
      have hT2 := keepK.out _ yy
      refine hK.out _ _ hT2 (fun _ => trivial) ?_
      clear hK K
      try simp only [Act.put, List.setIfInBounds_toArray, List.set_cons_zero, List.set_cons_succ]
      refine anyK_take 4 (oi := ?oo37) ?ho37 (by kernel_rfl) (by kernel_rfl) (by kernel_rfl) (by kernel_rfl) ?hq37 ?hw37 hT2 (fun _ => trivial) (v := ?vv37) ?hy37 ?hk37
      case ho37 => (simp only [List.getElem?_toArray, List.getElem?_cons_succ, List.getElem?_cons_zero]; rfl)
      case hq37 => exact fun _ _ _ h => h
      case hw37 => rfl
      case hy37 =>
        intro W hW
        go_simp
        first | done | with_reducible rfl
      case hk37 =>
      try simp only [Act.put, List.setIfInBounds_toArray, List.set_cons_zero, List.set_cons_succ]
      refine anyK_take 5 (oi := ?oo38) ?ho38 (by kernel_rfl) (by kernel_rfl) (by kernel_rfl) (by kernel_rfl) ?hq38 ?hw38 hT2 (fun _ => trivial) (v := ?vv38) ?hy38 ?hk38
      case ho38 => (simp only [List.getElem?_toArray, List.getElem?_cons_succ, List.getElem?_cons_zero]; rfl)
      case hq38 => exact fun _ _ _ h => h
      case hw38 => rfl
      case hy38 =>
        intro W hW
        go_simp
        first | done | with_reducible rfl
      case hk38 =>
      try simp only [Act.put, List.setIfInBounds_toArray, List.set_cons_zero, List.set_cons_succ]
      refine anyK_take 6 (oi := ?oo39) ?ho39 (by kernel_rfl) (by kernel_rfl) (by kernel_rfl) (by kernel_rfl) ?hq39 ?hw39 hT2 (fun _ => trivial) (v := ?vv39) ?hy39 ?hk39
      case ho39 => (simp only [List.getElem?_toArray, List.getElem?_cons_succ, List.getElem?_cons_zero]; rfl)
      case hq39 => exact fun _ _ _ h => h
      case hw39 => rfl
      case hy39 =>
        intro W hW
        go_simp
        first | done | with_reducible rfl
      case hk39 =>
      try simp only [Act.put, List.setIfInBounds_toArray, List.set_cons_zero, List.set_cons_succ]
      refine anyK_take 7 (oi := ?oo40) ?ho40 (by kernel_rfl) (by kernel_rfl) (by kernel_rfl) (by kernel_rfl) ?hq40 ?hw40 hT2 (fun _ => trivial) (v := ?vv40) ?hy40 ?hk40
      case ho40 => (simp only [List.getElem?_toArray, List.getElem?_cons_succ, List.getElem?_cons_zero]; rfl)
      case hq40 => exact fun _ _ _ h => h
      case hw40 => rfl
      case hy40 =>
        intro W hW
        go_simp
        first | done | with_reducible rfl
      case hk40 =>
      try simp only [Act.put, List.setIfInBounds_toArray, List.set_cons_zero, List.set_cons_succ]
      refine anyK_take 8 (oi := ?oo41) ?ho41 (by kernel_rfl) (by kernel_rfl) (by kernel_rfl) (by kernel_rfl) ?hq41 ?hw41 hT2 (fun _ => trivial) (v := ?vv41) ?hy41 ?hk41
      case ho41 => (simp only [List.getElem?_toArray, List.getElem?_cons_succ, List.getElem?_cons_zero]; rfl)
      case hq41 => exact fun _ _ _ h => h
      case hw41 => rfl
      case hy41 =>
        intro W hW
        go_simp
        first | done | with_reducible rfl
      case hk41 =>
      try simp only [Act.put, List.setIfInBounds_toArray, List.set_cons_zero, List.set_cons_succ]
      refine anyK_done (by kernel_rfl) ?_ _
      clear keepK hT0 hT1 hT2
      have XS := hide yy
      have KRs := hide (KRr.out.ext yy)
      clear yy xx HP6 HEO
      generalize hws : wq = ws at *
      clear hws
      generalize resultM R P = x at *
      go_upto_region 14 with fail
      by_cases hx : x = 0
      · subst hx
        have t0 : ((0 : Int) == 0) = true := rfl
        rcases HRT.out with hr | ⟨hr, hr0⟩
        · have t1 : decide (0 < R.rept) = false := by simp [hr]
          obtain rfl : G = 0 := by rw [HRG.out, if_neg (fun h => h.2.1 hr)]
          clear hr HRG
          have keepK := hide (fun W (h : Ext ws W) => (show (fun W => W.cell? ⟨BR, 10, none⟩ = some (.int .i64 R.rept) ∧ Ext ws W) W from ⟨(KRs.out.ext h).cell 10, h⟩))
          have yy : Ext ws ws.drew := Below.drew (Below.refl _ _)
          refine region_K (fun W => W.cell? ⟨BR, 10, none⟩ = some (.int .i64 R.rept) ∧ Ext ws W) (fun _ => True) [] (by kernel_rfl) ?_
          have hT0 := keepK.out _ yy
          refine anyK_take 0 (oi := ?oo42) ?ho42 (by kernel_rfl) (by kernel_rfl) (by kernel_rfl) (by kernel_rfl) ?hq42 ?hw42 hT0 (fun _ => trivial) (v := ?vv42) ?hy42 ?hk42
          case ho42 => (simp only [List.getElem?_toArray, List.getElem?_cons_succ, List.getElem?_cons_zero]; rfl)
          case hq42 => exact fun _ _ _ h => h
          case hw42 => rfl
          case hy42 =>
            intro W hW
            go_simp
            first | done | with_reducible rfl
          case hk42 =>
          try simp only [Act.put, List.setIfInBounds_toArray, List.set_cons_zero, List.set_cons_succ]
          refine anyK_take 1 (oi := ?oo43) ?ho43 (by kernel_rfl) (by kernel_rfl) (by kernel_rfl) (by kernel_rfl) ?hq43 ?hw43 hT0 (fun _ => trivial) (v := ?vv43) ?hy43 ?hk43
          case ho43 => (simp only [List.getElem?_toArray, List.getElem?_cons_succ, List.getElem?_cons_zero]; rfl)
          case hq43 => exact fun _ _ _ h => h
          case hw43 => rfl
          case hy43 =>
            intro W hW
            go_simp
            first | done | with_reducible rfl
          case hk43 =>
          try simp only [Act.put, List.setIfInBounds_toArray, List.set_cons_zero, List.set_cons_succ]
          refine anyK_take 2 (oi := ?oo44) ?ho44 (by kernel_rfl) (by kernel_rfl) (by kernel_rfl) (by kernel_rfl) ?hq44 ?hw44 hT0 (fun _ => trivial) (v := ?vv44) ?hy44 ?hk44
          case ho44 => (simp only [List.getElem?_toArray, List.getElem?_cons_succ, List.getElem?_cons_zero]; rfl)
          case hq44 => exact fun _ _ _ h => h
          case hw44 => rfl
          case hy44 =>
            intro W hW
            go_simp
            first | done | with_reducible rfl
          case hk44 =>
          try simp only [Act.put, List.setIfInBounds_toArray, List.set_cons_zero, List.set_cons_succ]
          refine anyK_take 3 (oi := ?oo45) ?ho45 (by kernel_rfl) (by kernel_rfl) (by kernel_rfl) (by kernel_rfl) ?hq45 ?hw45 hT0 (fun _ => trivial) (v := ?vv45) ?hy45 ?hk45
          case ho45 => (simp only [List.getElem?_toArray, List.getElem?_cons_succ, List.getElem?_cons_zero]; rfl)
          case hq45 => exact fun _ _ _ h => h
          case hw45 => rfl
          case hy45 =>
            intro W hW
            go_simp
            first | done | with_reducible rfl
          case hk45 =>
          try simp only [Act.put, List.setIfInBounds_toArray, List.set_cons_zero, List.set_cons_succ]
          refine anyK_take 4 (oi := ?oo46) ?ho46 (by kernel_rfl) (by kernel_rfl) (by kernel_rfl) (by kernel_rfl) ?hq46 ?hw46 hT0 (fun _ => trivial) (v := ?vv46) ?hy46 ?hk46
          case ho46 => (simp only [List.getElem?_toArray, List.getElem?_cons_succ, List.getElem?_cons_zero]; rfl)
          case hq46 => exact fun _ _ _ h => h
          case hw46 => rfl
          case hy46 =>
            intro W hW
            obtain ⟨z0, z1⟩ := hW
            go_simp
            first | done | with_reducible rfl
          case hk46 =>
          try simp only [Act.put, List.setIfInBounds_toArray, List.set_cons_zero, List.set_cons_succ]
          refine anyK_take 5 (oi := ?oo47) ?ho47 (by kernel_rfl) (by kernel_rfl) (by kernel_rfl) (by kernel_rfl) ?hq47 ?hw47 hT0 (fun _ => trivial) (v := ?vv47) ?hy47 ?hk47
          case ho47 => (simp only [List.getElem?_toArray, List.getElem?_cons_succ, List.getElem?_cons_zero]; rfl)
          case hq47 => exact fun _ _ _ h => h
          case hw47 => rfl
          case hy47 =>
            intro W hW
            go_simp
            first | done | with_reducible rfl
          case hk47 =>
          try simp only [Act.put, List.setIfInBounds_toArray, List.set_cons_zero, List.set_cons_succ]
          refine anyK_take 6 (oi := ?oo48) ?ho48 (by kernel_rfl) (by kernel_rfl) (by kernel_rfl) (by kernel_rfl) ?hq48 ?hw48 hT0 (fun _ => trivial) (v := ?vv48) ?hy48 ?hk48
          case ho48 => (simp only [List.getElem?_toArray, List.getElem?_cons_succ, List.getElem?_cons_zero]; rfl)
          case hq48 => exact fun _ _ _ h => h
          case hw48 => rfl
          case hy48 =>
            intro W hW
            go_simp
            first | done | with_reducible rfl
          case hk48 =>
          try simp only [Act.put, List.setIfInBounds_toArray, List.set_cons_zero, List.set_cons_succ]
          refine anyK_take 7 (oi := ?oo49) ?ho49 (by kernel_rfl) (by kernel_rfl) (by kernel_rfl) (by kernel_rfl) ?hq49 ?hw49 hT0 (fun _ => trivial) (v := ?vv49) ?hy49 ?hk49
          case ho49 => (simp only [List.getElem?_toArray, List.getElem?_cons_succ, List.getElem?_cons_zero]; rfl)
          case hq49 => exact fun _ _ _ h => h
          case hw49 => rfl
          case hy49 =>
            intro W hW
            go_simp
            first | done | with_reducible rfl
          case hk49 =>
          try simp only [Act.put, List.setIfInBounds_toArray, List.set_cons_zero, List.set_cons_succ]
          refine anyK_skip 8 (oi := ?oo50) ?ho50 (by kernel_rfl) (by kernel_rfl) (by kernel_rfl) (by kernel_rfl) ?hq50 ?hw50 hT0 (fun _ => trivial) ?hk50
          case ho50 => (simp only [List.getElem?_toArray, List.getElem?_cons_succ, List.getElem?_cons_zero]; rfl)
          case hq50 => exact fun _ _ _ h => h
          case hw50 => rfl
          case hk50 =>
          try simp only [Act.put, List.setIfInBounds_toArray, List.set_cons_zero, List.set_cons_succ]
          refine anyK_skip 9 (oi := ?oo51) ?ho51 (by kernel_rfl) (by kernel_rfl) (by kernel_rfl) (by kernel_rfl) ?hq51 ?hw51 hT0 (fun _ => trivial) ?hk51
          case ho51 => (simp only [List.getElem?_toArray, List.getElem?_cons_succ, List.getElem?_cons_zero]; rfl)
          case hq51 => exact fun _ _ _ h => h
          case hw51 => rfl
          case hk51 =>
          try simp only [Act.put, List.setIfInBounds_toArray, List.set_cons_zero, List.set_cons_succ]
          refine anyK_skip 10 (oi := ?oo52) ?ho52 (by kernel_rfl) (by kernel_rfl) (by kernel_rfl) (by kernel_rfl) ?hq52 ?hw52 hT0 (fun _ => trivial) ?hk52
          case ho52 => (simp only [List.getElem?_toArray, List.getElem?_cons_succ, List.getElem?_cons_zero]; rfl)
          case hq52 => exact fun _ _ _ h => h
          case hw52 => rfl
          case hk52 =>
          try simp only [Act.put, List.setIfInBounds_toArray, List.set_cons_zero, List.set_cons_succ]
          refine anyK_skip 11 (oi := ?oo53) ?ho53 (by kernel_rfl) (by kernel_rfl) (by kernel_rfl) (by kernel_rfl) ?hq53 ?hw53 hT0 (fun _ => trivial) ?hk53
          case ho53 => (simp only [List.getElem?_toArray, List.getElem?_cons_succ, List.getElem?_cons_zero]; rfl)
          case hq53 => exact fun _ _ _ h => h
          case hw53 => rfl
          case hk53 =>
          try simp only [Act.put, List.setIfInBounds_toArray, List.set_cons_zero, List.set_cons_succ]
          refine anyK_skip 12 (oi := ?oo54) ?ho54 (by kernel_rfl) (by kernel_rfl) (by kernel_rfl) (by kernel_rfl) ?hq54 ?hw54 hT0 (fun _ => trivial) ?hk54
          case ho54 => (simp only [List.getElem?_toArray, List.getElem?_cons_succ, List.getElem?_cons_zero]; rfl)
          case hq54 => exact fun _ _ _ h => h
          case hw54 => rfl
          case hk54 =>
          try simp only [Act.put, List.setIfInBounds_toArray, List.set_cons_zero, List.set_cons_succ]
          refine anyK_take 13 (oi := ?oo55) ?ho55 (by kernel_rfl) (by kernel_rfl) (by kernel_rfl) (by kernel_rfl) ?hq55 ?hw55 hT0 (fun _ => trivial) (v := ?vv55) ?hy55 ?hk55
          case ho55 => (simp only [List.getElem?_toArray, List.getElem?_cons_succ, List.getElem?_cons_zero]; rfl)
          case hq55 => exact fun _ _ _ h => h
          case hw55 => rfl
          case hy55 =>
            intro W hW
            go_simp
            first | done | with_reducible rfl
          case hk55 =>
          try simp only [Act.put, List.setIfInBounds_toArray, List.set_cons_zero, List.set_cons_succ]
          refine anyK_done (by kernel_rfl) ?_ _
          clear keepK hT0
          have XT := hide (ext_trans XS.out yy)
          clear yy
          go_wp2_with fail
          refine (HRE.out _ XT.out).mono ?_
          rintro e w5 ⟨rfl, x5⟩
          have X5 := hide (ext_trans XT.out x5)
          clear x5
          go_wp2_with fail
          refine (HCT.out _ X5.out).mono ?_
          rintro e w6 ⟨rfl, x6⟩
          have X6 := hide (ext_trans X5.out x6)
          clear x6
          have tc1 : decide ((ct : Int) < 1) = false := by simp; omega
          go_wp2_with fail
          refine (HCT.out _ X6.out).mono ?_
          rintro e w7 ⟨rfl, x7⟩
          have X7 := hide (ext_trans X6.out x7)
          clear x7
          go_wp2_with fail
          refine (HMV.out _ X7.out).mono ?_
          rintro e w8 ⟨v9, rfl, o8, x8⟩
          obtain ⟨A8, c8, rfl, -⟩ := o8
          have XU := hide (ext_trans X7.out x8)
          clear x8
          have hwm : IntKind.i64.wrap ((ms.length : Int) + 1) = (ms.length : Int) + 1 := by rw [IntKind.wrap_i64]; omega
          have tc2 : decide ((ms.length : Int) + 1 < (ct : Int)) = false := by simp; omega
          have KRu := hide (KRr.out.ext XU.out)
          generalize hwu : w8 = wu at *
          clear hwu
          go_upto_region 18 with fail
          clear tc1 tc2
          have keepK := hide (fun W (h : Ext wu W) => (show (fun W => W.cell? ⟨BR, 0, none⟩ = some (.string R.name) ∧ W.cell? ⟨BR, 1, none⟩ = some (.int .i64 R.width) ∧ W.cell? ⟨BR, 2, none⟩ = some (.int .i64 R.height) ∧ W.cell? ⟨BR, 3, none⟩ = some (.slice pA R.pieces.length pc) ∧ W.cell? ⟨BR, 4, none⟩ = some (.slice sA R.start.length sc) ∧ W.cell? ⟨BR, 5, none⟩ = some (.bool R.falls) ∧ W.cell? ⟨BR, 6, none⟩ = some (.bool R.keeps) ∧ W.cell? ⟨BR, 7, none⟩ = some (.slice eA R.ends.length ec) ∧ W.cell? ⟨BR, 8, none⟩ = some (.int .i64 R.blocked) ∧ W.cell? ⟨BR, 9, none⟩ = some (.int .i64 R.quiet) ∧ W.cell? ⟨BR, 10, none⟩ = some (.int .i64 R.rept) ∧ Ext wu W) W from ⟨(KRu.out.ext h).cell 0, (KRu.out.ext h).cell 1, (KRu.out.ext h).cell 2, (KRu.out.ext h).cell 3, (KRu.out.ext h).cell 4, (KRu.out.ext h).cell 5, (KRu.out.ext h).cell 6, (KRu.out.ext h).cell 7, (KRu.out.ext h).cell 8, (KRu.out.ext h).cell 9, (KRu.out.ext h).cell 10, h⟩))
          have yy : Ext wu wu.drew := Below.drew (Below.refl _ _)
          refine region_K (fun W => W.cell? ⟨BR, 0, none⟩ = some (.string R.name) ∧ W.cell? ⟨BR, 1, none⟩ = some (.int .i64 R.width) ∧ W.cell? ⟨BR, 2, none⟩ = some (.int .i64 R.height) ∧ W.cell? ⟨BR, 3, none⟩ = some (.slice pA R.pieces.length pc) ∧ W.cell? ⟨BR, 4, none⟩ = some (.slice sA R.start.length sc) ∧ W.cell? ⟨BR, 5, none⟩ = some (.bool R.falls) ∧ W.cell? ⟨BR, 6, none⟩ = some (.bool R.keeps) ∧ W.cell? ⟨BR, 7, none⟩ = some (.slice eA R.ends.length ec) ∧ W.cell? ⟨BR, 8, none⟩ = some (.int .i64 R.blocked) ∧ W.cell? ⟨BR, 9, none⟩ = some (.int .i64 R.quiet) ∧ W.cell? ⟨BR, 10, none⟩ = some (.int .i64 R.rept) ∧ Ext wu W) (fun _ => True) [] (by kernel_rfl) ?_
          have hT0 := keepK.out _ yy
          refine anyK_take 0 (oi := ?oo98) ?ho98 (by kernel_rfl) (by kernel_rfl) (by kernel_rfl) (by kernel_rfl) ?hq98 ?hw98 hT0 (fun _ => trivial) (v := ?vv98) ?hy98 ?hk98
          case ho98 => (simp only [List.getElem?_toArray, List.getElem?_cons_succ, List.getElem?_cons_zero]; rfl)
          case hq98 => exact fun _ _ _ h => h
          case hw98 => rfl
          case hy98 =>
            intro W hW
            obtain ⟨z0, z1, z2, z3, z4, z5, z6, z7, z8, z9, z10, z11⟩ := hW
            go_simp
            first | done | with_reducible rfl
          case hk98 =>
          try simp only [Act.put, List.setIfInBounds_toArray, List.set_cons_zero, List.set_cons_succ]
          refine anyK_take 1 (oi := ?oo99) ?ho99 (by kernel_rfl) (by kernel_rfl) (by kernel_rfl) (by kernel_rfl) ?hq99 ?hw99 hT0 (fun _ => trivial) (v := ?vv99) ?hy99 ?hk99
          case ho99 => (simp only [List.getElem?_toArray, List.getElem?_cons_succ, List.getElem?_cons_zero]; rfl)
          case hq99 => exact fun _ _ _ h => h
          case hw99 => rfl
          case hy99 =>
            intro W hW
            go_simp
            first | done | with_reducible rfl
          case hk99 =>
          try simp only [Act.put, List.setIfInBounds_toArray, List.set_cons_zero, List.set_cons_succ]
          refine anyK_on1 2 (by kernel_rfl) ?_
          refine anyK_one 2 (o := ?oo100) ?ho100 ?hk100
          case ho100 => (simp only [List.getElem?_toArray, List.getElem?_cons_succ, List.getElem?_cons_zero]; rfl)
          case hk100 =>
          intro K hK
          go_simp
          refine (HPO.out _ (ext_trans XU.out yy)).mono ?_
          rintro e wv ⟨v7, rfl, p7, xx⟩
          try go_wp2_with fail
          replace yy := ext_trans yy xx
          have HP7 := hide p7
          clear p7
          have hT1 := keepK.out _ yy
          refine hK.out _ _ hT1 (fun _ => trivial) ?_
          clear hK K
          try simp only [Act.put, List.setIfInBounds_toArray, List.set_cons_zero, List.set_cons_succ]
          refine anyK_on1 3 (by kernel_rfl) ?_
          refine anyK_one 3 (o := ?oo101) ?ho101 ?hk101
          case ho101 => (simp only [List.getElem?_toArray, List.getElem?_cons_succ, List.getElem?_cons_zero]; rfl)
          case hk101 =>
          intro K hK
          go_simp
          refine (HAL.out _ _ (ext_trans XU.out yy) HP7.out.at_).mono ?_
          rintro e ww ⟨v8, rfl, own8, xx⟩
          try go_wp2_with fail
          replace yy := ext_trans yy xx
          replace own8 := own8.at_
          have HL8 := hide own8
          clear own8
          have hT2 := keepK.out _ yy
          refine hK.out _ _ hT2 (fun _ => trivial) ?_
          clear hK K
          try simp only [Act.put, List.setIfInBounds_toArray, List.set_cons_zero, List.set_cons_succ]
          refine anyK_take 4 (oi := ?oo102) ?ho102 (by kernel_rfl) (by kernel_rfl) (by kernel_rfl) (by kernel_rfl) ?hq102 ?hw102 hT2 (fun _ => trivial) (v := ?vv102) ?hy102 ?hk102
          case ho102 => (simp only [List.getElem?_toArray, List.getElem?_cons_succ, List.getElem?_cons_zero]; rfl)
          case hq102 => exact fun _ _ _ h => h
          case hw102 => rfl
          case hy102 =>
            intro W hW
            go_simp
            first | done | with_reducible rfl
          case hk102 =>
          try simp only [Act.put, List.setIfInBounds_toArray, List.set_cons_zero, List.set_cons_succ]
          refine anyK_take 5 (oi := ?oo103) ?ho103 (by kernel_rfl) (by kernel_rfl) (by kernel_rfl) (by kernel_rfl) ?hq103 ?hw103 hT2 (fun _ => trivial) (v := ?vv103) ?hy103 ?hk103
          case ho103 => (simp only [List.getElem?_toArray, List.getElem?_cons_succ, List.getElem?_cons_zero]; rfl)
          case hq103 => exact fun _ _ _ h => h
          case hw103 => rfl
          case hy103 =>
            intro W hW
            go_simp
            first | done | with_reducible rfl
          case hk103 =>
          try simp only [Act.put, List.setIfInBounds_toArray, List.set_cons_zero, List.set_cons_succ]
          refine anyK_take 6 (oi := ?oo104) ?ho104 (by kernel_rfl) (by kernel_rfl) (by kernel_rfl) (by kernel_rfl) ?hq104 ?hw104 hT2 (fun _ => trivial) (v := ?vv104) ?hy104 ?hk104
          case ho104 => (simp only [List.getElem?_toArray, List.getElem?_cons_succ, List.getElem?_cons_zero]; rfl)
          case hq104 => exact fun _ _ _ h => h
          case hw104 => rfl
          case hy104 =>
            intro W hW
            go_simp
            first | done | with_reducible rfl
          case hk104 =>
          try simp only [Act.put, List.setIfInBounds_toArray, List.set_cons_zero, List.set_cons_succ]
          refine anyK_take 7 (oi := ?oo105) ?ho105 (by kernel_rfl) (by kernel_rfl) (by kernel_rfl) (by kernel_rfl) ?hq105 ?hw105 hT2 (fun _ => trivial) (v := ?vv105) ?hy105 ?hk105
          case ho105 => (simp only [List.getElem?_toArray, List.getElem?_cons_succ, List.getElem?_cons_zero]; rfl)
          case hq105 => exact fun _ _ _ h => h
          case hw105 => rfl
          case hy105 =>
            intro W hW
            go_simp
            first | done | with_reducible rfl
          case hk105 =>
          try simp only [Act.put, List.setIfInBounds_toArray, List.set_cons_zero, List.set_cons_succ]
          refine anyK_take 8 (oi := ?oo106) ?ho106 (by kernel_rfl) (by kernel_rfl) (by kernel_rfl) (by kernel_rfl) ?hq106 ?hw106 hT2 (fun _ => trivial) (v := ?vv106) ?hy106 ?hk106
          case ho106 => (simp only [List.getElem?_toArray, List.getElem?_cons_succ, List.getElem?_cons_zero]; rfl)
          case hq106 => exact fun _ _ _ h => h
          case hw106 => rfl
          case hy106 =>
            intro W hW
            go_simp
            first | done | with_reducible rfl
          case hk106 =>
          try simp only [Act.put, List.setIfInBounds_toArray, List.set_cons_zero, List.set_cons_succ]
          refine anyK_done (by kernel_rfl) ?_ _
          clear keepK hT0 hT1 hT2
          have X9 := hide (ext_trans XU.out yy)
          clear yy xx HP7
          have HSM := hide (fun W (h : MovesAt W v8 L) => some_move L pick v8 W h HLL.out (HLI.out (by first | rfl | trivial)))
          go_wp2_with fail
          refine (HSM.out _ HL8.out).mono ?_
          rintro e wy ⟨m, hm, rfl, xy⟩
          have HPY2 := hide (HPY.out m (by first | rfl | trivial) hm _ (ext_trans X9.out xy))
          have HSN2 := hide (HSN.out m (by first | rfl | trivial) hm)
          clear hm xy
          go_wp2_with fail
          refine HPY2.out.mono ?_
          rintro e wz ⟨rfl, hG2⟩
          have HG2 := hide hG2
          clear hG2
          go_wp2
          go_roundw
          case rel => exact ⟨k + 1, _, _, by omega, by go_num, HG2.out, hide ⟨HSN2.out, by have := HLN.out; simp; omega⟩⟩
          case measure => simp [intOf]; omega
        · have t1 : decide (0 < R.rept) = true := by simpa using hr
          by_cases hc : R.rept ≤ (ct : Int)
          · have t2 : decide (R.rept ≤ (ct : Int)) = true := by simpa using hc
            obtain rfl : G = 3 := by rw [HRG.out, if_pos ⟨rfl, hr0, hc⟩]
            clear hr hr0 hc HRG
            have keepK := hide (fun W (h : Ext ws W) => (show (fun W => W.cell? ⟨BR, 10, none⟩ = some (.int .i64 R.rept) ∧ Ext ws W) W from ⟨(KRs.out.ext h).cell 10, h⟩))
            have yy : Ext ws ws.drew := Below.drew (Below.refl _ _)
            refine region_K (fun W => W.cell? ⟨BR, 10, none⟩ = some (.int .i64 R.rept) ∧ Ext ws W) (fun _ => True) [] (by kernel_rfl) ?_
            have hT0 := keepK.out _ yy
            refine anyK_take 0 (oi := ?oo56) ?ho56 (by kernel_rfl) (by kernel_rfl) (by kernel_rfl) (by kernel_rfl) ?hq56 ?hw56 hT0 (fun _ => trivial) (v := ?vv56) ?hy56 ?hk56
            case ho56 => (simp only [List.getElem?_toArray, List.getElem?_cons_succ, List.getElem?_cons_zero]; rfl)
            case hq56 => exact fun _ _ _ h => h
            case hw56 => rfl
            case hy56 =>
              intro W hW
              go_simp
              first | done | with_reducible rfl
            case hk56 =>
            try simp only [Act.put, List.setIfInBounds_toArray, List.set_cons_zero, List.set_cons_succ]
            refine anyK_take 1 (oi := ?oo57) ?ho57 (by kernel_rfl) (by kernel_rfl) (by kernel_rfl) (by kernel_rfl) ?hq57 ?hw57 hT0 (fun _ => trivial) (v := ?vv57) ?hy57 ?hk57
            case ho57 => (simp only [List.getElem?_toArray, List.getElem?_cons_succ, List.getElem?_cons_zero]; rfl)
            case hq57 => exact fun _ _ _ h => h
            case hw57 => rfl
            case hy57 =>
              intro W hW
              go_simp
              first | done | with_reducible rfl
            case hk57 =>
            try simp only [Act.put, List.setIfInBounds_toArray, List.set_cons_zero, List.set_cons_succ]
            refine anyK_take 2 (oi := ?oo58) ?ho58 (by kernel_rfl) (by kernel_rfl) (by kernel_rfl) (by kernel_rfl) ?hq58 ?hw58 hT0 (fun _ => trivial) (v := ?vv58) ?hy58 ?hk58
            case ho58 => (simp only [List.getElem?_toArray, List.getElem?_cons_succ, List.getElem?_cons_zero]; rfl)
            case hq58 => exact fun _ _ _ h => h
            case hw58 => rfl
            case hy58 =>
              intro W hW
              go_simp
              first | done | with_reducible rfl
            case hk58 =>
            try simp only [Act.put, List.setIfInBounds_toArray, List.set_cons_zero, List.set_cons_succ]
            refine anyK_take 3 (oi := ?oo59) ?ho59 (by kernel_rfl) (by kernel_rfl) (by kernel_rfl) (by kernel_rfl) ?hq59 ?hw59 hT0 (fun _ => trivial) (v := ?vv59) ?hy59 ?hk59
            case ho59 => (simp only [List.getElem?_toArray, List.getElem?_cons_succ, List.getElem?_cons_zero]; rfl)
            case hq59 => exact fun _ _ _ h => h
            case hw59 => rfl
            case hy59 =>
              intro W hW
              go_simp
              first | done | with_reducible rfl
            case hk59 =>
            try simp only [Act.put, List.setIfInBounds_toArray, List.set_cons_zero, List.set_cons_succ]
            refine anyK_take 4 (oi := ?oo60) ?ho60 (by kernel_rfl) (by kernel_rfl) (by kernel_rfl) (by kernel_rfl) ?hq60 ?hw60 hT0 (fun _ => trivial) (v := ?vv60) ?hy60 ?hk60
            case ho60 => (simp only [List.getElem?_toArray, List.getElem?_cons_succ, List.getElem?_cons_zero]; rfl)
            case hq60 => exact fun _ _ _ h => h
            case hw60 => rfl
            case hy60 =>
              intro W hW
              obtain ⟨z0, z1⟩ := hW
              go_simp
              first | done | with_reducible rfl
            case hk60 =>
            try simp only [Act.put, List.setIfInBounds_toArray, List.set_cons_zero, List.set_cons_succ]
            refine anyK_take 5 (oi := ?oo61) ?ho61 (by kernel_rfl) (by kernel_rfl) (by kernel_rfl) (by kernel_rfl) ?hq61 ?hw61 hT0 (fun _ => trivial) (v := ?vv61) ?hy61 ?hk61
            case ho61 => (simp only [List.getElem?_toArray, List.getElem?_cons_succ, List.getElem?_cons_zero]; rfl)
            case hq61 => exact fun _ _ _ h => h
            case hw61 => rfl
            case hy61 =>
              intro W hW
              go_simp
              first | done | with_reducible rfl
            case hk61 =>
            try simp only [Act.put, List.setIfInBounds_toArray, List.set_cons_zero, List.set_cons_succ]
            refine anyK_take 6 (oi := ?oo62) ?ho62 (by kernel_rfl) (by kernel_rfl) (by kernel_rfl) (by kernel_rfl) ?hq62 ?hw62 hT0 (fun _ => trivial) (v := ?vv62) ?hy62 ?hk62
            case ho62 => (simp only [List.getElem?_toArray, List.getElem?_cons_succ, List.getElem?_cons_zero]; rfl)
            case hq62 => exact fun _ _ _ h => h
            case hw62 => rfl
            case hy62 =>
              intro W hW
              go_simp
              first | done | with_reducible rfl
            case hk62 =>
            try simp only [Act.put, List.setIfInBounds_toArray, List.set_cons_zero, List.set_cons_succ]
            refine anyK_take 7 (oi := ?oo63) ?ho63 (by kernel_rfl) (by kernel_rfl) (by kernel_rfl) (by kernel_rfl) ?hq63 ?hw63 hT0 (fun _ => trivial) (v := ?vv63) ?hy63 ?hk63
            case ho63 => (simp only [List.getElem?_toArray, List.getElem?_cons_succ, List.getElem?_cons_zero]; rfl)
            case hq63 => exact fun _ _ _ h => h
            case hw63 => rfl
            case hy63 =>
              intro W hW
              go_simp
              first | done | with_reducible rfl
            case hk63 =>
            try simp only [Act.put, List.setIfInBounds_toArray, List.set_cons_zero, List.set_cons_succ]
            refine anyK_take 8 (oi := ?oo64) ?ho64 (by kernel_rfl) (by kernel_rfl) (by kernel_rfl) (by kernel_rfl) ?hq64 ?hw64 hT0 (fun _ => trivial) (v := ?vv64) ?hy64 ?hk64
            case ho64 => (simp only [List.getElem?_toArray, List.getElem?_cons_succ, List.getElem?_cons_zero]; rfl)
            case hq64 => exact fun _ _ _ h => h
            case hw64 => rfl
            case hy64 =>
              intro W hW
              go_simp
              first | done | with_reducible rfl
            case hk64 =>
            try simp only [Act.put, List.setIfInBounds_toArray, List.set_cons_zero, List.set_cons_succ]
            refine anyK_take 10 (oi := ?oo65) ?ho65 (by kernel_rfl) (by kernel_rfl) (by kernel_rfl) (by kernel_rfl) ?hq65 ?hw65 hT0 (fun _ => trivial) (v := ?vv65) ?hy65 ?hk65
            case ho65 => (simp only [List.getElem?_toArray, List.getElem?_cons_succ, List.getElem?_cons_zero]; rfl)
            case hq65 => exact fun _ _ _ h => h
            case hw65 => rfl
            case hy65 =>
              intro W hW
              go_simp
              first | done | with_reducible rfl
            case hk65 =>
            try simp only [Act.put, List.setIfInBounds_toArray, List.set_cons_zero, List.set_cons_succ]
            refine anyK_take 11 (oi := ?oo66) ?ho66 (by kernel_rfl) (by kernel_rfl) (by kernel_rfl) (by kernel_rfl) ?hq66 ?hw66 hT0 (fun _ => trivial) (v := ?vv66) ?hy66 ?hk66
            case ho66 => (simp only [List.getElem?_toArray, List.getElem?_cons_succ, List.getElem?_cons_zero]; rfl)
            case hq66 => exact fun _ _ _ h => h
            case hw66 => rfl
            case hy66 =>
              intro W hW
              obtain ⟨z0, z1⟩ := hW
              go_simp
              first | done | with_reducible rfl
            case hk66 =>
            try simp only [Act.put, List.setIfInBounds_toArray, List.set_cons_zero, List.set_cons_succ]
            refine anyK_on1 9 (by kernel_rfl) ?_
            refine anyK_one 9 (o := ?oo67) ?ho67 ?hk67
            case ho67 => (simp only [List.getElem?_toArray, List.getElem?_cons_succ, List.getElem?_cons_zero]; rfl)
            case hk67 =>
            intro K hK
            go_simp
            refine (HCT.out _ (ext_trans XS.out yy)).mono ?_
            rintro e wk ⟨rfl, xx⟩
            try go_wp2_with fail
            replace yy := ext_trans yy xx
            have hT1 := keepK.out _ yy
            refine hK.out _ _ hT1 (fun _ => trivial) ?_
            clear hK K
            try simp only [Act.put, List.setIfInBounds_toArray, List.set_cons_zero, List.set_cons_succ]
            refine anyK_take 12 (oi := ?oo68) ?ho68 (by kernel_rfl) (by kernel_rfl) (by kernel_rfl) (by kernel_rfl) ?hq68 ?hw68 hT1 (fun _ => trivial) (v := ?vv68) ?hy68 ?hk68
            case ho68 => (simp only [List.getElem?_toArray, List.getElem?_cons_succ, List.getElem?_cons_zero]; rfl)
            case hq68 => exact fun _ _ _ h => h
            case hw68 => rfl
            case hy68 =>
              intro W hW
              go_simp
              first | done | with_reducible rfl
            case hk68 =>
            try simp only [Act.put, List.setIfInBounds_toArray, List.set_cons_zero, List.set_cons_succ]
            refine anyK_take 13 (oi := ?oo69) ?ho69 (by kernel_rfl) (by kernel_rfl) (by kernel_rfl) (by kernel_rfl) ?hq69 ?hw69 hT1 (fun _ => trivial) (v := ?vv69) ?hy69 ?hk69
            case ho69 => (simp only [List.getElem?_toArray, List.getElem?_cons_succ, List.getElem?_cons_zero]; rfl)
            case hq69 => exact fun _ _ _ h => h
            case hw69 => rfl
            case hy69 =>
              intro W hW
              go_simp
              first | done | with_reducible rfl
            case hk69 =>
            try simp only [Act.put, List.setIfInBounds_toArray, List.set_cons_zero, List.set_cons_succ]
            refine anyK_done (by kernel_rfl) ?_ _
            clear keepK hT0 hT1
            have XT := hide (ext_trans XS.out yy)
            clear yy
            go_wp2_with fail
            refine (HRE.out _ XT.out).mono ?_
            rintro e w5 ⟨rfl, x5⟩
            have X5 := hide (ext_trans XT.out x5)
            clear x5
            go_wp2_with fail
            refine (HCT.out _ X5.out).mono ?_
            rintro e w6 ⟨rfl, x6⟩
            have X6 := hide (ext_trans X5.out x6)
            clear x6
            have tc1 : decide ((ct : Int) < 1) = false := by simp; omega
            go_wp2_with fail
            refine (HCT.out _ X6.out).mono ?_
            rintro e w7 ⟨rfl, x7⟩
            have X7 := hide (ext_trans X6.out x7)
            clear x7
            go_wp2_with fail
            refine (HMV.out _ X7.out).mono ?_
            rintro e w8 ⟨v9, rfl, o8, x8⟩
            obtain ⟨A8, c8, rfl, -⟩ := o8
            have XU := hide (ext_trans X7.out x8)
            clear x8
            have hwm : IntKind.i64.wrap ((ms.length : Int) + 1) = (ms.length : Int) + 1 := by rw [IntKind.wrap_i64]; omega
            have tc2 : decide ((ms.length : Int) + 1 < (ct : Int)) = false := by simp; omega
            have KRu := hide (KRr.out.ext XU.out)
            generalize hwu : w8 = wu at *
            clear hwu
            go_upto_region 18 with fail
            clear tc1 tc2
            have keepK := hide (fun W (h : Ext wu W) => (show (fun W => W.cell? ⟨BR, 0, none⟩ = some (.string R.name) ∧ W.cell? ⟨BR, 1, none⟩ = some (.int .i64 R.width) ∧ W.cell? ⟨BR, 2, none⟩ = some (.int .i64 R.height) ∧ W.cell? ⟨BR, 3, none⟩ = some (.slice pA R.pieces.length pc) ∧ W.cell? ⟨BR, 4, none⟩ = some (.slice sA R.start.length sc) ∧ W.cell? ⟨BR, 5, none⟩ = some (.bool R.falls) ∧ W.cell? ⟨BR, 6, none⟩ = some (.bool R.keeps) ∧ W.cell? ⟨BR, 7, none⟩ = some (.slice eA R.ends.length ec) ∧ W.cell? ⟨BR, 8, none⟩ = some (.int .i64 R.blocked) ∧ W.cell? ⟨BR, 9, none⟩ = some (.int .i64 R.quiet) ∧ W.cell? ⟨BR, 10, none⟩ = some (.int .i64 R.rept) ∧ Ext wu W) W from ⟨(KRu.out.ext h).cell 0, (KRu.out.ext h).cell 1, (KRu.out.ext h).cell 2, (KRu.out.ext h).cell 3, (KRu.out.ext h).cell 4, (KRu.out.ext h).cell 5, (KRu.out.ext h).cell 6, (KRu.out.ext h).cell 7, (KRu.out.ext h).cell 8, (KRu.out.ext h).cell 9, (KRu.out.ext h).cell 10, h⟩))
            have yy : Ext wu wu.drew := Below.drew (Below.refl _ _)
            refine region_K (fun W => W.cell? ⟨BR, 0, none⟩ = some (.string R.name) ∧ W.cell? ⟨BR, 1, none⟩ = some (.int .i64 R.width) ∧ W.cell? ⟨BR, 2, none⟩ = some (.int .i64 R.height) ∧ W.cell? ⟨BR, 3, none⟩ = some (.slice pA R.pieces.length pc) ∧ W.cell? ⟨BR, 4, none⟩ = some (.slice sA R.start.length sc) ∧ W.cell? ⟨BR, 5, none⟩ = some (.bool R.falls) ∧ W.cell? ⟨BR, 6, none⟩ = some (.bool R.keeps) ∧ W.cell? ⟨BR, 7, none⟩ = some (.slice eA R.ends.length ec) ∧ W.cell? ⟨BR, 8, none⟩ = some (.int .i64 R.blocked) ∧ W.cell? ⟨BR, 9, none⟩ = some (.int .i64 R.quiet) ∧ W.cell? ⟨BR, 10, none⟩ = some (.int .i64 R.rept) ∧ Ext wu W) (fun _ => True) [] (by kernel_rfl) ?_
            have hT0 := keepK.out _ yy
            refine anyK_take 0 (oi := ?oo107) ?ho107 (by kernel_rfl) (by kernel_rfl) (by kernel_rfl) (by kernel_rfl) ?hq107 ?hw107 hT0 (fun _ => trivial) (v := ?vv107) ?hy107 ?hk107
            case ho107 => (simp only [List.getElem?_toArray, List.getElem?_cons_succ, List.getElem?_cons_zero]; rfl)
            case hq107 => exact fun _ _ _ h => h
            case hw107 => rfl
            case hy107 =>
              intro W hW
              obtain ⟨z0, z1, z2, z3, z4, z5, z6, z7, z8, z9, z10, z11⟩ := hW
              go_simp
              first | done | with_reducible rfl
            case hk107 =>
            try simp only [Act.put, List.setIfInBounds_toArray, List.set_cons_zero, List.set_cons_succ]
            refine anyK_take 1 (oi := ?oo108) ?ho108 (by kernel_rfl) (by kernel_rfl) (by kernel_rfl) (by kernel_rfl) ?hq108 ?hw108 hT0 (fun _ => trivial) (v := ?vv108) ?hy108 ?hk108
            case ho108 => (simp only [List.getElem?_toArray, List.getElem?_cons_succ, List.getElem?_cons_zero]; rfl)
            case hq108 => exact fun _ _ _ h => h
            case hw108 => rfl
            case hy108 =>
              intro W hW
              go_simp
              first | done | with_reducible rfl
            case hk108 =>
            try simp only [Act.put, List.setIfInBounds_toArray, List.set_cons_zero, List.set_cons_succ]
            refine anyK_on1 2 (by kernel_rfl) ?_
            refine anyK_one 2 (o := ?oo109) ?ho109 ?hk109
            case ho109 => (simp only [List.getElem?_toArray, List.getElem?_cons_succ, List.getElem?_cons_zero]; rfl)
            case hk109 =>
            intro K hK
            go_simp
            refine (HPO.out _ (ext_trans XU.out yy)).mono ?_
            rintro e wv ⟨v7, rfl, p7, xx⟩
            try go_wp2_with fail
            replace yy := ext_trans yy xx
            have HP7 := hide p7
            clear p7
            have hT1 := keepK.out _ yy
            refine hK.out _ _ hT1 (fun _ => trivial) ?_
            clear hK K
            try simp only [Act.put, List.setIfInBounds_toArray, List.set_cons_zero, List.set_cons_succ]
            refine anyK_on1 3 (by kernel_rfl) ?_
            refine anyK_one 3 (o := ?oo110) ?ho110 ?hk110
            case ho110 => (simp only [List.getElem?_toArray, List.getElem?_cons_succ, List.getElem?_cons_zero]; rfl)
            case hk110 =>
            intro K hK
            go_simp
            refine (HAL.out _ _ (ext_trans XU.out yy) HP7.out.at_).mono ?_
            rintro e ww ⟨v8, rfl, own8, xx⟩
            try go_wp2_with fail
            replace yy := ext_trans yy xx
            replace own8 := own8.at_
            have HL8 := hide own8
            clear own8
            have hT2 := keepK.out _ yy
            refine hK.out _ _ hT2 (fun _ => trivial) ?_
            clear hK K
            try simp only [Act.put, List.setIfInBounds_toArray, List.set_cons_zero, List.set_cons_succ]
            refine anyK_take 4 (oi := ?oo111) ?ho111 (by kernel_rfl) (by kernel_rfl) (by kernel_rfl) (by kernel_rfl) ?hq111 ?hw111 hT2 (fun _ => trivial) (v := ?vv111) ?hy111 ?hk111
            case ho111 => (simp only [List.getElem?_toArray, List.getElem?_cons_succ, List.getElem?_cons_zero]; rfl)
            case hq111 => exact fun _ _ _ h => h
            case hw111 => rfl
            case hy111 =>
              intro W hW
              go_simp
              first | done | with_reducible rfl
            case hk111 =>
            try simp only [Act.put, List.setIfInBounds_toArray, List.set_cons_zero, List.set_cons_succ]
            refine anyK_take 5 (oi := ?oo112) ?ho112 (by kernel_rfl) (by kernel_rfl) (by kernel_rfl) (by kernel_rfl) ?hq112 ?hw112 hT2 (fun _ => trivial) (v := ?vv112) ?hy112 ?hk112
            case ho112 => (simp only [List.getElem?_toArray, List.getElem?_cons_succ, List.getElem?_cons_zero]; rfl)
            case hq112 => exact fun _ _ _ h => h
            case hw112 => rfl
            case hy112 =>
              intro W hW
              go_simp
              first | done | with_reducible rfl
            case hk112 =>
            try simp only [Act.put, List.setIfInBounds_toArray, List.set_cons_zero, List.set_cons_succ]
            refine anyK_take 6 (oi := ?oo113) ?ho113 (by kernel_rfl) (by kernel_rfl) (by kernel_rfl) (by kernel_rfl) ?hq113 ?hw113 hT2 (fun _ => trivial) (v := ?vv113) ?hy113 ?hk113
            case ho113 => (simp only [List.getElem?_toArray, List.getElem?_cons_succ, List.getElem?_cons_zero]; rfl)
            case hq113 => exact fun _ _ _ h => h
            case hw113 => rfl
            case hy113 =>
              intro W hW
              go_simp
              first | done | with_reducible rfl
            case hk113 =>
            try simp only [Act.put, List.setIfInBounds_toArray, List.set_cons_zero, List.set_cons_succ]
            refine anyK_take 7 (oi := ?oo114) ?ho114 (by kernel_rfl) (by kernel_rfl) (by kernel_rfl) (by kernel_rfl) ?hq114 ?hw114 hT2 (fun _ => trivial) (v := ?vv114) ?hy114 ?hk114
            case ho114 => (simp only [List.getElem?_toArray, List.getElem?_cons_succ, List.getElem?_cons_zero]; rfl)
            case hq114 => exact fun _ _ _ h => h
            case hw114 => rfl
            case hy114 =>
              intro W hW
              go_simp
              first | done | with_reducible rfl
            case hk114 =>
            try simp only [Act.put, List.setIfInBounds_toArray, List.set_cons_zero, List.set_cons_succ]
            refine anyK_take 8 (oi := ?oo115) ?ho115 (by kernel_rfl) (by kernel_rfl) (by kernel_rfl) (by kernel_rfl) ?hq115 ?hw115 hT2 (fun _ => trivial) (v := ?vv115) ?hy115 ?hk115
            case ho115 => (simp only [List.getElem?_toArray, List.getElem?_cons_succ, List.getElem?_cons_zero]; rfl)
            case hq115 => exact fun _ _ _ h => h
            case hw115 => rfl
            case hy115 =>
              intro W hW
              go_simp
              first | done | with_reducible rfl
            case hk115 =>
            try simp only [Act.put, List.setIfInBounds_toArray, List.set_cons_zero, List.set_cons_succ]
            refine anyK_done (by kernel_rfl) ?_ _
            clear keepK hT0 hT1 hT2
            have X9 := hide (ext_trans XU.out yy)
            clear yy xx HP7
            go_wp2
            go_ret
            exact ⟨rfl, ext_trans XB.out (ext_trans HXW.out X9.out)⟩
          · have t2 : decide (R.rept ≤ (ct : Int)) = false := by simpa using hc
            obtain rfl : G = 0 := by rw [HRG.out, if_neg (fun h => hc h.2.2)]
            clear hr hr0 hc HRG
            have keepK := hide (fun W (h : Ext ws W) => (show (fun W => W.cell? ⟨BR, 10, none⟩ = some (.int .i64 R.rept) ∧ Ext ws W) W from ⟨(KRs.out.ext h).cell 10, h⟩))
            have yy : Ext ws ws.drew := Below.drew (Below.refl _ _)
            refine region_K (fun W => W.cell? ⟨BR, 10, none⟩ = some (.int .i64 R.rept) ∧ Ext ws W) (fun _ => True) [] (by kernel_rfl) ?_
            have hT0 := keepK.out _ yy
            refine anyK_take 0 (oi := ?oo70) ?ho70 (by kernel_rfl) (by kernel_rfl) (by kernel_rfl) (by kernel_rfl) ?hq70 ?hw70 hT0 (fun _ => trivial) (v := ?vv70) ?hy70 ?hk70
            case ho70 => (simp only [List.getElem?_toArray, List.getElem?_cons_succ, List.getElem?_cons_zero]; rfl)
            case hq70 => exact fun _ _ _ h => h
            case hw70 => rfl
            case hy70 =>
              intro W hW
              go_simp
              first | done | with_reducible rfl
            case hk70 =>
            try simp only [Act.put, List.setIfInBounds_toArray, List.set_cons_zero, List.set_cons_succ]
            refine anyK_take 1 (oi := ?oo71) ?ho71 (by kernel_rfl) (by kernel_rfl) (by kernel_rfl) (by kernel_rfl) ?hq71 ?hw71 hT0 (fun _ => trivial) (v := ?vv71) ?hy71 ?hk71
            case ho71 => (simp only [List.getElem?_toArray, List.getElem?_cons_succ, List.getElem?_cons_zero]; rfl)
            case hq71 => exact fun _ _ _ h => h
            case hw71 => rfl
            case hy71 =>
              intro W hW
              go_simp
              first | done | with_reducible rfl
            case hk71 =>
            try simp only [Act.put, List.setIfInBounds_toArray, List.set_cons_zero, List.set_cons_succ]
            refine anyK_take 2 (oi := ?oo72) ?ho72 (by kernel_rfl) (by kernel_rfl) (by kernel_rfl) (by kernel_rfl) ?hq72 ?hw72 hT0 (fun _ => trivial) (v := ?vv72) ?hy72 ?hk72
            case ho72 => (simp only [List.getElem?_toArray, List.getElem?_cons_succ, List.getElem?_cons_zero]; rfl)
            case hq72 => exact fun _ _ _ h => h
            case hw72 => rfl
            case hy72 =>
              intro W hW
              go_simp
              first | done | with_reducible rfl
            case hk72 =>
            try simp only [Act.put, List.setIfInBounds_toArray, List.set_cons_zero, List.set_cons_succ]
            refine anyK_take 3 (oi := ?oo73) ?ho73 (by kernel_rfl) (by kernel_rfl) (by kernel_rfl) (by kernel_rfl) ?hq73 ?hw73 hT0 (fun _ => trivial) (v := ?vv73) ?hy73 ?hk73
            case ho73 => (simp only [List.getElem?_toArray, List.getElem?_cons_succ, List.getElem?_cons_zero]; rfl)
            case hq73 => exact fun _ _ _ h => h
            case hw73 => rfl
            case hy73 =>
              intro W hW
              go_simp
              first | done | with_reducible rfl
            case hk73 =>
            try simp only [Act.put, List.setIfInBounds_toArray, List.set_cons_zero, List.set_cons_succ]
            refine anyK_take 4 (oi := ?oo74) ?ho74 (by kernel_rfl) (by kernel_rfl) (by kernel_rfl) (by kernel_rfl) ?hq74 ?hw74 hT0 (fun _ => trivial) (v := ?vv74) ?hy74 ?hk74
            case ho74 => (simp only [List.getElem?_toArray, List.getElem?_cons_succ, List.getElem?_cons_zero]; rfl)
            case hq74 => exact fun _ _ _ h => h
            case hw74 => rfl
            case hy74 =>
              intro W hW
              obtain ⟨z0, z1⟩ := hW
              go_simp
              first | done | with_reducible rfl
            case hk74 =>
            try simp only [Act.put, List.setIfInBounds_toArray, List.set_cons_zero, List.set_cons_succ]
            refine anyK_take 5 (oi := ?oo75) ?ho75 (by kernel_rfl) (by kernel_rfl) (by kernel_rfl) (by kernel_rfl) ?hq75 ?hw75 hT0 (fun _ => trivial) (v := ?vv75) ?hy75 ?hk75
            case ho75 => (simp only [List.getElem?_toArray, List.getElem?_cons_succ, List.getElem?_cons_zero]; rfl)
            case hq75 => exact fun _ _ _ h => h
            case hw75 => rfl
            case hy75 =>
              intro W hW
              go_simp
              first | done | with_reducible rfl
            case hk75 =>
            try simp only [Act.put, List.setIfInBounds_toArray, List.set_cons_zero, List.set_cons_succ]
            refine anyK_take 6 (oi := ?oo76) ?ho76 (by kernel_rfl) (by kernel_rfl) (by kernel_rfl) (by kernel_rfl) ?hq76 ?hw76 hT0 (fun _ => trivial) (v := ?vv76) ?hy76 ?hk76
            case ho76 => (simp only [List.getElem?_toArray, List.getElem?_cons_succ, List.getElem?_cons_zero]; rfl)
            case hq76 => exact fun _ _ _ h => h
            case hw76 => rfl
            case hy76 =>
              intro W hW
              go_simp
              first | done | with_reducible rfl
            case hk76 =>
            try simp only [Act.put, List.setIfInBounds_toArray, List.set_cons_zero, List.set_cons_succ]
            refine anyK_take 7 (oi := ?oo77) ?ho77 (by kernel_rfl) (by kernel_rfl) (by kernel_rfl) (by kernel_rfl) ?hq77 ?hw77 hT0 (fun _ => trivial) (v := ?vv77) ?hy77 ?hk77
            case ho77 => (simp only [List.getElem?_toArray, List.getElem?_cons_succ, List.getElem?_cons_zero]; rfl)
            case hq77 => exact fun _ _ _ h => h
            case hw77 => rfl
            case hy77 =>
              intro W hW
              go_simp
              first | done | with_reducible rfl
            case hk77 =>
            try simp only [Act.put, List.setIfInBounds_toArray, List.set_cons_zero, List.set_cons_succ]
            refine anyK_take 8 (oi := ?oo78) ?ho78 (by kernel_rfl) (by kernel_rfl) (by kernel_rfl) (by kernel_rfl) ?hq78 ?hw78 hT0 (fun _ => trivial) (v := ?vv78) ?hy78 ?hk78
            case ho78 => (simp only [List.getElem?_toArray, List.getElem?_cons_succ, List.getElem?_cons_zero]; rfl)
            case hq78 => exact fun _ _ _ h => h
            case hw78 => rfl
            case hy78 =>
              intro W hW
              go_simp
              first | done | with_reducible rfl
            case hk78 =>
            try simp only [Act.put, List.setIfInBounds_toArray, List.set_cons_zero, List.set_cons_succ]
            refine anyK_take 10 (oi := ?oo79) ?ho79 (by kernel_rfl) (by kernel_rfl) (by kernel_rfl) (by kernel_rfl) ?hq79 ?hw79 hT0 (fun _ => trivial) (v := ?vv79) ?hy79 ?hk79
            case ho79 => (simp only [List.getElem?_toArray, List.getElem?_cons_succ, List.getElem?_cons_zero]; rfl)
            case hq79 => exact fun _ _ _ h => h
            case hw79 => rfl
            case hy79 =>
              intro W hW
              go_simp
              first | done | with_reducible rfl
            case hk79 =>
            try simp only [Act.put, List.setIfInBounds_toArray, List.set_cons_zero, List.set_cons_succ]
            refine anyK_take 11 (oi := ?oo80) ?ho80 (by kernel_rfl) (by kernel_rfl) (by kernel_rfl) (by kernel_rfl) ?hq80 ?hw80 hT0 (fun _ => trivial) (v := ?vv80) ?hy80 ?hk80
            case ho80 => (simp only [List.getElem?_toArray, List.getElem?_cons_succ, List.getElem?_cons_zero]; rfl)
            case hq80 => exact fun _ _ _ h => h
            case hw80 => rfl
            case hy80 =>
              intro W hW
              obtain ⟨z0, z1⟩ := hW
              go_simp
              first | done | with_reducible rfl
            case hk80 =>
            try simp only [Act.put, List.setIfInBounds_toArray, List.set_cons_zero, List.set_cons_succ]
            refine anyK_on1 9 (by kernel_rfl) ?_
            refine anyK_one 9 (o := ?oo81) ?ho81 ?hk81
            case ho81 => (simp only [List.getElem?_toArray, List.getElem?_cons_succ, List.getElem?_cons_zero]; rfl)
            case hk81 =>
            intro K hK
            go_simp
            refine (HCT.out _ (ext_trans XS.out yy)).mono ?_
            rintro e wk ⟨rfl, xx⟩
            try go_wp2_with fail
            replace yy := ext_trans yy xx
            have hT1 := keepK.out _ yy
            refine hK.out _ _ hT1 (fun _ => trivial) ?_
            clear hK K
            try simp only [Act.put, List.setIfInBounds_toArray, List.set_cons_zero, List.set_cons_succ]
            refine anyK_take 12 (oi := ?oo82) ?ho82 (by kernel_rfl) (by kernel_rfl) (by kernel_rfl) (by kernel_rfl) ?hq82 ?hw82 hT1 (fun _ => trivial) (v := ?vv82) ?hy82 ?hk82
            case ho82 => (simp only [List.getElem?_toArray, List.getElem?_cons_succ, List.getElem?_cons_zero]; rfl)
            case hq82 => exact fun _ _ _ h => h
            case hw82 => rfl
            case hy82 =>
              intro W hW
              go_simp
              first | done | with_reducible rfl
            case hk82 =>
            try simp only [Act.put, List.setIfInBounds_toArray, List.set_cons_zero, List.set_cons_succ]
            refine anyK_take 13 (oi := ?oo83) ?ho83 (by kernel_rfl) (by kernel_rfl) (by kernel_rfl) (by kernel_rfl) ?hq83 ?hw83 hT1 (fun _ => trivial) (v := ?vv83) ?hy83 ?hk83
            case ho83 => (simp only [List.getElem?_toArray, List.getElem?_cons_succ, List.getElem?_cons_zero]; rfl)
            case hq83 => exact fun _ _ _ h => h
            case hw83 => rfl
            case hy83 =>
              intro W hW
              go_simp
              first | done | with_reducible rfl
            case hk83 =>
            try simp only [Act.put, List.setIfInBounds_toArray, List.set_cons_zero, List.set_cons_succ]
            refine anyK_done (by kernel_rfl) ?_ _
            clear keepK hT0 hT1
            have XT := hide (ext_trans XS.out yy)
            clear yy
            go_wp2_with fail
            refine (HRE.out _ XT.out).mono ?_
            rintro e w5 ⟨rfl, x5⟩
            have X5 := hide (ext_trans XT.out x5)
            clear x5
            go_wp2_with fail
            refine (HCT.out _ X5.out).mono ?_
            rintro e w6 ⟨rfl, x6⟩
            have X6 := hide (ext_trans X5.out x6)
            clear x6
            have tc1 : decide ((ct : Int) < 1) = false := by simp; omega
            go_wp2_with fail
            refine (HCT.out _ X6.out).mono ?_
            rintro e w7 ⟨rfl, x7⟩
            have X7 := hide (ext_trans X6.out x7)
            clear x7
            go_wp2_with fail
            refine (HMV.out _ X7.out).mono ?_
            rintro e w8 ⟨v9, rfl, o8, x8⟩
            obtain ⟨A8, c8, rfl, -⟩ := o8
            have XU := hide (ext_trans X7.out x8)
            clear x8
            have hwm : IntKind.i64.wrap ((ms.length : Int) + 1) = (ms.length : Int) + 1 := by rw [IntKind.wrap_i64]; omega
            have tc2 : decide ((ms.length : Int) + 1 < (ct : Int)) = false := by simp; omega
            have KRu := hide (KRr.out.ext XU.out)
            generalize hwu : w8 = wu at *
            clear hwu
            go_upto_region 18 with fail
            clear tc1 tc2
            have keepK := hide (fun W (h : Ext wu W) => (show (fun W => W.cell? ⟨BR, 0, none⟩ = some (.string R.name) ∧ W.cell? ⟨BR, 1, none⟩ = some (.int .i64 R.width) ∧ W.cell? ⟨BR, 2, none⟩ = some (.int .i64 R.height) ∧ W.cell? ⟨BR, 3, none⟩ = some (.slice pA R.pieces.length pc) ∧ W.cell? ⟨BR, 4, none⟩ = some (.slice sA R.start.length sc) ∧ W.cell? ⟨BR, 5, none⟩ = some (.bool R.falls) ∧ W.cell? ⟨BR, 6, none⟩ = some (.bool R.keeps) ∧ W.cell? ⟨BR, 7, none⟩ = some (.slice eA R.ends.length ec) ∧ W.cell? ⟨BR, 8, none⟩ = some (.int .i64 R.blocked) ∧ W.cell? ⟨BR, 9, none⟩ = some (.int .i64 R.quiet) ∧ W.cell? ⟨BR, 10, none⟩ = some (.int .i64 R.rept) ∧ Ext wu W) W from ⟨(KRu.out.ext h).cell 0, (KRu.out.ext h).cell 1, (KRu.out.ext h).cell 2, (KRu.out.ext h).cell 3, (KRu.out.ext h).cell 4, (KRu.out.ext h).cell 5, (KRu.out.ext h).cell 6, (KRu.out.ext h).cell 7, (KRu.out.ext h).cell 8, (KRu.out.ext h).cell 9, (KRu.out.ext h).cell 10, h⟩))
            have yy : Ext wu wu.drew := Below.drew (Below.refl _ _)
            refine region_K (fun W => W.cell? ⟨BR, 0, none⟩ = some (.string R.name) ∧ W.cell? ⟨BR, 1, none⟩ = some (.int .i64 R.width) ∧ W.cell? ⟨BR, 2, none⟩ = some (.int .i64 R.height) ∧ W.cell? ⟨BR, 3, none⟩ = some (.slice pA R.pieces.length pc) ∧ W.cell? ⟨BR, 4, none⟩ = some (.slice sA R.start.length sc) ∧ W.cell? ⟨BR, 5, none⟩ = some (.bool R.falls) ∧ W.cell? ⟨BR, 6, none⟩ = some (.bool R.keeps) ∧ W.cell? ⟨BR, 7, none⟩ = some (.slice eA R.ends.length ec) ∧ W.cell? ⟨BR, 8, none⟩ = some (.int .i64 R.blocked) ∧ W.cell? ⟨BR, 9, none⟩ = some (.int .i64 R.quiet) ∧ W.cell? ⟨BR, 10, none⟩ = some (.int .i64 R.rept) ∧ Ext wu W) (fun _ => True) [] (by kernel_rfl) ?_
            have hT0 := keepK.out _ yy
            refine anyK_take 0 (oi := ?oo116) ?ho116 (by kernel_rfl) (by kernel_rfl) (by kernel_rfl) (by kernel_rfl) ?hq116 ?hw116 hT0 (fun _ => trivial) (v := ?vv116) ?hy116 ?hk116
            case ho116 => (simp only [List.getElem?_toArray, List.getElem?_cons_succ, List.getElem?_cons_zero]; rfl)
            case hq116 => exact fun _ _ _ h => h
            case hw116 => rfl
            case hy116 =>
              intro W hW
              obtain ⟨z0, z1, z2, z3, z4, z5, z6, z7, z8, z9, z10, z11⟩ := hW
              go_simp
              first | done | with_reducible rfl
            case hk116 =>
            try simp only [Act.put, List.setIfInBounds_toArray, List.set_cons_zero, List.set_cons_succ]
            refine anyK_take 1 (oi := ?oo117) ?ho117 (by kernel_rfl) (by kernel_rfl) (by kernel_rfl) (by kernel_rfl) ?hq117 ?hw117 hT0 (fun _ => trivial) (v := ?vv117) ?hy117 ?hk117
            case ho117 => (simp only [List.getElem?_toArray, List.getElem?_cons_succ, List.getElem?_cons_zero]; rfl)
            case hq117 => exact fun _ _ _ h => h
            case hw117 => rfl
            case hy117 =>
              intro W hW
              go_simp
              first | done | with_reducible rfl
            case hk117 =>
            try simp only [Act.put, List.setIfInBounds_toArray, List.set_cons_zero, List.set_cons_succ]
            refine anyK_on1 2 (by kernel_rfl) ?_
            refine anyK_one 2 (o := ?oo118) ?ho118 ?hk118
            case ho118 => (simp only [List.getElem?_toArray, List.getElem?_cons_succ, List.getElem?_cons_zero]; rfl)
            case hk118 =>
            intro K hK
            go_simp
            refine (HPO.out _ (ext_trans XU.out yy)).mono ?_
            rintro e wv ⟨v7, rfl, p7, xx⟩
            try go_wp2_with fail
            replace yy := ext_trans yy xx
            have HP7 := hide p7
            clear p7
            have hT1 := keepK.out _ yy
            refine hK.out _ _ hT1 (fun _ => trivial) ?_
            clear hK K
            try simp only [Act.put, List.setIfInBounds_toArray, List.set_cons_zero, List.set_cons_succ]
            refine anyK_on1 3 (by kernel_rfl) ?_
            refine anyK_one 3 (o := ?oo119) ?ho119 ?hk119
            case ho119 => (simp only [List.getElem?_toArray, List.getElem?_cons_succ, List.getElem?_cons_zero]; rfl)
            case hk119 =>
            intro K hK
            go_simp
            refine (HAL.out _ _ (ext_trans XU.out yy) HP7.out.at_).mono ?_
            rintro e ww ⟨v8, rfl, own8, xx⟩
            try go_wp2_with fail
            replace yy := ext_trans yy xx
            replace own8 := own8.at_
            have HL8 := hide own8
            clear own8
            have hT2 := keepK.out _ yy
            refine hK.out _ _ hT2 (fun _ => trivial) ?_
            clear hK K
            try simp only [Act.put, List.setIfInBounds_toArray, List.set_cons_zero, List.set_cons_succ]
            refine anyK_take 4 (oi := ?oo120) ?ho120 (by kernel_rfl) (by kernel_rfl) (by kernel_rfl) (by kernel_rfl) ?hq120 ?hw120 hT2 (fun _ => trivial) (v := ?vv120) ?hy120 ?hk120
            case ho120 => (simp only [List.getElem?_toArray, List.getElem?_cons_succ, List.getElem?_cons_zero]; rfl)
            case hq120 => exact fun _ _ _ h => h
            case hw120 => rfl
            case hy120 =>
              intro W hW
              go_simp
              first | done | with_reducible rfl
            case hk120 =>
            try simp only [Act.put, List.setIfInBounds_toArray, List.set_cons_zero, List.set_cons_succ]
            refine anyK_take 5 (oi := ?oo121) ?ho121 (by kernel_rfl) (by kernel_rfl) (by kernel_rfl) (by kernel_rfl) ?hq121 ?hw121 hT2 (fun _ => trivial) (v := ?vv121) ?hy121 ?hk121
            case ho121 => (simp only [List.getElem?_toArray, List.getElem?_cons_succ, List.getElem?_cons_zero]; rfl)
            case hq121 => exact fun _ _ _ h => h
            case hw121 => rfl
            case hy121 =>
              intro W hW
              go_simp
              first | done | with_reducible rfl
            case hk121 =>
            try simp only [Act.put, List.setIfInBounds_toArray, List.set_cons_zero, List.set_cons_succ]
            refine anyK_take 6 (oi := ?oo122) ?ho122 (by kernel_rfl) (by kernel_rfl) (by kernel_rfl) (by kernel_rfl) ?hq122 ?hw122 hT2 (fun _ => trivial) (v := ?vv122) ?hy122 ?hk122
            case ho122 => (simp only [List.getElem?_toArray, List.getElem?_cons_succ, List.getElem?_cons_zero]; rfl)
            case hq122 => exact fun _ _ _ h => h
            case hw122 => rfl
            case hy122 =>
              intro W hW
              go_simp
              first | done | with_reducible rfl
            case hk122 =>
            try simp only [Act.put, List.setIfInBounds_toArray, List.set_cons_zero, List.set_cons_succ]
            refine anyK_take 7 (oi := ?oo123) ?ho123 (by kernel_rfl) (by kernel_rfl) (by kernel_rfl) (by kernel_rfl) ?hq123 ?hw123 hT2 (fun _ => trivial) (v := ?vv123) ?hy123 ?hk123
            case ho123 => (simp only [List.getElem?_toArray, List.getElem?_cons_succ, List.getElem?_cons_zero]; rfl)
            case hq123 => exact fun _ _ _ h => h
            case hw123 => rfl
            case hy123 =>
              intro W hW
              go_simp
              first | done | with_reducible rfl
            case hk123 =>
            try simp only [Act.put, List.setIfInBounds_toArray, List.set_cons_zero, List.set_cons_succ]
            refine anyK_take 8 (oi := ?oo124) ?ho124 (by kernel_rfl) (by kernel_rfl) (by kernel_rfl) (by kernel_rfl) ?hq124 ?hw124 hT2 (fun _ => trivial) (v := ?vv124) ?hy124 ?hk124
            case ho124 => (simp only [List.getElem?_toArray, List.getElem?_cons_succ, List.getElem?_cons_zero]; rfl)
            case hq124 => exact fun _ _ _ h => h
            case hw124 => rfl
            case hy124 =>
              intro W hW
              go_simp
              first | done | with_reducible rfl
            case hk124 =>
            try simp only [Act.put, List.setIfInBounds_toArray, List.set_cons_zero, List.set_cons_succ]
            refine anyK_done (by kernel_rfl) ?_ _
            clear keepK hT0 hT1 hT2
            have X9 := hide (ext_trans XU.out yy)
            clear yy xx HP7
            have HSM := hide (fun W (h : MovesAt W v8 L) => some_move L pick v8 W h HLL.out (HLI.out (by first | rfl | trivial)))
            go_wp2_with fail
            refine (HSM.out _ HL8.out).mono ?_
            rintro e wy ⟨m, hm, rfl, xy⟩
            have HPY2 := hide (HPY.out m (by first | rfl | trivial) hm _ (ext_trans X9.out xy))
            have HSN2 := hide (HSN.out m (by first | rfl | trivial) hm)
            clear hm xy
            go_wp2_with fail
            refine HPY2.out.mono ?_
            rintro e wz ⟨rfl, hG2⟩
            have HG2 := hide hG2
            clear hG2
            go_wp2
            go_roundw
            case rel => exact ⟨k + 1, _, _, by omega, by go_num, HG2.out, hide ⟨HSN2.out, by have := HLN.out; simp; omega⟩⟩
            case measure => simp [intOf]; omega
      · have t0 : (x == 0) = false := by simpa using hx
        obtain rfl : G = x := by rw [HRG.out, if_neg (fun h => hx h.1)]
        have tg : (G != 0) = true := by simpa using hx
        clear hx HRG
        have keepK := hide (fun W (h : Ext ws W) => (show (fun W => W.cell? ⟨BR, 10, none⟩ = some (.int .i64 R.rept) ∧ Ext ws W) W from ⟨(KRs.out.ext h).cell 10, h⟩))
        have yy : Ext ws ws.drew := Below.drew (Below.refl _ _)
        refine region_K (fun W => W.cell? ⟨BR, 10, none⟩ = some (.int .i64 R.rept) ∧ Ext ws W) (fun _ => True) [] (by kernel_rfl) ?_
        have hT0 := keepK.out _ yy
        refine anyK_take 0 (oi := ?oo84) ?ho84 (by kernel_rfl) (by kernel_rfl) (by kernel_rfl) (by kernel_rfl) ?hq84 ?hw84 hT0 (fun _ => trivial) (v := ?vv84) ?hy84 ?hk84
        case ho84 => (simp only [List.getElem?_toArray, List.getElem?_cons_succ, List.getElem?_cons_zero]; rfl)
        case hq84 => exact fun _ _ _ h => h
        case hw84 => rfl
        case hy84 =>
          intro W hW
          go_simp
          first | done | with_reducible rfl
        case hk84 =>
        try simp only [Act.put, List.setIfInBounds_toArray, List.set_cons_zero, List.set_cons_succ]
        refine anyK_take 1 (oi := ?oo85) ?ho85 (by kernel_rfl) (by kernel_rfl) (by kernel_rfl) (by kernel_rfl) ?hq85 ?hw85 hT0 (fun _ => trivial) (v := ?vv85) ?hy85 ?hk85
        case ho85 => (simp only [List.getElem?_toArray, List.getElem?_cons_succ, List.getElem?_cons_zero]; rfl)
        case hq85 => exact fun _ _ _ h => h
        case hw85 => rfl
        case hy85 =>
          intro W hW
          go_simp
          first | done | with_reducible rfl
        case hk85 =>
        try simp only [Act.put, List.setIfInBounds_toArray, List.set_cons_zero, List.set_cons_succ]
        refine anyK_take 2 (oi := ?oo86) ?ho86 (by kernel_rfl) (by kernel_rfl) (by kernel_rfl) (by kernel_rfl) ?hq86 ?hw86 hT0 (fun _ => trivial) (v := ?vv86) ?hy86 ?hk86
        case ho86 => (simp only [List.getElem?_toArray, List.getElem?_cons_succ, List.getElem?_cons_zero]; rfl)
        case hq86 => exact fun _ _ _ h => h
        case hw86 => rfl
        case hy86 =>
          intro W hW
          go_simp
          first | done | with_reducible rfl
        case hk86 =>
        try simp only [Act.put, List.setIfInBounds_toArray, List.set_cons_zero, List.set_cons_succ]
        refine anyK_skip 3 (oi := ?oo87) ?ho87 (by kernel_rfl) (by kernel_rfl) (by kernel_rfl) (by kernel_rfl) ?hq87 ?hw87 hT0 (fun _ => trivial) ?hk87
        case ho87 => (simp only [List.getElem?_toArray, List.getElem?_cons_succ, List.getElem?_cons_zero]; rfl)
        case hq87 => exact fun _ _ _ h => h
        case hw87 => rfl
        case hk87 =>
        try simp only [Act.put, List.setIfInBounds_toArray, List.set_cons_zero, List.set_cons_succ]
        refine anyK_skip 4 (oi := ?oo88) ?ho88 (by kernel_rfl) (by kernel_rfl) (by kernel_rfl) (by kernel_rfl) ?hq88 ?hw88 hT0 (fun _ => trivial) ?hk88
        case ho88 => (simp only [List.getElem?_toArray, List.getElem?_cons_succ, List.getElem?_cons_zero]; rfl)
        case hq88 => exact fun _ _ _ h => h
        case hw88 => rfl
        case hk88 =>
        try simp only [Act.put, List.setIfInBounds_toArray, List.set_cons_zero, List.set_cons_succ]
        refine anyK_skip 5 (oi := ?oo89) ?ho89 (by kernel_rfl) (by kernel_rfl) (by kernel_rfl) (by kernel_rfl) ?hq89 ?hw89 hT0 (fun _ => trivial) ?hk89
        case ho89 => (simp only [List.getElem?_toArray, List.getElem?_cons_succ, List.getElem?_cons_zero]; rfl)
        case hq89 => exact fun _ _ _ h => h
        case hw89 => rfl
        case hk89 =>
        try simp only [Act.put, List.setIfInBounds_toArray, List.set_cons_zero, List.set_cons_succ]
        refine anyK_take 6 (oi := ?oo90) ?ho90 (by kernel_rfl) (by kernel_rfl) (by kernel_rfl) (by kernel_rfl) ?hq90 ?hw90 hT0 (fun _ => trivial) (v := ?vv90) ?hy90 ?hk90
        case ho90 => (simp only [List.getElem?_toArray, List.getElem?_cons_succ, List.getElem?_cons_zero]; rfl)
        case hq90 => exact fun _ _ _ h => h
        case hw90 => rfl
        case hy90 =>
          intro W hW
          go_simp
          first | done | with_reducible rfl
        case hk90 =>
        try simp only [Act.put, List.setIfInBounds_toArray, List.set_cons_zero, List.set_cons_succ]
        refine anyK_take 7 (oi := ?oo91) ?ho91 (by kernel_rfl) (by kernel_rfl) (by kernel_rfl) (by kernel_rfl) ?hq91 ?hw91 hT0 (fun _ => trivial) (v := ?vv91) ?hy91 ?hk91
        case ho91 => (simp only [List.getElem?_toArray, List.getElem?_cons_succ, List.getElem?_cons_zero]; rfl)
        case hq91 => exact fun _ _ _ h => h
        case hw91 => rfl
        case hy91 =>
          intro W hW
          go_simp
          first | done | with_reducible rfl
        case hk91 =>
        try simp only [Act.put, List.setIfInBounds_toArray, List.set_cons_zero, List.set_cons_succ]
        refine anyK_skip 8 (oi := ?oo92) ?ho92 (by kernel_rfl) (by kernel_rfl) (by kernel_rfl) (by kernel_rfl) ?hq92 ?hw92 hT0 (fun _ => trivial) ?hk92
        case ho92 => (simp only [List.getElem?_toArray, List.getElem?_cons_succ, List.getElem?_cons_zero]; rfl)
        case hq92 => exact fun _ _ _ h => h
        case hw92 => rfl
        case hk92 =>
        try simp only [Act.put, List.setIfInBounds_toArray, List.set_cons_zero, List.set_cons_succ]
        refine anyK_skip 9 (oi := ?oo93) ?ho93 (by kernel_rfl) (by kernel_rfl) (by kernel_rfl) (by kernel_rfl) ?hq93 ?hw93 hT0 (fun _ => trivial) ?hk93
        case ho93 => (simp only [List.getElem?_toArray, List.getElem?_cons_succ, List.getElem?_cons_zero]; rfl)
        case hq93 => exact fun _ _ _ h => h
        case hw93 => rfl
        case hk93 =>
        try simp only [Act.put, List.setIfInBounds_toArray, List.set_cons_zero, List.set_cons_succ]
        refine anyK_skip 10 (oi := ?oo94) ?ho94 (by kernel_rfl) (by kernel_rfl) (by kernel_rfl) (by kernel_rfl) ?hq94 ?hw94 hT0 (fun _ => trivial) ?hk94
        case ho94 => (simp only [List.getElem?_toArray, List.getElem?_cons_succ, List.getElem?_cons_zero]; rfl)
        case hq94 => exact fun _ _ _ h => h
        case hw94 => rfl
        case hk94 =>
        try simp only [Act.put, List.setIfInBounds_toArray, List.set_cons_zero, List.set_cons_succ]
        refine anyK_skip 11 (oi := ?oo95) ?ho95 (by kernel_rfl) (by kernel_rfl) (by kernel_rfl) (by kernel_rfl) ?hq95 ?hw95 hT0 (fun _ => trivial) ?hk95
        case ho95 => (simp only [List.getElem?_toArray, List.getElem?_cons_succ, List.getElem?_cons_zero]; rfl)
        case hq95 => exact fun _ _ _ h => h
        case hw95 => rfl
        case hk95 =>
        try simp only [Act.put, List.setIfInBounds_toArray, List.set_cons_zero, List.set_cons_succ]
        refine anyK_skip 12 (oi := ?oo96) ?ho96 (by kernel_rfl) (by kernel_rfl) (by kernel_rfl) (by kernel_rfl) ?hq96 ?hw96 hT0 (fun _ => trivial) ?hk96
        case ho96 => (simp only [List.getElem?_toArray, List.getElem?_cons_succ, List.getElem?_cons_zero]; rfl)
        case hq96 => exact fun _ _ _ h => h
        case hw96 => rfl
        case hk96 =>
        try simp only [Act.put, List.setIfInBounds_toArray, List.set_cons_zero, List.set_cons_succ]
        refine anyK_take 13 (oi := ?oo97) ?ho97 (by kernel_rfl) (by kernel_rfl) (by kernel_rfl) (by kernel_rfl) ?hq97 ?hw97 hT0 (fun _ => trivial) (v := ?vv97) ?hy97 ?hk97
        case ho97 => (simp only [List.getElem?_toArray, List.getElem?_cons_succ, List.getElem?_cons_zero]; rfl)
        case hq97 => exact fun _ _ _ h => h
        case hw97 => rfl
        case hy97 =>
          intro W hW
          go_simp
          first | done | with_reducible rfl
        case hk97 =>
        try simp only [Act.put, List.setIfInBounds_toArray, List.set_cons_zero, List.set_cons_succ]
        refine anyK_done (by kernel_rfl) ?_ _
        clear keepK hT0
        have XT := hide (ext_trans XS.out yy)
        clear yy
        go_wp2_with fail
        refine (HRE.out _ XT.out).mono ?_
        rintro e w5 ⟨rfl, x5⟩
        have X5 := hide (ext_trans XT.out x5)
        clear x5
        go_wp2_with fail
        refine (HCT.out _ X5.out).mono ?_
        rintro e w6 ⟨rfl, x6⟩
        have X6 := hide (ext_trans X5.out x6)
        clear x6
        have tc1 : decide ((ct : Int) < 1) = false := by simp; omega
        go_wp2_with fail
        refine (HCT.out _ X6.out).mono ?_
        rintro e w7 ⟨rfl, x7⟩
        have X7 := hide (ext_trans X6.out x7)
        clear x7
        go_wp2_with fail
        refine (HMV.out _ X7.out).mono ?_
        rintro e w8 ⟨v9, rfl, o8, x8⟩
        obtain ⟨A8, c8, rfl, -⟩ := o8
        have XU := hide (ext_trans X7.out x8)
        clear x8
        have hwm : IntKind.i64.wrap ((ms.length : Int) + 1) = (ms.length : Int) + 1 := by rw [IntKind.wrap_i64]; omega
        have tc2 : decide ((ms.length : Int) + 1 < (ct : Int)) = false := by simp; omega
        have KRu := hide (KRr.out.ext XU.out)
        generalize hwu : w8 = wu at *
        clear hwu
        go_upto_region 18 with fail
        clear tc1 tc2
        have keepK := hide (fun W (h : Ext wu W) => (show (fun W => W.cell? ⟨BR, 0, none⟩ = some (.string R.name) ∧ W.cell? ⟨BR, 1, none⟩ = some (.int .i64 R.width) ∧ W.cell? ⟨BR, 2, none⟩ = some (.int .i64 R.height) ∧ W.cell? ⟨BR, 3, none⟩ = some (.slice pA R.pieces.length pc) ∧ W.cell? ⟨BR, 4, none⟩ = some (.slice sA R.start.length sc) ∧ W.cell? ⟨BR, 5, none⟩ = some (.bool R.falls) ∧ W.cell? ⟨BR, 6, none⟩ = some (.bool R.keeps) ∧ W.cell? ⟨BR, 7, none⟩ = some (.slice eA R.ends.length ec) ∧ W.cell? ⟨BR, 8, none⟩ = some (.int .i64 R.blocked) ∧ W.cell? ⟨BR, 9, none⟩ = some (.int .i64 R.quiet) ∧ W.cell? ⟨BR, 10, none⟩ = some (.int .i64 R.rept) ∧ Ext wu W) W from ⟨(KRu.out.ext h).cell 0, (KRu.out.ext h).cell 1, (KRu.out.ext h).cell 2, (KRu.out.ext h).cell 3, (KRu.out.ext h).cell 4, (KRu.out.ext h).cell 5, (KRu.out.ext h).cell 6, (KRu.out.ext h).cell 7, (KRu.out.ext h).cell 8, (KRu.out.ext h).cell 9, (KRu.out.ext h).cell 10, h⟩))
        have yy : Ext wu wu.drew := Below.drew (Below.refl _ _)
        refine region_K (fun W => W.cell? ⟨BR, 0, none⟩ = some (.string R.name) ∧ W.cell? ⟨BR, 1, none⟩ = some (.int .i64 R.width) ∧ W.cell? ⟨BR, 2, none⟩ = some (.int .i64 R.height) ∧ W.cell? ⟨BR, 3, none⟩ = some (.slice pA R.pieces.length pc) ∧ W.cell? ⟨BR, 4, none⟩ = some (.slice sA R.start.length sc) ∧ W.cell? ⟨BR, 5, none⟩ = some (.bool R.falls) ∧ W.cell? ⟨BR, 6, none⟩ = some (.bool R.keeps) ∧ W.cell? ⟨BR, 7, none⟩ = some (.slice eA R.ends.length ec) ∧ W.cell? ⟨BR, 8, none⟩ = some (.int .i64 R.blocked) ∧ W.cell? ⟨BR, 9, none⟩ = some (.int .i64 R.quiet) ∧ W.cell? ⟨BR, 10, none⟩ = some (.int .i64 R.rept) ∧ Ext wu W) (fun _ => True) [] (by kernel_rfl) ?_
        have hT0 := keepK.out _ yy
        refine anyK_take 0 (oi := ?oo125) ?ho125 (by kernel_rfl) (by kernel_rfl) (by kernel_rfl) (by kernel_rfl) ?hq125 ?hw125 hT0 (fun _ => trivial) (v := ?vv125) ?hy125 ?hk125
        case ho125 => (simp only [List.getElem?_toArray, List.getElem?_cons_succ, List.getElem?_cons_zero]; rfl)
        case hq125 => exact fun _ _ _ h => h
        case hw125 => rfl
        case hy125 =>
          intro W hW
          obtain ⟨z0, z1, z2, z3, z4, z5, z6, z7, z8, z9, z10, z11⟩ := hW
          go_simp
          first | done | with_reducible rfl
        case hk125 =>
        try simp only [Act.put, List.setIfInBounds_toArray, List.set_cons_zero, List.set_cons_succ]
        refine anyK_take 1 (oi := ?oo126) ?ho126 (by kernel_rfl) (by kernel_rfl) (by kernel_rfl) (by kernel_rfl) ?hq126 ?hw126 hT0 (fun _ => trivial) (v := ?vv126) ?hy126 ?hk126
        case ho126 => (simp only [List.getElem?_toArray, List.getElem?_cons_succ, List.getElem?_cons_zero]; rfl)
        case hq126 => exact fun _ _ _ h => h
        case hw126 => rfl
        case hy126 =>
          intro W hW
          go_simp
          first | done | with_reducible rfl
        case hk126 =>
        try simp only [Act.put, List.setIfInBounds_toArray, List.set_cons_zero, List.set_cons_succ]
        refine anyK_on1 2 (by kernel_rfl) ?_
        refine anyK_one 2 (o := ?oo127) ?ho127 ?hk127
        case ho127 => (simp only [List.getElem?_toArray, List.getElem?_cons_succ, List.getElem?_cons_zero]; rfl)
        case hk127 =>
        intro K hK
        go_simp
        refine (HPO.out _ (ext_trans XU.out yy)).mono ?_
        rintro e wv ⟨v7, rfl, p7, xx⟩
        try go_wp2_with fail
        replace yy := ext_trans yy xx
        have HP7 := hide p7
        clear p7
        have hT1 := keepK.out _ yy
        refine hK.out _ _ hT1 (fun _ => trivial) ?_
        clear hK K
        try simp only [Act.put, List.setIfInBounds_toArray, List.set_cons_zero, List.set_cons_succ]
        refine anyK_on1 3 (by kernel_rfl) ?_
        refine anyK_one 3 (o := ?oo128) ?ho128 ?hk128
        case ho128 => (simp only [List.getElem?_toArray, List.getElem?_cons_succ, List.getElem?_cons_zero]; rfl)
        case hk128 =>
        intro K hK
        go_simp
        refine (HAL.out _ _ (ext_trans XU.out yy) HP7.out.at_).mono ?_
        rintro e ww ⟨v8, rfl, own8, xx⟩
        try go_wp2_with fail
        replace yy := ext_trans yy xx
        replace own8 := own8.at_
        have HL8 := hide own8
        clear own8
        have hT2 := keepK.out _ yy
        refine hK.out _ _ hT2 (fun _ => trivial) ?_
        clear hK K
        try simp only [Act.put, List.setIfInBounds_toArray, List.set_cons_zero, List.set_cons_succ]
        refine anyK_take 4 (oi := ?oo129) ?ho129 (by kernel_rfl) (by kernel_rfl) (by kernel_rfl) (by kernel_rfl) ?hq129 ?hw129 hT2 (fun _ => trivial) (v := ?vv129) ?hy129 ?hk129
        case ho129 => (simp only [List.getElem?_toArray, List.getElem?_cons_succ, List.getElem?_cons_zero]; rfl)
        case hq129 => exact fun _ _ _ h => h
        case hw129 => rfl
        case hy129 =>
          intro W hW
          go_simp
          first | done | with_reducible rfl
        case hk129 =>
        try simp only [Act.put, List.setIfInBounds_toArray, List.set_cons_zero, List.set_cons_succ]
        refine anyK_take 5 (oi := ?oo130) ?ho130 (by kernel_rfl) (by kernel_rfl) (by kernel_rfl) (by kernel_rfl) ?hq130 ?hw130 hT2 (fun _ => trivial) (v := ?vv130) ?hy130 ?hk130
        case ho130 => (simp only [List.getElem?_toArray, List.getElem?_cons_succ, List.getElem?_cons_zero]; rfl)
        case hq130 => exact fun _ _ _ h => h
        case hw130 => rfl
        case hy130 =>
          intro W hW
          go_simp
          first | done | with_reducible rfl
        case hk130 =>
        try simp only [Act.put, List.setIfInBounds_toArray, List.set_cons_zero, List.set_cons_succ]
        refine anyK_take 6 (oi := ?oo131) ?ho131 (by kernel_rfl) (by kernel_rfl) (by kernel_rfl) (by kernel_rfl) ?hq131 ?hw131 hT2 (fun _ => trivial) (v := ?vv131) ?hy131 ?hk131
        case ho131 => (simp only [List.getElem?_toArray, List.getElem?_cons_succ, List.getElem?_cons_zero]; rfl)
        case hq131 => exact fun _ _ _ h => h
        case hw131 => rfl
        case hy131 =>
          intro W hW
          go_simp
          first | done | with_reducible rfl
        case hk131 =>
        try simp only [Act.put, List.setIfInBounds_toArray, List.set_cons_zero, List.set_cons_succ]
        refine anyK_take 7 (oi := ?oo132) ?ho132 (by kernel_rfl) (by kernel_rfl) (by kernel_rfl) (by kernel_rfl) ?hq132 ?hw132 hT2 (fun _ => trivial) (v := ?vv132) ?hy132 ?hk132
        case ho132 => (simp only [List.getElem?_toArray, List.getElem?_cons_succ, List.getElem?_cons_zero]; rfl)
        case hq132 => exact fun _ _ _ h => h
        case hw132 => rfl
        case hy132 =>
          intro W hW
          go_simp
          first | done | with_reducible rfl
        case hk132 =>
        try simp only [Act.put, List.setIfInBounds_toArray, List.set_cons_zero, List.set_cons_succ]
        refine anyK_take 8 (oi := ?oo133) ?ho133 (by kernel_rfl) (by kernel_rfl) (by kernel_rfl) (by kernel_rfl) ?hq133 ?hw133 hT2 (fun _ => trivial) (v := ?vv133) ?hy133 ?hk133
        case ho133 => (simp only [List.getElem?_toArray, List.getElem?_cons_succ, List.getElem?_cons_zero]; rfl)
        case hq133 => exact fun _ _ _ h => h
        case hw133 => rfl
        case hy133 =>
          intro W hW
          go_simp
          first | done | with_reducible rfl
        case hk133 =>
        try simp only [Act.put, List.setIfInBounds_toArray, List.set_cons_zero, List.set_cons_succ]
        refine anyK_done (by kernel_rfl) ?_ _
        clear keepK hT0 hT1 hT2
        have X9 := hide (ext_trans XU.out yy)
        clear yy xx HP7
        go_wp2
        go_ret
        exact ⟨rfl, ext_trans XB.out (ext_trans HXW.out X9.out)⟩
    · obtain rfl : k = qn := by omega
      have XR := hide hG.old
      clear hG
      go_wp2
      go_ret
      exact ⟨rfl, ext_trans XB.out XR.out⟩
theorem plainRepeats_law (v : Value) (R : RulesM) (A : Option Addr) (n c : Nat) (z : List Int) (w : World) (hR : RulesAt w v R) (hr : IsRow w A n c z) :
    Calls Try.prog 13 #[v, .slice A n c] w fun e w' => e = .returned (.bool true) ∧ Ext w w' := by
  by_cases he : rulesE R = 0
  · have hV := valid_of he
    obtain ⟨h1, h2, h3, h4⟩ := hr.ints
    rcases hr with ⟨rfl, rfl, rfl, rfl⟩ | ⟨x, rfl, a1, a2, a3, a4, a5⟩
    · exact plainRepeats_nil v R _ _ _ [] w hR hV rfl rfl rfl
    · by_cases h0 : c = 0
      · exact plainRepeats_zero v R _ n c z w hR hV x rfl (by omega) h0
      · have hx := spot_none (a4 0 (by omega))
        rw [show x.add 0 = x from rfl] at hx
        exact plainRepeats_go v R _ n c z w hR hV _ _ (by rw [← hx]) a1 h1 h2 a2
  · exact plainRepeats_bad v R A n c z w hR he

end Go.Proofs.Ytmofipijjokjfaa
