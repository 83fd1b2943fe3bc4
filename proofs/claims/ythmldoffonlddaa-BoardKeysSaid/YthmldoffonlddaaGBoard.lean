/- A board in memory; walk: (*board.Board).now. Walks: (*board.Board).Result, Moves, Key, Turn, Undo. Walks: (*board.Board).Do; board.New. -/
import Derived.Test.YthmldoffonlddaaGRowP
import Derived.Test.YthmldoffonlddaaGAfter
import Derived.Test.YthmldoffonlddaaGZob
import Derived.Test.YthmldoffonlddaaGPerft
namespace Go.Proofs.Ythmldoffonlddaa
open Go.ChangeShapes Go.WideShapes Go.ChangeAt Go.RowKit Go.Shelf
set_option linter.unusedVariables false
set_option linter.unusedSimpArgs false
/-- The types of blocks that a board changes. -/
def tsB : List TypeId := [29, 100]
theorem int_tsB : 3 ∉ tsB := by decide
theorem rules_tsB : rulesT tsB := ⟨by decide, by decide, by decide, by decide⟩
/-- A board at block BG, all of it newer than world w0. -/
def BoardAt (w0 W : World) (BG : Nat) (R : RulesM) (ps : List PosM) : Prop :=
  ∃ pA pc sA sc eA ec base l, Blk W BG 100 #[.string R.name, .int .i64 R.width, .int .i64 R.height, .slice pA R.pieces.length pc, .slice sA R.start.length sc, .bool R.falls, .bool R.keeps, .slice eA R.ends.length ec, .int .i64 R.blocked, .int .i64 R.quiet, .int .i64 R.rept, l] ∧ RulesOwn W base (.agg #[.string R.name, .int .i64 R.width, .int .i64 R.height, .slice pA R.pieces.length pc, .slice sA R.start.length sc, .bool R.falls, .bool R.keeps, .slice eA R.ends.length ec, .int .i64 R.blocked, .int .i64 R.quiet, .int .i64 R.rept]) R ∧ OwnP w0 W l ps ∧ w0.heap.size ≤ BG ∧ Ext w0 W
theorem BoardAt.ext {w0 w W : World} {BG : Nat} {R : RulesM} {ps : List PosM} (h : BoardAt w0 w BG R ps) (x : Ext w W) : BoardAt w0 W BG R ps := by
  obtain ⟨pA, pc, sA, sc, eA, ec, base, l, h1, h2, h3, h5, h6⟩ := h
  exact ⟨pA, pc, sA, sc, eA, ec, base, l, h1.ext x, h2.ext x, h3.ext x, h5, ext_trans h6 x⟩
theorem BoardAt.old {w0 w : World} {BG : Nat} {R : RulesM} {ps : List PosM} (h : BoardAt w0 w BG R ps) : Ext w0 w := by
  obtain ⟨pA, pc, sA, sc, eA, ec, base, l, h1, h2, h3, h5, h6⟩ := h
  exact h6
set_option maxHeartbeats 2000000 in
set_option maxRecDepth 100000 in
theorem bnow_any {w0 W : World} {BG : Nat} {R : RulesM} {ps : List PosM} (hG : BoardAt w0 W BG R ps) (hl : ps.length ≤ 1000000) {P : PosM} (hP : ps.getLast? = some P) :
    Calls Try.prog 61 #[.pointer (some ⟨BG, 0, none⟩)] W (NowPost W P) := by
  obtain ⟨pA, pc, sA, sc, eA, ec, base, l, h1, -, h3, -, -⟩ := hG
  have hpos : 1 ≤ ps.length := by
    rcases ps with _ | ⟨x, l⟩
    · simp at hP
    · simp
  obtain ⟨k, hk⟩ : ∃ k, k + 1 = ps.length := ⟨ps.length - 1, by omega⟩
  have hk' : ps[k]? = some P := by
    rw [List.getLast?_eq_getElem?] at hP
    rw [← hP]; congr 1; omega
  obtain ⟨g, cap, c0, c1, c2, c3, c4, rfl, hp, q0, q1, q2, q3, q4⟩ := pos_get h3 hk'
  have HP0 := hide hp
  obtain ⟨g0, d0, g1, d1, g2, d2, e, -⟩ := hp
  simp only [Value.agg.injEq, Array.mk.injEq, List.cons.injEq, and_true] at e
  obtain ⟨rfl, rfl, rfl, rfl, rfl⟩ := e
  obtain ⟨xa, kO⟩ := blks1 W #[.slice none 0 0, .slice none 0 0, .slice none 0 0, .int .i64 0, .int .i64 0] 29
  have KO := hide kO
  have X1 := hide xa
  have f := (h1.ext xa).cell
  replace q0 := xa.cell q0
  replace q1 := xa.cell q1
  replace q2 := xa.cell q2
  replace q3 := xa.cell q3
  replace q4 := xa.cell q4
  have hw : IntKind.i64.wrap ((ps.length : Int) - 1) = (k : Int) := by rw [IntKind.wrap_i64]; omega
  have i0 : (0 : Int) ≤ (k : Int) := by omega
  have i1 : (k : Int) < (ps.length : Int) := by omega
  have hkl : k < ps.length := by omega
  have HLT := hide (Nat.le_refl W.heap.size)
  clear h1 h3 hk' hP hpos kO xa
  go_enter Try.func61, Try.ntmps61
  go_upto_region 1 with fail
  generalize W.alloc (.cells #[.slice none 0 0, .slice none 0 0, .slice none 0 0, .int .i64 0, .int .i64 0] 29) = w1 at *
  generalize hBO : W.heap.size = BO at *
  have HBO := hide hBO
  clear hBO
  have gz := KO.out.frozen
  have gc := KO.out.cell
  go_still_tail 12, (by kernel_rfl)
  go_wp2
  have K9 := Blk.drew (blk_put (i := 4) (u := .int .i64 P.quiet) (blk_put (i := 3) (u := .int .i64 P.turn) (blk_put (i := 2) (u := .slice (some ⟨g2, 0, none⟩) P.hand1.length d2) (blk_put (i := 1) (u := .slice (some ⟨g1, 0, none⟩) P.hand0.length d1) (blk_put (i := 0) (u := .slice (some ⟨g0, 0, none⟩) P.cells.length d0) KO.out rfl) rfl) rfl) rfl) (cs' := #[.slice (some ⟨g0, 0, none⟩) P.cells.length d0, .slice (some ⟨g1, 0, none⟩) P.hand0.length d1, .slice (some ⟨g2, 0, none⟩) P.hand1.length d2, .int .i64 P.turn, .int .i64 P.quiet]) rfl)
  have X9 := Below.drew ((ext_set (ext_set (ext_set (ext_set (ext_set X1.out (p := ⟨BO, 0, none⟩) (Nat.le_of_eq HBO.out) (.slice (some ⟨g0, 0, none⟩) P.cells.length d0)) (p := ⟨BO, 1, none⟩) (Nat.le_of_eq HBO.out) (.slice (some ⟨g1, 0, none⟩) P.hand0.length d1)) (p := ⟨BO, 2, none⟩) (Nat.le_of_eq HBO.out) (.slice (some ⟨g2, 0, none⟩) P.hand1.length d2)) (p := ⟨BO, 3, none⟩) (Nat.le_of_eq HBO.out) (.int .i64 P.turn)) (p := ⟨BO, 4, none⟩) (Nat.le_of_eq HBO.out) (.int .i64 P.quiet)))
  generalize (((((w1.setCell ⟨BO, 0, none⟩ (.slice (some ⟨g0, 0, none⟩) P.cells.length d0)).setCell ⟨BO, 1, none⟩ (.slice (some ⟨g1, 0, none⟩) P.hand0.length d1)).setCell ⟨BO, 2, none⟩ (.slice (some ⟨g2, 0, none⟩) P.hand1.length d2)).setCell ⟨BO, 3, none⟩ (.int .i64 P.turn)).setCell ⟨BO, 4, none⟩ (.int .i64 P.quiet)).drew = Wf at *
  clear gz gc
  have rr0 : Wf.cell? ⟨BO, 0, none⟩ = some (.slice (some ⟨g0, 0, none⟩) P.cells.length d0) := K9.cell 0
  have rr1 : Wf.cell? ⟨BO, 1, none⟩ = some (.slice (some ⟨g1, 0, none⟩) P.hand0.length d1) := K9.cell 1
  have rr2 : Wf.cell? ⟨BO, 2, none⟩ = some (.slice (some ⟨g2, 0, none⟩) P.hand1.length d2) := K9.cell 2
  have rr3 : Wf.cell? ⟨BO, 3, none⟩ = some (.int .i64 P.turn) := K9.cell 3
  have rr4 : Wf.cell? ⟨BO, 4, none⟩ = some (.int .i64 P.quiet) := K9.cell 4
  refine bodyPost_ret (v := .agg #[.slice (some ⟨g0, 0, none⟩) P.cells.length d0, .slice (some ⟨g1, 0, none⟩) P.hand0.length d1, .slice (some ⟨g2, 0, none⟩) P.hand1.length d2, .int .i64 P.turn, .int .i64 P.quiet]) ?_ rfl ?_
  · simp [results, Try.results61, go_sem, rr0, rr1, rr2, rr3, rr4]
  · exact ⟨_, rfl, HP0.out.ext X9, X9⟩
set_option maxHeartbeats 2000000 in
set_option maxRecDepth 100000 in
theorem BPosition_any {w0 W : World} {BG : Nat} {R : RulesM} {ps : List PosM} (hG : BoardAt w0 W BG R ps) (hl : ps.length ≤ 1000000) (hF : Fit ps) {P : PosM} (hP : ps.getLast? = some P) :
    Calls Try.prog 23 #[.pointer (some ⟨BG, 0, none⟩)] W (NowPost W P) := by
  have HNW := hide (fun W' (x : Ext W W') => bnow_any (hG.ext x) hl hP)
  obtain ⟨f0, f1, f2, f3, f4, f5⟩ := hF P (last_mem hP)
  have HCP := hide (fun W' (v : Value) (h : PosI W' v P) => PCopy_any P v W' h.at_ f0 f1 f2 f3 f4 f5)
  clear hG hl hF hP f0 f1 f2 f3 f4 f5
  obtain ⟨xa, kO⟩ := blks1 W #[.slice none 0 0, .slice none 0 0, .slice none 0 0, .int .i64 0, .int .i64 0] 29
  have KO := hide kO
  have X1 := hide xa
  have HLT := hide (Nat.le_refl W.heap.size)
  clear kO xa
  go_enter Try.func23, Try.ntmps23
  go_wp2_with fail
  refine (HNW.out _ X1.out).mono ?_
  rintro e w2 ⟨v2, rfl, p2, x2⟩
  have P2 := hide p2
  have X2 := hide (ext_trans X1.out x2)
  have KO2 := hide (KO.out.ext x2)
  clear p2 x2 KO X1 HNW
  generalize hBO : W.heap.size = BO at *
  have HBO := hide hBO
  clear hBO
  go_wp2_with fail
  refine (HCP.out _ _ P2.out).mono ?_
  rintro e w3 ⟨v3, rfl, p3, x3⟩
  have HP0 := hide p3.toI
  have hp := p3.toI
  obtain ⟨g0, d0, g1, d1, g2, d2, rfl, -⟩ := hp
  have X3 := hide (ext_trans X2.out x3)
  have KO3 := hide (KO2.out.ext x3)
  clear p3 x3 KO2 X2 P2 HCP
  have gz := KO3.out.frozen
  have gc := KO3.out.cell
  go_wp2
  have K9 := blk_put (i := 4) (u := .int .i64 P.quiet) (blk_put (i := 3) (u := .int .i64 P.turn) (blk_put (i := 2) (u := .slice (some ⟨g2, 0, none⟩) P.hand1.length d2) (blk_put (i := 1) (u := .slice (some ⟨g1, 0, none⟩) P.hand0.length d1) (blk_put (i := 0) (u := .slice (some ⟨g0, 0, none⟩) P.cells.length d0) KO3.out rfl) rfl) rfl) rfl) (cs' := #[.slice (some ⟨g0, 0, none⟩) P.cells.length d0, .slice (some ⟨g1, 0, none⟩) P.hand0.length d1, .slice (some ⟨g2, 0, none⟩) P.hand1.length d2, .int .i64 P.turn, .int .i64 P.quiet]) rfl
  have X9 := (ext_set (ext_set (ext_set (ext_set (ext_set X3.out (p := ⟨BO, 0, none⟩) (Nat.le_of_eq HBO.out) (.slice (some ⟨g0, 0, none⟩) P.cells.length d0)) (p := ⟨BO, 1, none⟩) (Nat.le_of_eq HBO.out) (.slice (some ⟨g1, 0, none⟩) P.hand0.length d1)) (p := ⟨BO, 2, none⟩) (Nat.le_of_eq HBO.out) (.slice (some ⟨g2, 0, none⟩) P.hand1.length d2)) (p := ⟨BO, 3, none⟩) (Nat.le_of_eq HBO.out) (.int .i64 P.turn)) (p := ⟨BO, 4, none⟩) (Nat.le_of_eq HBO.out) (.int .i64 P.quiet))
  have P9 := PosI.far5 (u0 := .slice (some ⟨g0, 0, none⟩) P.cells.length d0) (u1 := .slice (some ⟨g1, 0, none⟩) P.hand0.length d1) (u2 := .slice (some ⟨g2, 0, none⟩) P.hand1.length d2) (u3 := .int .i64 P.turn) (u4 := .int .i64 P.quiet) HP0.out KO3.out
  generalize (((((w3.setCell ⟨BO, 0, none⟩ (.slice (some ⟨g0, 0, none⟩) P.cells.length d0)).setCell ⟨BO, 1, none⟩ (.slice (some ⟨g1, 0, none⟩) P.hand0.length d1)).setCell ⟨BO, 2, none⟩ (.slice (some ⟨g2, 0, none⟩) P.hand1.length d2)).setCell ⟨BO, 3, none⟩ (.int .i64 P.turn)).setCell ⟨BO, 4, none⟩ (.int .i64 P.quiet)) = Wf at *
  clear gz gc
  have rr0 : Wf.cell? ⟨BO, 0, none⟩ = some (.slice (some ⟨g0, 0, none⟩) P.cells.length d0) := K9.cell 0
  have rr1 : Wf.cell? ⟨BO, 1, none⟩ = some (.slice (some ⟨g1, 0, none⟩) P.hand0.length d1) := K9.cell 1
  have rr2 : Wf.cell? ⟨BO, 2, none⟩ = some (.slice (some ⟨g2, 0, none⟩) P.hand1.length d2) := K9.cell 2
  have rr3 : Wf.cell? ⟨BO, 3, none⟩ = some (.int .i64 P.turn) := K9.cell 3
  have rr4 : Wf.cell? ⟨BO, 4, none⟩ = some (.int .i64 P.quiet) := K9.cell 4
  refine bodyPost_ret (v := .agg #[.slice (some ⟨g0, 0, none⟩) P.cells.length d0, .slice (some ⟨g1, 0, none⟩) P.hand0.length d1, .slice (some ⟨g2, 0, none⟩) P.hand1.length d2, .int .i64 P.turn, .int .i64 P.quiet]) ?_ rfl ?_
  · simp [results, Try.results23, go_sem, rr0, rr1, rr2, rr3, rr4]
  · exact ⟨_, rfl, P9, X9⟩
set_option maxHeartbeats 2000000 in
set_option maxRecDepth 100000 in
theorem BLen_any {w0 wa : World} {BG : Nat} {R : RulesM} {ps : List PosM} (hG : BoardAt w0 wa BG R ps) (hl : ps.length ≤ 1000000) (hl1 : 1 ≤ ps.length) :
    Calls Try.prog 20 #[.pointer (some ⟨BG, 0, none⟩)] wa fun e w' => e = .returned (.int .i64 ((ps.length : Int) - 1)) ∧ Ext wa w' := by
  obtain ⟨pA, pc, sA, sc, eA, ec, base, l, h1, -, h3, -, -⟩ := hG
  obtain ⟨A, c, vss, rfl, -⟩ := h3
  have f := h1.cell
  have hw : IntKind.i64.wrap ((ps.length : Int) - 1) = (ps.length : Int) - 1 := by rw [IntKind.wrap_i64]; omega
  clear h1
  go_enter Try.func20, Try.ntmps20
  go_wp2
  go_ret
  exact ⟨rfl, Below.refl _ _⟩
end Go.Proofs.Ythmldoffonlddaa
namespace Go.Proofs.Ythmldoffonlddaa
open Go.ChangeShapes Go.WideShapes Go.ChangeAt Go.RowKit Go.Shelf
set_option linter.unusedVariables false
set_option linter.unusedSimpArgs false
set_option maxHeartbeats 4000000 in
set_option maxRecDepth 100000 in
theorem BResult_any {w0 wa : World} {BG : Nat} {R : RulesM} {ps : List PosM} (hG : BoardAt w0 wa BG R ps) (hl : ps.length ≤ 1000000) (hV : Valid R) (hS : ∀ Q ∈ ps, Sound R Q) {P : PosM} (hP : ps.getLast? = some P) :
    Calls Try.prog 30 #[.pointer (some ⟨BG, 0, none⟩)] wa fun e w' => e = .returned (.int .i64 (resultM R P)) ∧ Ext wa w' := by
  have HNW := hide (fun W' (x : Ext wa W') => bnow_any (hG.ext x) hl hP)
  have hSP := hS P (last_mem hP)
  obtain ⟨pA, pc, sA, sc, eA, ec, base, l, h1, h2, -, -, -⟩ := hG
  have HRS := hide (fun W' (v : Value) (x : Ext wa W') (h : PosI W' v P) => Result_any R P _ v W' (h2.ext x).at_ h.at_ hV hSP)
  have KG := hide h1
  clear hS hP hl h1 h2 hV hSP
  generalize resultM R P = z at *
  go_enter Try.func30, Try.ntmps30
  go_upto_region 1 with fail
  have keepK := hide (fun W (h : Ext wa W) => (show (fun W => W.cell? ⟨BG, 0, none⟩ = some (.string R.name) ∧ W.cell? ⟨BG, 1, none⟩ = some (.int .i64 R.width) ∧ W.cell? ⟨BG, 2, none⟩ = some (.int .i64 R.height) ∧ W.cell? ⟨BG, 3, none⟩ = some (.slice pA R.pieces.length pc) ∧ W.cell? ⟨BG, 4, none⟩ = some (.slice sA R.start.length sc) ∧ W.cell? ⟨BG, 5, none⟩ = some (.bool R.falls) ∧ W.cell? ⟨BG, 6, none⟩ = some (.bool R.keeps) ∧ W.cell? ⟨BG, 7, none⟩ = some (.slice eA R.ends.length ec) ∧ W.cell? ⟨BG, 8, none⟩ = some (.int .i64 R.blocked) ∧ W.cell? ⟨BG, 9, none⟩ = some (.int .i64 R.quiet) ∧ W.cell? ⟨BG, 10, none⟩ = some (.int .i64 R.rept) ∧ W.cell? ⟨BG, 11, none⟩ = some (l) ∧ Ext wa W) W from ⟨(KG.out.ext h).cell 0, (KG.out.ext h).cell 1, (KG.out.ext h).cell 2, (KG.out.ext h).cell 3, (KG.out.ext h).cell 4, (KG.out.ext h).cell 5, (KG.out.ext h).cell 6, (KG.out.ext h).cell 7, (KG.out.ext h).cell 8, (KG.out.ext h).cell 9, (KG.out.ext h).cell 10, (KG.out.ext h).cell 11, h⟩))
  have yy : Ext wa wa.drew := Below.drew (Below.refl _ _)
  refine region_K (fun W => W.cell? ⟨BG, 0, none⟩ = some (.string R.name) ∧ W.cell? ⟨BG, 1, none⟩ = some (.int .i64 R.width) ∧ W.cell? ⟨BG, 2, none⟩ = some (.int .i64 R.height) ∧ W.cell? ⟨BG, 3, none⟩ = some (.slice pA R.pieces.length pc) ∧ W.cell? ⟨BG, 4, none⟩ = some (.slice sA R.start.length sc) ∧ W.cell? ⟨BG, 5, none⟩ = some (.bool R.falls) ∧ W.cell? ⟨BG, 6, none⟩ = some (.bool R.keeps) ∧ W.cell? ⟨BG, 7, none⟩ = some (.slice eA R.ends.length ec) ∧ W.cell? ⟨BG, 8, none⟩ = some (.int .i64 R.blocked) ∧ W.cell? ⟨BG, 9, none⟩ = some (.int .i64 R.quiet) ∧ W.cell? ⟨BG, 10, none⟩ = some (.int .i64 R.rept) ∧ W.cell? ⟨BG, 11, none⟩ = some (l) ∧ Ext wa W) (fun _ => True) [] (by kernel_rfl) ?_
  have hT0 := keepK.out _ yy
  refine anyK_take 0 (oi := ?oo1) ?ho1 (by kernel_rfl) (by kernel_rfl) (by kernel_rfl) (by kernel_rfl) ?hq1 ?hw1 hT0 (fun _ => trivial) (v := ?vv1) ?hy1 ?hk1
  case ho1 => (simp only [List.getElem?_toArray, List.getElem?_cons_succ, List.getElem?_cons_zero]; rfl)
  case hq1 => exact fun _ _ _ h => h
  case hw1 => rfl
  case hy1 =>
    intro W hW
    go_simp
    first | done | with_reducible rfl
  case hk1 =>
  try simp only [Act.put, List.setIfInBounds_toArray, List.set_cons_zero, List.set_cons_succ]
  refine anyK_take 1 (oi := ?oo2) ?ho2 (by kernel_rfl) (by kernel_rfl) (by kernel_rfl) (by kernel_rfl) ?hq2 ?hw2 hT0 (fun _ => trivial) (v := ?vv2) ?hy2 ?hk2
  case ho2 => (simp only [List.getElem?_toArray, List.getElem?_cons_succ, List.getElem?_cons_zero]; rfl)
  case hq2 => exact fun _ _ _ h => h
  case hw2 => rfl
  case hy2 =>
    intro W hW
    go_simp
    first | done | with_reducible rfl
  case hk2 =>
  try simp only [Act.put, List.setIfInBounds_toArray, List.set_cons_zero, List.set_cons_succ]
  refine anyK_take 2 (oi := ?oo3) ?ho3 (by kernel_rfl) (by kernel_rfl) (by kernel_rfl) (by kernel_rfl) ?hq3 ?hw3 hT0 (fun _ => trivial) (v := ?vv3) ?hy3 ?hk3
  case ho3 => (simp only [List.getElem?_toArray, List.getElem?_cons_succ, List.getElem?_cons_zero]; rfl)
  case hq3 => exact fun _ _ _ h => h
  case hw3 => rfl
  case hy3 =>
    intro W hW
    go_simp
    first | done | with_reducible rfl
  case hk3 =>
  try simp only [Act.put, List.setIfInBounds_toArray, List.set_cons_zero, List.set_cons_succ]
  refine anyK_take 3 (oi := ?oo4) ?ho4 (by kernel_rfl) (by kernel_rfl) (by kernel_rfl) (by kernel_rfl) ?hq4 ?hw4 hT0 (fun _ => trivial) (v := ?vv4) ?hy4 ?hk4
  case ho4 => (simp only [List.getElem?_toArray, List.getElem?_cons_succ, List.getElem?_cons_zero]; rfl)
  case hq4 => exact fun _ _ _ h => h
  case hw4 => rfl
  case hy4 =>
    intro W hW
    obtain ⟨z0, z1, z2, z3, z4, z5, z6, z7, z8, z9, z10, z11, z12⟩ := hW
    go_simp
    first | done | with_reducible rfl
  case hk4 =>
  try simp only [Act.put, List.setIfInBounds_toArray, List.set_cons_zero, List.set_cons_succ]
  refine anyK_take 4 (oi := ?oo5) ?ho5 (by kernel_rfl) (by kernel_rfl) (by kernel_rfl) (by kernel_rfl) ?hq5 ?hw5 hT0 (fun _ => trivial) (v := ?vv5) ?hy5 ?hk5
  case ho5 => (simp only [List.getElem?_toArray, List.getElem?_cons_succ, List.getElem?_cons_zero]; rfl)
  case hq5 => exact fun _ _ _ h => h
  case hw5 => rfl
  case hy5 =>
    intro W hW
    go_simp
    first | done | with_reducible rfl
  case hk5 =>
  try simp only [Act.put, List.setIfInBounds_toArray, List.set_cons_zero, List.set_cons_succ]
  refine anyK_on1 5 (by kernel_rfl) ?_
  refine anyK_one 5 (o := ?oo6) ?ho6 ?hk6
  case ho6 => (simp only [List.getElem?_toArray, List.getElem?_cons_succ, List.getElem?_cons_zero]; rfl)
  case hk6 =>
  intro K hK
  go_simp
  refine (HNW.out _ yy).mono ?_
  rintro e wk ⟨v6, rfl, hp6, xx⟩
  try go_wp2_with fail
  replace yy := ext_trans yy xx
  have HP6 := hide hp6
  have HYK := hide yy
  clear hp6
  have hT1 := keepK.out _ yy
  refine hK.out _ _ hT1 (fun _ => trivial) ?_
  clear hK K
  try simp only [Act.put, List.setIfInBounds_toArray, List.set_cons_zero, List.set_cons_succ]
  refine anyK_on1 6 (by kernel_rfl) ?_
  refine anyK_one 6 (o := ?oo7) ?ho7 ?hk7
  case ho7 => (simp only [List.getElem?_toArray, List.getElem?_cons_succ, List.getElem?_cons_zero]; rfl)
  case hk7 =>
  intro K hK
  go_simp
  refine (HRS.out _ _ yy HP6.out).mono ?_
  rintro e wz ⟨rfl, xx⟩
  try go_wp2_with fail
  replace yy := ext_trans yy xx
  have hT2 := keepK.out _ yy
  refine hK.out _ _ hT2 (fun _ => trivial) ?_
  clear hK K
  try simp only [Act.put, List.setIfInBounds_toArray, List.set_cons_zero, List.set_cons_succ]
  refine anyK_take 7 (oi := ?oo8) ?ho8 (by kernel_rfl) (by kernel_rfl) (by kernel_rfl) (by kernel_rfl) ?hq8 ?hw8 hT2 (fun _ => trivial) (v := ?vv8) ?hy8 ?hk8
  case ho8 => (simp only [List.getElem?_toArray, List.getElem?_cons_succ, List.getElem?_cons_zero]; rfl)
  case hq8 => exact fun _ _ _ h => h
  case hw8 => rfl
  case hy8 =>
    intro W hW
    go_simp
    first | done | with_reducible rfl
  case hk8 =>
  try simp only [Act.put, List.setIfInBounds_toArray, List.set_cons_zero, List.set_cons_succ]
  refine anyK_done (by kernel_rfl) ?_ _
  clear keepK hT0 hT1 hT2
  go_wp2
  go_ret
  exact ⟨rfl, yy⟩

set_option maxHeartbeats 4000000 in
set_option maxRecDepth 100000 in
theorem BMoves_any {w0 wa : World} {BG : Nat} {R : RulesM} {ps : List PosM} (hG : BoardAt w0 wa BG R ps) (hl : ps.length ≤ 1000000) (hV : Valid R) (hS : ∀ Q ∈ ps, Sound R Q) {P : PosM} (hP : ps.getLast? = some P) :
    Calls Try.prog 17 #[.pointer (some ⟨BG, 0, none⟩)] wa (EMovesPost wa (movesM R P)) := by
  have HNW := hide (fun W' (x : Ext wa W') => bnow_any (hG.ext x) hl hP)
  have hSP := hS P (last_mem hP)
  obtain ⟨pA, pc, sA, sc, eA, ec, base, l, h1, h2, -, -, -⟩ := hG
  have HRS := hide (fun W' (v : Value) (x : Ext wa W') (h : PosI W' v P) => EMoves_any R P _ v W' (h2.ext x).at_ h.at_ hV hSP)
  have KG := hide h1
  clear hS hP hl h1 h2 hV hSP
  generalize movesM R P = L at *
  go_enter Try.func17, Try.ntmps17
  go_upto_region 1 with fail
  have keepK := hide (fun W (h : Ext wa W) => (show (fun W => W.cell? ⟨BG, 0, none⟩ = some (.string R.name) ∧ W.cell? ⟨BG, 1, none⟩ = some (.int .i64 R.width) ∧ W.cell? ⟨BG, 2, none⟩ = some (.int .i64 R.height) ∧ W.cell? ⟨BG, 3, none⟩ = some (.slice pA R.pieces.length pc) ∧ W.cell? ⟨BG, 4, none⟩ = some (.slice sA R.start.length sc) ∧ W.cell? ⟨BG, 5, none⟩ = some (.bool R.falls) ∧ W.cell? ⟨BG, 6, none⟩ = some (.bool R.keeps) ∧ W.cell? ⟨BG, 7, none⟩ = some (.slice eA R.ends.length ec) ∧ W.cell? ⟨BG, 8, none⟩ = some (.int .i64 R.blocked) ∧ W.cell? ⟨BG, 9, none⟩ = some (.int .i64 R.quiet) ∧ W.cell? ⟨BG, 10, none⟩ = some (.int .i64 R.rept) ∧ W.cell? ⟨BG, 11, none⟩ = some (l) ∧ Ext wa W) W from ⟨(KG.out.ext h).cell 0, (KG.out.ext h).cell 1, (KG.out.ext h).cell 2, (KG.out.ext h).cell 3, (KG.out.ext h).cell 4, (KG.out.ext h).cell 5, (KG.out.ext h).cell 6, (KG.out.ext h).cell 7, (KG.out.ext h).cell 8, (KG.out.ext h).cell 9, (KG.out.ext h).cell 10, (KG.out.ext h).cell 11, h⟩))
  have yy : Ext wa wa.drew := Below.drew (Below.refl _ _)
  refine region_K (fun W => W.cell? ⟨BG, 0, none⟩ = some (.string R.name) ∧ W.cell? ⟨BG, 1, none⟩ = some (.int .i64 R.width) ∧ W.cell? ⟨BG, 2, none⟩ = some (.int .i64 R.height) ∧ W.cell? ⟨BG, 3, none⟩ = some (.slice pA R.pieces.length pc) ∧ W.cell? ⟨BG, 4, none⟩ = some (.slice sA R.start.length sc) ∧ W.cell? ⟨BG, 5, none⟩ = some (.bool R.falls) ∧ W.cell? ⟨BG, 6, none⟩ = some (.bool R.keeps) ∧ W.cell? ⟨BG, 7, none⟩ = some (.slice eA R.ends.length ec) ∧ W.cell? ⟨BG, 8, none⟩ = some (.int .i64 R.blocked) ∧ W.cell? ⟨BG, 9, none⟩ = some (.int .i64 R.quiet) ∧ W.cell? ⟨BG, 10, none⟩ = some (.int .i64 R.rept) ∧ W.cell? ⟨BG, 11, none⟩ = some (l) ∧ Ext wa W) (fun _ => True) [] (by kernel_rfl) ?_
  have hT0 := keepK.out _ yy
  refine anyK_take 0 (oi := ?oo9) ?ho9 (by kernel_rfl) (by kernel_rfl) (by kernel_rfl) (by kernel_rfl) ?hq9 ?hw9 hT0 (fun _ => trivial) (v := ?vv9) ?hy9 ?hk9
  case ho9 => (simp only [List.getElem?_toArray, List.getElem?_cons_succ, List.getElem?_cons_zero]; rfl)
  case hq9 => exact fun _ _ _ h => h
  case hw9 => rfl
  case hy9 =>
    intro W hW
    go_simp
    first | done | with_reducible rfl
  case hk9 =>
  try simp only [Act.put, List.setIfInBounds_toArray, List.set_cons_zero, List.set_cons_succ]
  refine anyK_take 1 (oi := ?oo10) ?ho10 (by kernel_rfl) (by kernel_rfl) (by kernel_rfl) (by kernel_rfl) ?hq10 ?hw10 hT0 (fun _ => trivial) (v := ?vv10) ?hy10 ?hk10
  case ho10 => (simp only [List.getElem?_toArray, List.getElem?_cons_succ, List.getElem?_cons_zero]; rfl)
  case hq10 => exact fun _ _ _ h => h
  case hw10 => rfl
  case hy10 =>
    intro W hW
    go_simp
    first | done | with_reducible rfl
  case hk10 =>
  try simp only [Act.put, List.setIfInBounds_toArray, List.set_cons_zero, List.set_cons_succ]
  refine anyK_take 2 (oi := ?oo11) ?ho11 (by kernel_rfl) (by kernel_rfl) (by kernel_rfl) (by kernel_rfl) ?hq11 ?hw11 hT0 (fun _ => trivial) (v := ?vv11) ?hy11 ?hk11
  case ho11 => (simp only [List.getElem?_toArray, List.getElem?_cons_succ, List.getElem?_cons_zero]; rfl)
  case hq11 => exact fun _ _ _ h => h
  case hw11 => rfl
  case hy11 =>
    intro W hW
    go_simp
    first | done | with_reducible rfl
  case hk11 =>
  try simp only [Act.put, List.setIfInBounds_toArray, List.set_cons_zero, List.set_cons_succ]
  refine anyK_take 3 (oi := ?oo12) ?ho12 (by kernel_rfl) (by kernel_rfl) (by kernel_rfl) (by kernel_rfl) ?hq12 ?hw12 hT0 (fun _ => trivial) (v := ?vv12) ?hy12 ?hk12
  case ho12 => (simp only [List.getElem?_toArray, List.getElem?_cons_succ, List.getElem?_cons_zero]; rfl)
  case hq12 => exact fun _ _ _ h => h
  case hw12 => rfl
  case hy12 =>
    intro W hW
    obtain ⟨z0, z1, z2, z3, z4, z5, z6, z7, z8, z9, z10, z11, z12⟩ := hW
    go_simp
    first | done | with_reducible rfl
  case hk12 =>
  try simp only [Act.put, List.setIfInBounds_toArray, List.set_cons_zero, List.set_cons_succ]
  refine anyK_take 4 (oi := ?oo13) ?ho13 (by kernel_rfl) (by kernel_rfl) (by kernel_rfl) (by kernel_rfl) ?hq13 ?hw13 hT0 (fun _ => trivial) (v := ?vv13) ?hy13 ?hk13
  case ho13 => (simp only [List.getElem?_toArray, List.getElem?_cons_succ, List.getElem?_cons_zero]; rfl)
  case hq13 => exact fun _ _ _ h => h
  case hw13 => rfl
  case hy13 =>
    intro W hW
    go_simp
    first | done | with_reducible rfl
  case hk13 =>
  try simp only [Act.put, List.setIfInBounds_toArray, List.set_cons_zero, List.set_cons_succ]
  refine anyK_on1 5 (by kernel_rfl) ?_
  refine anyK_one 5 (o := ?oo14) ?ho14 ?hk14
  case ho14 => (simp only [List.getElem?_toArray, List.getElem?_cons_succ, List.getElem?_cons_zero]; rfl)
  case hk14 =>
  intro K hK
  go_simp
  refine (HNW.out _ yy).mono ?_
  rintro e wk ⟨v6, rfl, hp6, xx⟩
  try go_wp2_with fail
  replace yy := ext_trans yy xx
  have HP6 := hide hp6
  have HYK := hide yy
  clear hp6
  have hT1 := keepK.out _ yy
  refine hK.out _ _ hT1 (fun _ => trivial) ?_
  clear hK K
  try simp only [Act.put, List.setIfInBounds_toArray, List.set_cons_zero, List.set_cons_succ]
  refine anyK_on1 6 (by kernel_rfl) ?_
  refine anyK_one 6 (o := ?oo15) ?ho15 ?hk15
  case ho15 => (simp only [List.getElem?_toArray, List.getElem?_cons_succ, List.getElem?_cons_zero]; rfl)
  case hk15 =>
  intro K hK
  go_simp
  refine (HRS.out _ _ yy HP6.out).mono ?_
  rintro e wz ⟨vz, rfl, hz, xx⟩
  try go_wp2_with fail
  replace yy := ext_trans yy xx
  have HO := hide (hz.base HYK.out)
  clear hz
  have hT2 := keepK.out _ yy
  refine hK.out _ _ hT2 (fun _ => trivial) ?_
  clear hK K
  try simp only [Act.put, List.setIfInBounds_toArray, List.set_cons_zero, List.set_cons_succ]
  refine anyK_take 7 (oi := ?oo16) ?ho16 (by kernel_rfl) (by kernel_rfl) (by kernel_rfl) (by kernel_rfl) ?hq16 ?hw16 hT2 (fun _ => trivial) (v := ?vv16) ?hy16 ?hk16
  case ho16 => (simp only [List.getElem?_toArray, List.getElem?_cons_succ, List.getElem?_cons_zero]; rfl)
  case hq16 => exact fun _ _ _ h => h
  case hw16 => rfl
  case hy16 =>
    intro W hW
    go_simp
    first | done | with_reducible rfl
  case hk16 =>
  try simp only [Act.put, List.setIfInBounds_toArray, List.set_cons_zero, List.set_cons_succ]
  refine anyK_done (by kernel_rfl) ?_ _
  clear keepK hT0 hT1 hT2
  go_wp2
  go_ret
  exact ⟨_, rfl, HO.out, yy⟩

set_option maxHeartbeats 2000000 in
set_option maxRecDepth 100000 in
theorem BKey_any {w0 wa : World} {BG : Nat} {R : RulesM} {ps : List PosM} (hG : BoardAt w0 wa BG R ps) (hl : ps.length ≤ 1000000) (hV : Valid R) (hS : ∀ Q ∈ ps, Sound R Q) {P : PosM} (hP : ps.getLast? = some P) :
    Calls Try.prog 16 #[.pointer (some ⟨BG, 0, none⟩)] wa fun e w' => e = .returned (.int .u64 (keyM P)) ∧ Ext wa w' := by
  have HNW := hide (bnow_any hG hl hP)
  have HOF := hide (fun (v : Value) W (h : PosAt W v P) => Of_any R P v W h hV (hS P (last_mem hP)))
  clear hG hl hV hS hP
  go_enter Try.func16, Try.ntmps16
  go_wp2_with fail
  refine HNW.out.mono ?_
  rintro e w2 ⟨v2, rfl, p2, x2⟩
  have P2 := hide p2.at_
  have X2 := hide x2
  clear p2 x2 HNW
  go_wp2_with fail
  refine (HOF.out _ _ P2.out).mono ?_
  rintro e w3 ⟨rfl, x3⟩
  have X3 := hide (ext_trans X2.out x3)
  clear x3 X2 P2
  go_wp2
  go_ret
  exact ⟨rfl, X3.out⟩
set_option maxHeartbeats 2000000 in
set_option maxRecDepth 100000 in
theorem BTurn_any {w0 wa : World} {BG : Nat} {R : RulesM} {ps : List PosM} (hG : BoardAt w0 wa BG R ps) (hl : ps.length ≤ 1000000) {P : PosM} (hP : ps.getLast? = some P) :
    Calls Try.prog 56 #[.pointer (some ⟨BG, 0, none⟩)] wa fun e w' => e = .returned (.int .i64 P.turn) ∧ Ext wa w' := by
  have HNW := hide (bnow_any hG hl hP)
  clear hG hl hP
  go_enter Try.func56, Try.ntmps56
  go_wp2_with fail
  refine HNW.out.mono ?_
  rintro e w2 ⟨v2, rfl, p2, x2⟩
  obtain ⟨g0, d0, g1, d1, g2, d2, rfl, -⟩ := p2
  have X2 := hide x2
  have hfl : ∀ W, (Instr.field 29 (.agg #[.slice (some ⟨g0, 0, none⟩) P.cells.length d0, .slice (some ⟨g1, 0, none⟩) P.hand0.length d1, .slice (some ⟨g2, 0, none⟩) P.hand1.length d2, .int .i64 P.turn, .int .i64 P.quiet]) 2).run Try.prog W = .ok (.int .i64 P.turn) W := fun _ => by kernel_rfl
  clear x2 HNW
  go_wp2
  go_ret
  exact ⟨rfl, X2.out⟩
set_option maxHeartbeats 2000000 in
set_option maxRecDepth 100000 in
theorem BUndo_no {w0 wa : World} {BG : Nat} {R : RulesM} {P : PosM} (hG : BoardAt w0 wa BG R [P]) :
    Calls Try.prog 21 #[.pointer (some ⟨BG, 0, none⟩)] wa fun e w' => e = .returned (.int .i64 8) ∧ Ext wa w' := by
  have HLN := hide (BLen_any hG (by simp) (by simp))
  rw [show ((([P] : List PosM).length : Nat) : Int) - 1 = 0 from by simp] at HLN
  clear hG
  go_enter Try.func21, Try.ntmps21
  go_wp2_with fail
  refine HLN.out.mono ?_
  rintro e w2 ⟨rfl, x2⟩
  have X2 := hide x2
  clear x2 HLN
  go_wp2
  go_ret
  exact ⟨rfl, X2.out⟩
set_option maxHeartbeats 4000000 in
set_option maxRecDepth 100000 in
theorem BUndo_yes {w0 wa : World} {BG : Nat} {R : RulesM} {ps : List PosM} {P : PosM} (hG : BoardAt w0 wa BG R (ps ++ [P])) (hn : 1 ≤ ps.length) (hl : ps.length ≤ 100000) :
    Calls Try.prog 21 #[.pointer (some ⟨BG, 0, none⟩)] wa (fun e w' => e = .returned (.int .i64 0) ∧ BoardAt w0 w' BG R ps) := by
  have HLN := hide (BLen_any hG (by simp; omega) (by simp))
  obtain ⟨pA, pc, sA, sc, eA, ec, base, l, h1, h2, h3, h5, h6⟩ := hG
  obtain ⟨gl, lc, rfl, hlc⟩ := h3.form
  have HP := hide h3.pop
  have H2 := hide h2
  have H56 := hide (And.intro h5 h6)
  have KG := hide h1
  have e1 : (((ps ++ [P]).length : Nat) : Int) - 1 = (ps.length : Int) := by simp
  rw [e1] at HLN
  have hwl : IntKind.i64.wrap (((ps.length + 1 : Nat) : Int) - 1) = (ps.length : Int) := by rw [IntKind.wrap_i64]; omega
  have hwl2 : IntKind.i64.wrap ((ps.length : Int) + 1 - 1) = (ps.length : Int) := by rw [IntKind.wrap_i64]; omega
  have hwl3 : IntKind.i64.wrap (ps.length : Int) = (ps.length : Int) := by rw [IntKind.wrap_i64]; omega
  have i0 : (0 : Int) ≤ (ps.length : Int) := by omega
  have i1 : (ps.length : Int) ≤ (lc : Int) := by omega
  have i4 : ps.length ≤ lc := by omega
  have tz2 : ((ps.length : Int) == 0) = false := by simp; rintro rfl; simp at hn
  clear h1 h2 h3 h5 h6 hlc e1
  go_enter Try.func21, Try.ntmps21
  go_wp2_with fail
  refine HLN.out.mono ?_
  rintro e w2 ⟨rfl, x2⟩
  have KG2 := hide (KG.out.ext x2)
  have HP2 := hide (HP.out.ext x2)
  have H22 := hide (H2.out.ext x2)
  have X2 := hide (ext_trans H56.out.2 x2)
  clear x2 HLN KG HP H2
  have f := KG2.out.cell
  have z := KG2.out.frozen
  go_upto_region 3 with fail
  go_still_tail 14, (by kernel_rfl)
  go_wp2
  have k9 := blk_put (i := 11) (u := .slice (some ⟨gl, 0, none⟩) ps.length lc) KG2.out (cs' := #[.string R.name, .int .i64 R.width, .int .i64 R.height, .slice pA R.pieces.length pc, .slice sA R.start.length sc, .bool R.falls, .bool R.keeps, .slice eA R.ends.length ec, .int .i64 R.blocked, .int .i64 R.quiet, .int .i64 R.rept, .slice (some ⟨gl, 0, none⟩) ps.length lc]) rfl
  have TF : TFr [100] w2 (w2.setCell ⟨BG, 11, none⟩ (.slice (some ⟨gl, 0, none⟩) ps.length lc)) := TFr.set KG2.out (List.mem_singleton.2 rfl) 11 _
  have X9 := ext_set X2.out (p := ⟨BG, 11, none⟩) H56.out.1 (.slice (some ⟨gl, 0, none⟩) ps.length lc)
  go_ret
  exact ⟨rfl, pA, pc, sA, sc, eA, ec, base, _, k9, H22.out.tfr ⟨by decide, by decide, by decide, by decide⟩ TF, HP2.out.tfr (by decide) (by decide) TF, H56.out.1, Below.drew X9⟩

end Go.Proofs.Ythmldoffonlddaa
namespace Go.Proofs.Ythmldoffonlddaa
open Go.ChangeShapes Go.WideShapes Go.ChangeAt Go.RowKit Go.Shelf
set_option linter.unusedVariables false
set_option linter.unusedSimpArgs false
set_option maxHeartbeats 4000000 in
set_option maxRecDepth 100000 in
theorem BDo_over {w0 wa : World} {BG : Nat} {R : RulesM} {ps : List PosM} (hG : BoardAt w0 wa BG R ps) (hl : ps.length ≤ 400) (hV : Valid R) (hS : ∀ Q ∈ ps, Sound R Q) {P : PosM} (hP : ps.getLast? = some P) (mv : MoveM) (hr : resultM R P ≠ 0) :
    Calls Try.prog 18 #[.pointer (some ⟨BG, 0, none⟩), .agg #[.int .i64 mv.src, .int .i64 mv.dst, .int .i64 mv.piece]] wa fun e w' => e = .returned (.int .i64 14) ∧ Ext wa w' := by
  have HRS := hide (fun W' (x : Ext wa W') => BResult_any (hG.ext x) (by omega) hV hS hP)
  have t0 : (resultM R P != 0) = true := by simpa using hr
  clear hG hl hV hS hP hr
  generalize resultM R P = z at *
  obtain ⟨xa, kM⟩ := blks1 wa #[.int .i64 mv.src, .int .i64 mv.dst, .int .i64 mv.piece] 41
  have KM := hide kM
  have X1 := hide xa
  clear xa kM
  go_enter Try.func18, Try.ntmps18
  go_wp2_with fail
  refine (HRS.out _ X1.out).mono ?_
  rintro e w2 ⟨rfl, x2⟩
  have X2 := hide (ext_trans X1.out x2)
  have KM2 := hide (KM.out.ext x2)
  clear x2 KM X1 HRS
  go_wp2
  go_ret
  exact ⟨rfl, X2.out⟩
set_option maxHeartbeats 4000000 in
set_option maxRecDepth 100000 in
theorem BDo_yes {w0 wa : World} {BG : Nat} {R : RulesM} {ps : List PosM} (hG : BoardAt w0 wa BG R ps) (hl : ps.length ≤ 400) (hV : Valid R) (hS : ∀ Q ∈ ps, Sound R Q) {P : PosM} (hP : ps.getLast? = some P) (mv : MoveM) (hr : resultM R P = 0) (hm : mv ∈ listM R P) :
    Calls Try.prog 18 #[.pointer (some ⟨BG, 0, none⟩), .agg #[.int .i64 mv.src, .int .i64 mv.dst, .int .i64 mv.piece]] wa (fun e w' => e = .returned (.int .i64 0) ∧ BoardAt w0 w' BG R (ps ++ [makeM R P mv])) := by
  have HRS := hide (fun W' (x : Ext wa W') => BResult_any (hG.ext x) (by omega) hV hS hP)
  have HNW := hide (fun W' (x : Ext wa W') => bnow_any (hG.ext x) (by omega) hP)
  have hSP := hS P (last_mem hP)
  have hl1 : 1 ≤ ps.length := by
    rcases ps with _ | ⟨x, l⟩
    · simp at hP
    · simp
  have HLN := hide (fun W' (x : Ext wa W') => BLen_any (hG.ext x) (by omega) hl1)
  have HCO := hide (fun (v : Value) W' (h : MovesAt W' v (listM R P)) => Contains_any (listM R P) mv v W' h (listM_len hV hSP))
  obtain ⟨pA, pc, sA, sc, eA, ec, base, l, h1, h2, h3, h5, h6⟩ := hG
  have HLI := hide (fun (v : Value) W' (x : Ext wa W') (h : PosI W' v P) => List_any R P _ v W' (h2.ext x).at_ h.at_ hV hSP)
  have HMK := hide (fun (v : Value) W' (x : Ext wa W') (h : PosI W' v P) => Make_any R P mv _ v W' (h2.ext x).at_ h.at_ hV hSP (mem_listM.1 hm))
  have H2 := hide h2
  have H3 := hide h3
  have H56 := hide (And.intro h5 h6)
  have HLL := hide hl
  rw [hr] at HRS
  rw [decide_eq_true hm] at HCO
  have t2 : ((ps.length : Int) - 1 == 400) = false := by simp; omega
  clear h2 h3 h5 h6 hV hS hP hr hm hSP hl hl1
  obtain ⟨xa, kM⟩ := blks1 wa #[.int .i64 mv.src, .int .i64 mv.dst, .int .i64 mv.piece] 41
  have KM := hide kM
  have X1 := hide xa
  clear xa kM
  go_enter Try.func18, Try.ntmps18
  go_wp2_with fail
  refine (HRS.out _ X1.out).mono ?_
  rintro e w2 ⟨rfl, x2⟩
  have X2 := hide (ext_trans X1.out x2)
  have KM2 := hide (KM.out.ext x2)
  clear x2 KM X1 HRS
  have KG2 := hide (h1.ext X2.out)
  clear h1
  generalize wa.heap.size = BM at *
  go_upto_region 3 with fail
  have keepK := hide (fun W (h : Ext w2 W) => (show (fun W => W.cell? ⟨BG, 0, none⟩ = some (.string R.name) ∧ W.cell? ⟨BG, 1, none⟩ = some (.int .i64 R.width) ∧ W.cell? ⟨BG, 2, none⟩ = some (.int .i64 R.height) ∧ W.cell? ⟨BG, 3, none⟩ = some (.slice pA R.pieces.length pc) ∧ W.cell? ⟨BG, 4, none⟩ = some (.slice sA R.start.length sc) ∧ W.cell? ⟨BG, 5, none⟩ = some (.bool R.falls) ∧ W.cell? ⟨BG, 6, none⟩ = some (.bool R.keeps) ∧ W.cell? ⟨BG, 7, none⟩ = some (.slice eA R.ends.length ec) ∧ W.cell? ⟨BG, 8, none⟩ = some (.int .i64 R.blocked) ∧ W.cell? ⟨BG, 9, none⟩ = some (.int .i64 R.quiet) ∧ W.cell? ⟨BG, 10, none⟩ = some (.int .i64 R.rept) ∧ W.cell? ⟨BG, 11, none⟩ = some (l) ∧ W.cell? ⟨BM, 0, none⟩ = some (.int .i64 mv.src) ∧ W.cell? ⟨BM, 1, none⟩ = some (.int .i64 mv.dst) ∧ W.cell? ⟨BM, 2, none⟩ = some (.int .i64 mv.piece) ∧ Ext w2 W) W from ⟨(KG2.out.ext h).cell 0, (KG2.out.ext h).cell 1, (KG2.out.ext h).cell 2, (KG2.out.ext h).cell 3, (KG2.out.ext h).cell 4, (KG2.out.ext h).cell 5, (KG2.out.ext h).cell 6, (KG2.out.ext h).cell 7, (KG2.out.ext h).cell 8, (KG2.out.ext h).cell 9, (KG2.out.ext h).cell 10, (KG2.out.ext h).cell 11, (KM2.out.ext h).cell 0, (KM2.out.ext h).cell 1, (KM2.out.ext h).cell 2, h⟩))
  have yy : Ext w2 w2.drew := Below.drew (Below.refl _ _)
  refine region_K (fun W => W.cell? ⟨BG, 0, none⟩ = some (.string R.name) ∧ W.cell? ⟨BG, 1, none⟩ = some (.int .i64 R.width) ∧ W.cell? ⟨BG, 2, none⟩ = some (.int .i64 R.height) ∧ W.cell? ⟨BG, 3, none⟩ = some (.slice pA R.pieces.length pc) ∧ W.cell? ⟨BG, 4, none⟩ = some (.slice sA R.start.length sc) ∧ W.cell? ⟨BG, 5, none⟩ = some (.bool R.falls) ∧ W.cell? ⟨BG, 6, none⟩ = some (.bool R.keeps) ∧ W.cell? ⟨BG, 7, none⟩ = some (.slice eA R.ends.length ec) ∧ W.cell? ⟨BG, 8, none⟩ = some (.int .i64 R.blocked) ∧ W.cell? ⟨BG, 9, none⟩ = some (.int .i64 R.quiet) ∧ W.cell? ⟨BG, 10, none⟩ = some (.int .i64 R.rept) ∧ W.cell? ⟨BG, 11, none⟩ = some (l) ∧ W.cell? ⟨BM, 0, none⟩ = some (.int .i64 mv.src) ∧ W.cell? ⟨BM, 1, none⟩ = some (.int .i64 mv.dst) ∧ W.cell? ⟨BM, 2, none⟩ = some (.int .i64 mv.piece) ∧ Ext w2 W) (fun _ => True) [] (by kernel_rfl) ?_
  have hT0 := keepK.out _ yy
  refine anyK_take 0 (oi := ?oo1) ?ho1 (by kernel_rfl) (by kernel_rfl) (by kernel_rfl) (by kernel_rfl) ?hq1 ?hw1 hT0 (fun _ => trivial) (v := ?vv1) ?hy1 ?hk1
  case ho1 => (simp only [List.getElem?_toArray, List.getElem?_cons_succ, List.getElem?_cons_zero]; rfl)
  case hq1 => exact fun _ _ _ h => h
  case hw1 => rfl
  case hy1 =>
    intro W hW
    go_simp
    first | done | with_reducible rfl
  case hk1 =>
  try simp only [Act.put, List.setIfInBounds_toArray, List.set_cons_zero, List.set_cons_succ]
  refine anyK_take 1 (oi := ?oo2) ?ho2 (by kernel_rfl) (by kernel_rfl) (by kernel_rfl) (by kernel_rfl) ?hq2 ?hw2 hT0 (fun _ => trivial) (v := ?vv2) ?hy2 ?hk2
  case ho2 => (simp only [List.getElem?_toArray, List.getElem?_cons_succ, List.getElem?_cons_zero]; rfl)
  case hq2 => exact fun _ _ _ h => h
  case hw2 => rfl
  case hy2 =>
    intro W hW
    go_simp
    first | done | with_reducible rfl
  case hk2 =>
  try simp only [Act.put, List.setIfInBounds_toArray, List.set_cons_zero, List.set_cons_succ]
  refine anyK_take 2 (oi := ?oo3) ?ho3 (by kernel_rfl) (by kernel_rfl) (by kernel_rfl) (by kernel_rfl) ?hq3 ?hw3 hT0 (fun _ => trivial) (v := ?vv3) ?hy3 ?hk3
  case ho3 => (simp only [List.getElem?_toArray, List.getElem?_cons_succ, List.getElem?_cons_zero]; rfl)
  case hq3 => exact fun _ _ _ h => h
  case hw3 => rfl
  case hy3 =>
    intro W hW
    go_simp
    first | done | with_reducible rfl
  case hk3 =>
  try simp only [Act.put, List.setIfInBounds_toArray, List.set_cons_zero, List.set_cons_succ]
  refine anyK_take 3 (oi := ?oo4) ?ho4 (by kernel_rfl) (by kernel_rfl) (by kernel_rfl) (by kernel_rfl) ?hq4 ?hw4 hT0 (fun _ => trivial) (v := ?vv4) ?hy4 ?hk4
  case ho4 => (simp only [List.getElem?_toArray, List.getElem?_cons_succ, List.getElem?_cons_zero]; rfl)
  case hq4 => exact fun _ _ _ h => h
  case hw4 => rfl
  case hy4 =>
    intro W hW
    obtain ⟨z0, z1, z2, z3, z4, z5, z6, z7, z8, z9, z10, z11, z12, z13, z14, z15⟩ := hW
    go_simp
    first | done | with_reducible rfl
  case hk4 =>
  try simp only [Act.put, List.setIfInBounds_toArray, List.set_cons_zero, List.set_cons_succ]
  refine anyK_take 4 (oi := ?oo5) ?ho5 (by kernel_rfl) (by kernel_rfl) (by kernel_rfl) (by kernel_rfl) ?hq5 ?hw5 hT0 (fun _ => trivial) (v := ?vv5) ?hy5 ?hk5
  case ho5 => (simp only [List.getElem?_toArray, List.getElem?_cons_succ, List.getElem?_cons_zero]; rfl)
  case hq5 => exact fun _ _ _ h => h
  case hw5 => rfl
  case hy5 =>
    intro W hW
    go_simp
    first | done | with_reducible rfl
  case hk5 =>
  try simp only [Act.put, List.setIfInBounds_toArray, List.set_cons_zero, List.set_cons_succ]
  refine anyK_take 7 (oi := ?oo6) ?ho6 (by kernel_rfl) (by kernel_rfl) (by kernel_rfl) (by kernel_rfl) ?hq6 ?hw6 hT0 (fun _ => trivial) (v := ?vv6) ?hy6 ?hk6
  case ho6 => (simp only [List.getElem?_toArray, List.getElem?_cons_succ, List.getElem?_cons_zero]; rfl)
  case hq6 => exact fun _ _ _ h => h
  case hw6 => rfl
  case hy6 =>
    intro W hW
    obtain ⟨z0, z1, z2, z3, z4, z5, z6, z7, z8, z9, z10, z11, z12, z13, z14, z15⟩ := hW
    go_simp
    first | done | with_reducible rfl
  case hk6 =>
  try simp only [Act.put, List.setIfInBounds_toArray, List.set_cons_zero, List.set_cons_succ]
  refine anyK_on1 5 (by kernel_rfl) ?_
  refine anyK_one 5 (o := ?oo7) ?ho7 ?hk7
  case ho7 => (simp only [List.getElem?_toArray, List.getElem?_cons_succ, List.getElem?_cons_zero]; rfl)
  case hk7 =>
  intro K hK
  go_simp
  refine (HNW.out _ (ext_trans X2.out yy)).mono ?_
  rintro e wk ⟨v6, rfl, hp6, xx⟩
  try go_wp2_with fail
  replace yy := ext_trans yy xx
  have HP6 := hide hp6
  clear hp6
  have hT1 := keepK.out _ yy
  refine hK.out _ _ hT1 (fun _ => trivial) ?_
  clear hK K
  try simp only [Act.put, List.setIfInBounds_toArray, List.set_cons_zero, List.set_cons_succ]
  refine anyK_on1 6 (by kernel_rfl) ?_
  refine anyK_one 6 (o := ?oo8) ?ho8 ?hk8
  case ho8 => (simp only [List.getElem?_toArray, List.getElem?_cons_succ, List.getElem?_cons_zero]; rfl)
  case hk8 =>
  intro K hK
  go_simp
  refine (HLI.out _ _ (ext_trans X2.out yy) HP6.out).mono ?_
  rintro e wl ⟨v7, rfl, own7, xx⟩
  try go_wp2_with fail
  replace yy := ext_trans yy xx
  replace own7 := own7.at_
  have HM7 := hide own7
  clear own7
  have hT2 := keepK.out _ yy
  refine hK.out _ _ hT2 (fun _ => trivial) ?_
  clear hK K
  try simp only [Act.put, List.setIfInBounds_toArray, List.set_cons_zero, List.set_cons_succ]
  refine anyK_on1 8 (by kernel_rfl) ?_
  refine anyK_one 8 (o := ?oo9) ?ho9 ?hk9
  case ho9 => (simp only [List.getElem?_toArray, List.getElem?_cons_succ, List.getElem?_cons_zero]; rfl)
  case hk9 =>
  intro K hK
  go_simp
  refine (HCO.out _ _ HM7.out).mono ?_
  rintro e wc ⟨rfl, xx⟩
  try go_wp2_with fail
  replace yy := ext_trans yy xx
  have hT3 := keepK.out _ yy
  refine hK.out _ _ hT3 (fun _ => trivial) ?_
  clear hK K
  try simp only [Act.put, List.setIfInBounds_toArray, List.set_cons_zero, List.set_cons_succ]
  refine anyK_take 9 (oi := ?oo10) ?ho10 (by kernel_rfl) (by kernel_rfl) (by kernel_rfl) (by kernel_rfl) ?hq10 ?hw10 hT3 (fun _ => trivial) (v := ?vv10) ?hy10 ?hk10
  case ho10 => (simp only [List.getElem?_toArray, List.getElem?_cons_succ, List.getElem?_cons_zero]; rfl)
  case hq10 => exact fun _ _ _ h => h
  case hw10 => rfl
  case hy10 =>
    intro W hW
    go_simp
    first | done | with_reducible rfl
  case hk10 =>
  try simp only [Act.put, List.setIfInBounds_toArray, List.set_cons_zero, List.set_cons_succ]
  refine anyK_take 10 (oi := ?oo11) ?ho11 (by kernel_rfl) (by kernel_rfl) (by kernel_rfl) (by kernel_rfl) ?hq11 ?hw11 hT3 (fun _ => trivial) (v := ?vv11) ?hy11 ?hk11
  case ho11 => (simp only [List.getElem?_toArray, List.getElem?_cons_succ, List.getElem?_cons_zero]; rfl)
  case hq11 => exact fun _ _ _ h => h
  case hw11 => rfl
  case hy11 =>
    intro W hW
    go_simp
    first | done | with_reducible rfl
  case hk11 =>
  try simp only [Act.put, List.setIfInBounds_toArray, List.set_cons_zero, List.set_cons_succ]
  refine anyK_done (by kernel_rfl) ?_ _
  clear keepK hT0 hT1 hT2 hT3
  have X4 := hide (ext_trans X2.out yy)
  have KG4 := hide (KG2.out.ext yy)
  have KM4 := hide (KM2.out.ext yy)
  clear X2 KG2 KM2 yy xx HCO HLI HP6 HM7
  go_wp2_with fail
  refine (HLN.out _ X4.out).mono ?_
  rintro e wd ⟨rfl, xx⟩
  have X5 := hide (ext_trans X4.out xx)
  have KG5 := hide (KG4.out.ext xx)
  have KM5 := hide (KM4.out.ext xx)
  clear X4 KG4 KM4 xx HLN
  have f4 := KG5.out.cell
  go_upto_region 7 with fail
  clear f4
  generalize hQ : makeM R P mv = Q at *
  have HQ := hide hQ
  clear hQ
  have zz : Ext wd wd.drew := Below.drew (Below.refl _ _)
  have ss := KG5.out.ext zz
  have keepK := hide (fun W (h : ∃ lv, Blk W BG 100 #[.string R.name, .int .i64 R.width, .int .i64 R.height, .slice pA R.pieces.length pc, .slice sA R.start.length sc, .bool R.falls, .bool R.keeps, .slice eA R.ends.length ec, .int .i64 R.blocked, .int .i64 R.quiet, .int .i64 R.rept, lv] ∧ Blk W BM 41 #[.int .i64 mv.src, .int .i64 mv.dst, .int .i64 mv.piece]) => (show (fun W => W.cell? ⟨BG, 0, none⟩ = some (.string R.name) ∧ W.cell? ⟨BG, 1, none⟩ = some (.int .i64 R.width) ∧ W.cell? ⟨BG, 2, none⟩ = some (.int .i64 R.height) ∧ W.cell? ⟨BG, 3, none⟩ = some (.slice pA R.pieces.length pc) ∧ W.cell? ⟨BG, 4, none⟩ = some (.slice sA R.start.length sc) ∧ W.cell? ⟨BG, 5, none⟩ = some (.bool R.falls) ∧ W.cell? ⟨BG, 6, none⟩ = some (.bool R.keeps) ∧ W.cell? ⟨BG, 7, none⟩ = some (.slice eA R.ends.length ec) ∧ W.cell? ⟨BG, 8, none⟩ = some (.int .i64 R.blocked) ∧ W.cell? ⟨BG, 9, none⟩ = some (.int .i64 R.quiet) ∧ W.cell? ⟨BG, 10, none⟩ = some (.int .i64 R.rept) ∧ W.cell? ⟨BM, 0, none⟩ = some (.int .i64 mv.src) ∧ W.cell? ⟨BM, 1, none⟩ = some (.int .i64 mv.dst) ∧ W.cell? ⟨BM, 2, none⟩ = some (.int .i64 mv.piece) ∧ ∃ lv, Blk W BG 100 #[.string R.name, .int .i64 R.width, .int .i64 R.height, .slice pA R.pieces.length pc, .slice sA R.start.length sc, .bool R.falls, .bool R.keeps, .slice eA R.ends.length ec, .int .i64 R.blocked, .int .i64 R.quiet, .int .i64 R.rept, lv] ∧ Blk W BM 41 #[.int .i64 mv.src, .int .i64 mv.dst, .int .i64 mv.piece]) W from ⟨(match h with | ⟨_, hb, _⟩ => hb.cell 0), (match h with | ⟨_, hb, _⟩ => hb.cell 1), (match h with | ⟨_, hb, _⟩ => hb.cell 2), (match h with | ⟨_, hb, _⟩ => hb.cell 3), (match h with | ⟨_, hb, _⟩ => hb.cell 4), (match h with | ⟨_, hb, _⟩ => hb.cell 5), (match h with | ⟨_, hb, _⟩ => hb.cell 6), (match h with | ⟨_, hb, _⟩ => hb.cell 7), (match h with | ⟨_, hb, _⟩ => hb.cell 8), (match h with | ⟨_, hb, _⟩ => hb.cell 9), (match h with | ⟨_, hb, _⟩ => hb.cell 10), (match h with | ⟨_, _, hm⟩ => hm.cell 0), (match h with | ⟨_, _, hm⟩ => hm.cell 1), (match h with | ⟨_, _, hm⟩ => hm.cell 2), h⟩))
  have yy := (⟨_, KG5.out.ext zz, KM5.out.ext zz⟩ : (fun W => ∃ lv, Blk W BG 100 #[.string R.name, .int .i64 R.width, .int .i64 R.height, .slice pA R.pieces.length pc, .slice sA R.start.length sc, .bool R.falls, .bool R.keeps, .slice eA R.ends.length ec, .int .i64 R.blocked, .int .i64 R.quiet, .int .i64 R.rept, lv] ∧ Blk W BM 41 #[.int .i64 mv.src, .int .i64 mv.dst, .int .i64 mv.piece]) wd.drew)
  refine region_K (fun W => W.cell? ⟨BG, 0, none⟩ = some (.string R.name) ∧ W.cell? ⟨BG, 1, none⟩ = some (.int .i64 R.width) ∧ W.cell? ⟨BG, 2, none⟩ = some (.int .i64 R.height) ∧ W.cell? ⟨BG, 3, none⟩ = some (.slice pA R.pieces.length pc) ∧ W.cell? ⟨BG, 4, none⟩ = some (.slice sA R.start.length sc) ∧ W.cell? ⟨BG, 5, none⟩ = some (.bool R.falls) ∧ W.cell? ⟨BG, 6, none⟩ = some (.bool R.keeps) ∧ W.cell? ⟨BG, 7, none⟩ = some (.slice eA R.ends.length ec) ∧ W.cell? ⟨BG, 8, none⟩ = some (.int .i64 R.blocked) ∧ W.cell? ⟨BG, 9, none⟩ = some (.int .i64 R.quiet) ∧ W.cell? ⟨BG, 10, none⟩ = some (.int .i64 R.rept) ∧ W.cell? ⟨BM, 0, none⟩ = some (.int .i64 mv.src) ∧ W.cell? ⟨BM, 1, none⟩ = some (.int .i64 mv.dst) ∧ W.cell? ⟨BM, 2, none⟩ = some (.int .i64 mv.piece) ∧ ∃ lv, Blk W BG 100 #[.string R.name, .int .i64 R.width, .int .i64 R.height, .slice pA R.pieces.length pc, .slice sA R.start.length sc, .bool R.falls, .bool R.keeps, .slice eA R.ends.length ec, .int .i64 R.blocked, .int .i64 R.quiet, .int .i64 R.rept, lv] ∧ Blk W BM 41 #[.int .i64 mv.src, .int .i64 mv.dst, .int .i64 mv.piece]) (fun W => W.cell? ⟨BG, 11, none⟩ = some (l)) [17] (by kernel_rfl) ?_
  have hS0 := ss.cell 11
  have hT0 := keepK.out _ yy
  refine anyK_take 0 (oi := ?oo12) ?ho12 (by kernel_rfl) (by kernel_rfl) (by kernel_rfl) (by kernel_rfl) ?hq12 ?hw12 hT0 (fun _ => hS0) (v := ?vv12) ?hy12 ?hk12
  case ho12 => (simp only [List.getElem?_toArray, List.getElem?_cons_succ, List.getElem?_cons_zero]; rfl)
  case hq12 => exact fun _ _ _ h => h
  case hw12 => rfl
  case hy12 =>
    intro W hW
    go_simp
    first | done | with_reducible rfl
  case hk12 =>
  try simp only [Act.put, List.setIfInBounds_toArray, List.set_cons_zero, List.set_cons_succ]
  refine anyK_take 1 (oi := ?oo13) ?ho13 (by kernel_rfl) (by kernel_rfl) (by kernel_rfl) (by kernel_rfl) ?hq13 ?hw13 hT0 (fun _ => hS0) (v := ?vv13) ?hy13 ?hk13
  case ho13 => (simp only [List.getElem?_toArray, List.getElem?_cons_succ, List.getElem?_cons_zero]; rfl)
  case hq13 => exact fun _ _ _ h => h
  case hw13 => rfl
  case hy13 =>
    intro W hW
    go_simp
    first | done | with_reducible rfl
  case hk13 =>
  try simp only [Act.put, List.setIfInBounds_toArray, List.set_cons_zero, List.set_cons_succ]
  refine anyK_take 2 (oi := ?oo14) ?ho14 (by kernel_rfl) (by kernel_rfl) (by kernel_rfl) (by kernel_rfl) ?hq14 ?hw14 hT0 (fun _ => hS0) (v := ?vv14) ?hy14 ?hk14
  case ho14 => (simp only [List.getElem?_toArray, List.getElem?_cons_succ, List.getElem?_cons_zero]; rfl)
  case hq14 => exact fun _ _ _ h => h
  case hw14 => rfl
  case hy14 =>
    intro W hW
    go_simp
    first | done | with_reducible rfl
  case hk14 =>
  try simp only [Act.put, List.setIfInBounds_toArray, List.set_cons_zero, List.set_cons_succ]
  refine anyK_take 3 (oi := ?oo15) ?ho15 (by kernel_rfl) (by kernel_rfl) (by kernel_rfl) (by kernel_rfl) ?hq15 ?hw15 hT0 (fun _ => hS0) (v := ?vv15) ?hy15 ?hk15
  case ho15 => (simp only [List.getElem?_toArray, List.getElem?_cons_succ, List.getElem?_cons_zero]; rfl)
  case hq15 => exact fun _ _ _ h => h
  case hw15 => rfl
  case hy15 =>
    intro W hW
    go_simp
    first | done | with_reducible rfl
  case hk15 =>
  try simp only [Act.put, List.setIfInBounds_toArray, List.set_cons_zero, List.set_cons_succ]
  refine anyK_load 4 (oi := ?oo16) ?ho16 (by kernel_rfl) (by kernel_rfl) (by kernel_rfl) (by kernel_rfl) (by kernel_rfl) (by kernel_rfl) ?hq16 ?hw16 hT0 hS0 (v := ?vv16) ?hy16 ?hk16
  case ho16 => (simp only [List.getElem?_toArray, List.getElem?_cons_succ, List.getElem?_cons_zero]; rfl)
  case hq16 => exact fun _ _ _ h => h
  case hw16 => rfl
  case hy16 =>
    intro W hW1 hW
    go_simp
    first | done | with_reducible rfl
  case hk16 =>
  try simp only [Act.put, List.setIfInBounds_toArray, List.set_cons_zero, List.set_cons_succ]
  refine anyK_take 5 (oi := ?oo17) ?ho17 (by kernel_rfl) (by kernel_rfl) (by kernel_rfl) (by kernel_rfl) ?hq17 ?hw17 hT0 (fun _ => hS0) (v := ?vv17) ?hy17 ?hk17
  case ho17 => (simp only [List.getElem?_toArray, List.getElem?_cons_succ, List.getElem?_cons_zero]; rfl)
  case hq17 => exact fun _ _ _ h => h
  case hw17 => rfl
  case hy17 =>
    intro W hW
    go_simp
    first | done | with_reducible rfl
  case hk17 =>
  try simp only [Act.put, List.setIfInBounds_toArray, List.set_cons_zero, List.set_cons_succ]
  refine anyK_take 6 (oi := ?oo18) ?ho18 (by kernel_rfl) (by kernel_rfl) (by kernel_rfl) (by kernel_rfl) ?hq18 ?hw18 hT0 (fun _ => hS0) (v := ?vv18) ?hy18 ?hk18
  case ho18 => (simp only [List.getElem?_toArray, List.getElem?_cons_succ, List.getElem?_cons_zero]; rfl)
  case hq18 => exact fun _ _ _ h => h
  case hw18 => rfl
  case hy18 =>
    intro W hW
    go_simp
    first | done | with_reducible rfl
  case hk18 =>
  try simp only [Act.put, List.setIfInBounds_toArray, List.set_cons_zero, List.set_cons_succ]
  refine anyK_take 7 (oi := ?oo19) ?ho19 (by kernel_rfl) (by kernel_rfl) (by kernel_rfl) (by kernel_rfl) ?hq19 ?hw19 hT0 (fun _ => hS0) (v := ?vv19) ?hy19 ?hk19
  case ho19 => (simp only [List.getElem?_toArray, List.getElem?_cons_succ, List.getElem?_cons_zero]; rfl)
  case hq19 => exact fun _ _ _ h => h
  case hw19 => rfl
  case hy19 =>
    intro W hW
    go_simp
    first | done | with_reducible rfl
  case hk19 =>
  try simp only [Act.put, List.setIfInBounds_toArray, List.set_cons_zero, List.set_cons_succ]
  refine anyK_take 8 (oi := ?oo20) ?ho20 (by kernel_rfl) (by kernel_rfl) (by kernel_rfl) (by kernel_rfl) ?hq20 ?hw20 hT0 (fun _ => hS0) (v := ?vv20) ?hy20 ?hk20
  case ho20 => (simp only [List.getElem?_toArray, List.getElem?_cons_succ, List.getElem?_cons_zero]; rfl)
  case hq20 => exact fun _ _ _ h => h
  case hw20 => rfl
  case hy20 =>
    intro W hW
    obtain ⟨z0, z1, z2, z3, z4, z5, z6, z7, z8, z9, z10, z11, z12, z13, z14⟩ := hW
    go_simp
    first | done | with_reducible rfl
  case hk20 =>
  try simp only [Act.put, List.setIfInBounds_toArray, List.set_cons_zero, List.set_cons_succ]
  refine anyK_take 9 (oi := ?oo21) ?ho21 (by kernel_rfl) (by kernel_rfl) (by kernel_rfl) (by kernel_rfl) ?hq21 ?hw21 hT0 (fun _ => hS0) (v := ?vv21) ?hy21 ?hk21
  case ho21 => (simp only [List.getElem?_toArray, List.getElem?_cons_succ, List.getElem?_cons_zero]; rfl)
  case hq21 => exact fun _ _ _ h => h
  case hw21 => rfl
  case hy21 =>
    intro W hW
    go_simp
    first | done | with_reducible rfl
  case hk21 =>
  try simp only [Act.put, List.setIfInBounds_toArray, List.set_cons_zero, List.set_cons_succ]
  refine anyK_take 11 (oi := ?oo22) ?ho22 (by kernel_rfl) (by kernel_rfl) (by kernel_rfl) (by kernel_rfl) ?hq22 ?hw22 hT0 (fun _ => hS0) (v := ?vv22) ?hy22 ?hk22
  case ho22 => (simp only [List.getElem?_toArray, List.getElem?_cons_succ, List.getElem?_cons_zero]; rfl)
  case hq22 => exact fun _ _ _ h => h
  case hw22 => rfl
  case hy22 =>
    intro W hW
    obtain ⟨z0, z1, z2, z3, z4, z5, z6, z7, z8, z9, z10, z11, z12, z13, z14⟩ := hW
    go_simp
    first | done | with_reducible rfl
  case hk22 =>
  try simp only [Act.put, List.setIfInBounds_toArray, List.set_cons_zero, List.set_cons_succ]
  refine anyK_on1 10 (by kernel_rfl) ?_
  refine anyK_one 10 (o := ?oo23) ?ho23 ?hk23
  case ho23 => (simp only [List.getElem?_toArray, List.getElem?_cons_succ, List.getElem?_cons_zero]; rfl)
  case hk23 =>
  intro K hK
  go_simp
  refine (HNW.out _ (ext_trans X5.out zz)).mono ?_
  rintro e we ⟨v8, rfl, hp8, xx⟩
  try go_wp2_with fail
  replace yy := (⟨_, KG5.out.ext (ext_trans zz xx), KM5.out.ext (ext_trans zz xx)⟩ : (fun W => ∃ lv, Blk W BG 100 #[.string R.name, .int .i64 R.width, .int .i64 R.height, .slice pA R.pieces.length pc, .slice sA R.start.length sc, .bool R.falls, .bool R.keeps, .slice eA R.ends.length ec, .int .i64 R.blocked, .int .i64 R.quiet, .int .i64 R.rept, lv] ∧ Blk W BM 41 #[.int .i64 mv.src, .int .i64 mv.dst, .int .i64 mv.piece]) we)
  have HP8 := hide hp8
  clear hp8
  replace zz := ext_trans zz xx
  replace ss := KG5.out.ext zz
  have hT1 := keepK.out _ yy
  have hS1 := ss.cell 11
  refine hK.out _ _ hT1 (fun _ => hS1) ?_
  clear hK K
  try simp only [Act.put, List.setIfInBounds_toArray, List.set_cons_zero, List.set_cons_succ]
  refine anyK_on1 12 (by kernel_rfl) ?_
  refine anyK_one 12 (o := ?oo24) ?ho24 ?hk24
  case ho24 => (simp only [List.getElem?_toArray, List.getElem?_cons_succ, List.getElem?_cons_zero]; rfl)
  case hk24 =>
  intro K hK
  go_simp
  refine (HMK.out _ _ (ext_trans X5.out zz) HP8.out).mono ?_
  rintro e wf ⟨v9, rfl, own9, xx⟩
  try go_wp2_with fail
  replace yy := (⟨_, KG5.out.ext (ext_trans zz xx), KM5.out.ext (ext_trans zz xx)⟩ : (fun W => ∃ lv, Blk W BG 100 #[.string R.name, .int .i64 R.width, .int .i64 R.height, .slice pA R.pieces.length pc, .slice sA R.start.length sc, .bool R.falls, .bool R.keeps, .slice eA R.ends.length ec, .int .i64 R.blocked, .int .i64 R.quiet, .int .i64 R.rept, lv] ∧ Blk W BM 41 #[.int .i64 mv.src, .int .i64 mv.dst, .int .i64 mv.piece]) wf)
  have hp9 := own9.toI
  have HP9 := hide hp9
  obtain ⟨g0, d0, g1, d1, g2, d2, rfl, -⟩ := hp9
  clear own9
  replace zz := ext_trans zz xx
  replace ss := KG5.out.ext zz
  have hT2 := keepK.out _ yy
  have hS2 := ss.cell 11
  refine hK.out _ _ hT2 (fun _ => hS2) ?_
  clear hK K
  try simp only [Act.put, List.setIfInBounds_toArray, List.set_cons_zero, List.set_cons_succ]
  refine anyK_on1 13 (by kernel_rfl) ?_
  refine anyK_one 13 (o := ?oo25) ?ho25 ?hk25
  case ho25 => (simp only [List.getElem?_toArray, List.getElem?_cons_succ, List.getElem?_cons_zero]; rfl)
  case hk25 =>
  intro K hK
  go_simp
  replace yy := (⟨_, KG5.out.ext (ext_alloc zz _), KM5.out.ext (ext_alloc zz _)⟩ : (fun W => ∃ lv, Blk W BG 100 #[.string R.name, .int .i64 R.width, .int .i64 R.height, .slice pA R.pieces.length pc, .slice sA R.start.length sc, .bool R.falls, .bool R.keeps, .slice eA R.ends.length ec, .int .i64 R.blocked, .int .i64 R.quiet, .int .i64 R.rept, lv] ∧ Blk W BM 41 #[.int .i64 mv.src, .int .i64 mv.dst, .int .i64 mv.piece]) (wf.alloc (.cells #[.slice (some ⟨g0, 0, none⟩) Q.cells.length d0, .slice (some ⟨g1, 0, none⟩) Q.hand0.length d1, .slice (some ⟨g2, 0, none⟩) Q.hand1.length d2, .int .i64 Q.turn, .int .i64 Q.quiet] 29)))
  replace ss := KG5.out.ext (ext_alloc zz (.cells #[.slice (some ⟨g0, 0, none⟩) Q.cells.length d0, .slice (some ⟨g1, 0, none⟩) Q.hand0.length d1, .slice (some ⟨g2, 0, none⟩) Q.hand1.length d2, .int .i64 Q.turn, .int .i64 Q.quiet] 29))
  have hT3 := keepK.out _ yy
  have hS3 := ss.cell 11
  refine hK.out _ _ hT3 (fun _ => hS3) ?_
  clear hK K
  try simp only [Act.put, List.setIfInBounds_toArray, List.set_cons_zero, List.set_cons_succ]
  refine anyK_on1 14 (by kernel_rfl) ?_
  refine anyK_one 14 (o := ?oo26) ?ho26 ?hk26
  case ho26 => (simp only [List.getElem?_toArray, List.getElem?_cons_succ, List.getElem?_cons_zero]; rfl)
  case hk26 =>
  intro K hK
  refine ite_yes' rfl ?_
  refine oper_append_pos (.tmp 28) (.tmp 37) rfl w0 wf l ps Q g0 g1 g2 d0 d1 d2 HP9.out rfl ((H3.out.ext X5.out).ext zz) rfl (ext_trans H56.out.2 (ext_trans X5.out zz)) (by have := HLL.out; omega) ?_
  intro v9 w9 own9 x9 g9 f9
  obtain ⟨A9, n9, c9, rfl⟩ : ∃ A n c, v9 = .slice A n c := by obtain ⟨A, c, vss, e, -⟩ := own9; exact ⟨_, _, _, e⟩
  have HNB : Hid (some BG ≠ l.ownBlock) := hide (by obtain ⟨A, c, vss, e, o, -⟩ := (H3.out.ext X5.out).ext zz; rw [e]; exact (own_blk_ne o (KG5.out.ext zz) (by decide)).symm)
  have HNM : Hid (some BM ≠ l.ownBlock) := hide (by obtain ⟨A, c, vss, e, o, -⟩ := (H3.out.ext X5.out).ext zz; rw [e]; exact (own_blk_ne o (KM5.out.ext zz) (by decide)).symm)
  replace yy := (⟨_, (KG5.out.ext zz).grown g9 HNB.out, (KM5.out.ext zz).grown g9 HNM.out⟩ : (fun W => ∃ lv, Blk W BG 100 #[.string R.name, .int .i64 R.width, .int .i64 R.height, .slice pA R.pieces.length pc, .slice sA R.start.length sc, .bool R.falls, .bool R.keeps, .slice eA R.ends.length ec, .int .i64 R.blocked, .int .i64 R.quiet, .int .i64 R.rept, lv] ∧ Blk W BM 41 #[.int .i64 mv.src, .int .i64 mv.dst, .int .i64 mv.piece]) w9)
  replace ss := (KG5.out.ext zz).grown g9 HNB.out
  have H29 := hide (((H2.out.ext X5.out).ext zz).tfr ⟨by decide, by decide, by decide, by decide⟩ f9)
  have OWN9 := hide own9
  have X9 := hide x9
  clear own9 x9 g9 f9 HNB HNM
  have hT4 := keepK.out _ yy
  have hS4 := ss.cell 11
  refine hK.out _ _ hT4 (fun _ => hS4) ?_
  clear hK K
  try simp only [Act.put, List.setIfInBounds_toArray, List.set_cons_zero, List.set_cons_succ]
  refine anyK_take 15 (oi := ?oo27) ?ho27 (by kernel_rfl) (by kernel_rfl) (by kernel_rfl) (by kernel_rfl) ?hq27 ?hw27 hT4 (fun _ => hS4) (v := ?vv27) ?hy27 ?hk27
  case ho27 => (simp only [List.getElem?_toArray, List.getElem?_cons_succ, List.getElem?_cons_zero]; rfl)
  case hq27 => exact fun _ _ _ h => h
  case hw27 => rfl
  case hy27 =>
    intro W hW
    go_simp
    first | done | with_reducible rfl
  case hk27 =>
  try simp only [Act.put, List.setIfInBounds_toArray, List.set_cons_zero, List.set_cons_succ]
  refine anyK_take 16 (oi := ?oo28) ?ho28 (by kernel_rfl) (by kernel_rfl) (by kernel_rfl) (by kernel_rfl) ?hq28 ?hw28 hT4 (fun _ => hS4) (v := ?vv28) ?hy28 ?hk28
  case ho28 => (simp only [List.getElem?_toArray, List.getElem?_cons_succ, List.getElem?_cons_zero]; rfl)
  case hq28 => exact fun _ _ _ h => h
  case hw28 => rfl
  case hy28 =>
    intro W hW
    go_simp
    first | done | with_reducible rfl
  case hk28 =>
  try simp only [Act.put, List.setIfInBounds_toArray, List.set_cons_zero, List.set_cons_succ]
  refine anyK_on1 17 (by kernel_rfl) ?_
  refine anyK_one 17 (o := ?oo29) ?ho29 ?hk29
  case ho29 => (simp only [List.getElem?_toArray, List.getElem?_cons_succ, List.getElem?_cons_zero]; rfl)
  case hk29 =>
  intro K hK
  have q5 := ss.cell
  have z5 := ss.frozen
  have KM9 : Hid (Blk w9 BM 41 #[.int .i64 mv.src, .int .i64 mv.dst, .int .i64 mv.piece]) := hide (match yy with | ⟨_, _, hm⟩ => hm)
  have HGM : Hid (BM ≠ BG) := hide (by
    rintro rfl
    have e := KM9.out.symm.trans ss
    simp only [Option.some.injEq, Obj.cells.injEq] at e
    exact absurd e.2.1 (by decide))
  have k10 := blk_put (i := 11) (u := .slice A9 n9 c9) ss (cs' := #[.string R.name, .int .i64 R.width, .int .i64 R.height, .slice pA R.pieces.length pc, .slice sA R.start.length sc, .bool R.falls, .bool R.keeps, .slice eA R.ends.length ec, .int .i64 R.blocked, .int .i64 R.quiet, .int .i64 R.rept, .slice A9 n9 c9]) rfl
  replace yy := (⟨.slice A9 n9 c9, k10, KM9.out.far (p := ⟨BG, 11, none⟩) HGM.out (.slice A9 n9 c9)⟩ : (fun W => ∃ lv, Blk W BG 100 #[.string R.name, .int .i64 R.width, .int .i64 R.height, .slice pA R.pieces.length pc, .slice sA R.start.length sc, .bool R.falls, .bool R.keeps, .slice eA R.ends.length ec, .int .i64 R.blocked, .int .i64 R.quiet, .int .i64 R.rept, lv] ∧ Blk W BM 41 #[.int .i64 mv.src, .int .i64 mv.dst, .int .i64 mv.piece]) (w9.setCell ⟨BG, 11, none⟩ (.slice A9 n9 c9)))
  have TF := hide (TFr.set (ts := [100]) ss (List.mem_singleton.2 rfl) 11 (.slice A9 n9 c9))
  have K10 := hide k10
  have HBG9 := hide H56.out.1
  have X10 := hide (ext_set X9.out (p := ⟨BG, 11, none⟩) HBG9.out (.slice A9 n9 c9))
  clear k10
  go_simp
  have hT5 := keepK.out _ yy
  refine hK.out _ _ hT5 (fun h => by cases h) ?_
  clear hK K
  try simp only [Act.put, List.setIfInBounds_toArray, List.set_cons_zero, List.set_cons_succ]
  refine anyK_done (by kernel_rfl) ?_ _
  clear keepK hT0 hT1 hT2 hT3 hT4 hT5
  try clear keepS hS0 hS1 hS2 hS3 hS4
  clear zz yy ss HNW HMK HP8 HP9
  have H210 := hide (H29.out.tfr ⟨by decide, by decide, by decide, by decide⟩ TF.out)
  have OWN10 := hide (OWN9.out.tfr (by decide) (by decide) TF.out)
  clear TF H29 OWN9 X9 KM9 q5 z5 HGM
  generalize w9.setCell ⟨BG, 11, none⟩ (.slice A9 n9 c9) = w10 at *
  go_wp2
  go_ret
  rw [HQ.out]
  exact ⟨rfl, pA, pc, sA, sc, eA, ec, base, _, K10.out, H210.out, OWN10.out, HBG9.out, X10.out⟩

set_option maxHeartbeats 2000000 in
set_option maxRecDepth 100000 in
theorem BNew_no (R : RulesM) (P : PosM) (v u : Value) (w : World) (hR : RulesAt w v R) (hP : PosAt w u P) (h : checkE R P ≠ 0) :
    Calls Try.prog 15 #[v, u] w fun e w' => e = .returned (.tuple #[.pointer none, .int .i64 (checkE R P)]) ∧ Ext w w' := by
  have HC := hide (fun W (hW : Ext w W) => PCheck_any R P v u W (hR.ext hW) (hP.ext hW))
  obtain ⟨pA, pc, sA, sc, eA, ec, rfl, -⟩ := hR
  obtain ⟨cA, cc, aA, ac, bA, bc, rfl, -⟩ := hP
  have t0 : (checkE R P != 0) = true := by simpa using h
  obtain ⟨x1, k1, k2⟩ := blks2 w #[.string R.name, .int .i64 R.width, .int .i64 R.height, .slice pA R.pieces.length pc, .slice sA R.start.length sc, .bool R.falls, .bool R.keeps, .slice eA R.ends.length ec, .int .i64 R.blocked, .int .i64 R.quiet, .int .i64 R.rept] 26 #[.slice cA P.cells.length cc, .slice aA P.hand0.length ac, .slice bA P.hand1.length bc, .int .i64 P.turn, .int .i64 P.quiet] 29
  have HX := hide x1
  have f1 := k1.cell
  have f2 := k2.cell
  clear x1 k1 k2 h
  generalize checkE R P = E at *
  go_enter Try.func15, Try.ntmps15
  go_wp2_with fail
  refine (HC.out _ HX.out).mono ?_
  rintro e w2 ⟨rfl, x2⟩
  have X2 := hide (ext_trans HX.out x2)
  clear f1 f2 x2 HX HC
  go_wp2
  go_ret2
  exact ⟨rfl, X2.out⟩
def BNewPost (w : World) (R : RulesM) (P : PosM) (e : Ending) (w' : World) : Prop := ∃ BG, e = .returned (.tuple #[.pointer (some ⟨BG, 0, none⟩), .int .i64 0]) ∧ BoardAt w w' BG R [P]
set_option maxHeartbeats 4000000 in
set_option maxRecDepth 100000 in
theorem BNew_yes (R : RulesM) (P : PosM) (v u : Value) (w : World) (hR : RulesAt w v R) (hP : PosAt w u P) (hV : Valid R) (hS : Sound R P) :
    Calls Try.prog 15 #[v, u] w (BNewPost w R P) := by
  have HC := hide (fun W (hW : Ext w W) => PCheck_any R P v u W (hR.ext hW) (hP.ext hW))
  rw [check_iff.2 ⟨hV, hS⟩] at HC
  have HCP := hide (fun W (hW : Ext w W) => Copy_any v R W (hR.ext hW) hV)
  obtain ⟨f0, f1, f2, f3, f4, f5⟩ := fit_of (R := R) (ps := [P]) hV (fun Q hQ => by rw [List.mem_singleton.1 hQ]; exact hS) P (by simp)
  have HPC := hide (fun W (hW : Ext w W) => PCopy_any P u W (hP.ext hW) f0 f1 f2 f3 f4 f5)
  unfold BNewPost
  obtain ⟨pA, pc, sA, sc, eA, ec, rfl, -⟩ := hR
  obtain ⟨cA, cc, aA, ac, bA, bc, rfl, -⟩ := hP
  obtain ⟨x1, k1, k2⟩ := blks2 w #[.string R.name, .int .i64 R.width, .int .i64 R.height, .slice pA R.pieces.length pc, .slice sA R.start.length sc, .bool R.falls, .bool R.keeps, .slice eA R.ends.length ec, .int .i64 R.blocked, .int .i64 R.quiet, .int .i64 R.rept] 26 #[.slice cA P.cells.length cc, .slice aA P.hand0.length ac, .slice bA P.hand1.length bc, .int .i64 P.turn, .int .i64 P.quiet] 29
  have HX1 := hide x1
  have K1 := hide k1
  have K2 := hide k2
  have f1 := k1.cell
  have f2 := k2.cell
  clear x1 k1 k2 hV hS f0 f3 f4 f5
  go_enter Try.func15, Try.ntmps15
  go_wp2_with fail
  refine (HC.out _ HX1.out).mono ?_
  rintro e w4 ⟨rfl, x2⟩
  have KR := hide (K1.out.ext x2)
  have KP := hide (K2.out.ext x2)
  have X4 := hide (ext_trans HX1.out x2)
  clear f1 f2 x2 HX1 HC K1 K2
  go_upto_region 4 with fail
  generalize hBP : w.heap.size + 1 = BP at *
  generalize hBR : w.heap.size = BR at *
  have HBR := hide hBR
  clear hBR hBP
  have keepK := hide (fun W (h : Ext w4 W) => (show (fun W => W.cell? ⟨BR, 0, none⟩ = some (.string R.name) ∧ W.cell? ⟨BR, 1, none⟩ = some (.int .i64 R.width) ∧ W.cell? ⟨BR, 2, none⟩ = some (.int .i64 R.height) ∧ W.cell? ⟨BR, 3, none⟩ = some (.slice pA R.pieces.length pc) ∧ W.cell? ⟨BR, 4, none⟩ = some (.slice sA R.start.length sc) ∧ W.cell? ⟨BR, 5, none⟩ = some (.bool R.falls) ∧ W.cell? ⟨BR, 6, none⟩ = some (.bool R.keeps) ∧ W.cell? ⟨BR, 7, none⟩ = some (.slice eA R.ends.length ec) ∧ W.cell? ⟨BR, 8, none⟩ = some (.int .i64 R.blocked) ∧ W.cell? ⟨BR, 9, none⟩ = some (.int .i64 R.quiet) ∧ W.cell? ⟨BR, 10, none⟩ = some (.int .i64 R.rept) ∧ W.cell? ⟨BP, 0, none⟩ = some (.slice cA P.cells.length cc) ∧ W.cell? ⟨BP, 1, none⟩ = some (.slice aA P.hand0.length ac) ∧ W.cell? ⟨BP, 2, none⟩ = some (.slice bA P.hand1.length bc) ∧ W.cell? ⟨BP, 3, none⟩ = some (.int .i64 P.turn) ∧ W.cell? ⟨BP, 4, none⟩ = some (.int .i64 P.quiet) ∧ Ext w4 W) W from ⟨(KR.out.ext h).cell 0, (KR.out.ext h).cell 1, (KR.out.ext h).cell 2, (KR.out.ext h).cell 3, (KR.out.ext h).cell 4, (KR.out.ext h).cell 5, (KR.out.ext h).cell 6, (KR.out.ext h).cell 7, (KR.out.ext h).cell 8, (KR.out.ext h).cell 9, (KR.out.ext h).cell 10, (KP.out.ext h).cell 0, (KP.out.ext h).cell 1, (KP.out.ext h).cell 2, (KP.out.ext h).cell 3, (KP.out.ext h).cell 4, h⟩))
  have yy : Ext w4 w4.drew := Below.drew (Below.refl _ _)
  refine region_K (fun W => W.cell? ⟨BR, 0, none⟩ = some (.string R.name) ∧ W.cell? ⟨BR, 1, none⟩ = some (.int .i64 R.width) ∧ W.cell? ⟨BR, 2, none⟩ = some (.int .i64 R.height) ∧ W.cell? ⟨BR, 3, none⟩ = some (.slice pA R.pieces.length pc) ∧ W.cell? ⟨BR, 4, none⟩ = some (.slice sA R.start.length sc) ∧ W.cell? ⟨BR, 5, none⟩ = some (.bool R.falls) ∧ W.cell? ⟨BR, 6, none⟩ = some (.bool R.keeps) ∧ W.cell? ⟨BR, 7, none⟩ = some (.slice eA R.ends.length ec) ∧ W.cell? ⟨BR, 8, none⟩ = some (.int .i64 R.blocked) ∧ W.cell? ⟨BR, 9, none⟩ = some (.int .i64 R.quiet) ∧ W.cell? ⟨BR, 10, none⟩ = some (.int .i64 R.rept) ∧ W.cell? ⟨BP, 0, none⟩ = some (.slice cA P.cells.length cc) ∧ W.cell? ⟨BP, 1, none⟩ = some (.slice aA P.hand0.length ac) ∧ W.cell? ⟨BP, 2, none⟩ = some (.slice bA P.hand1.length bc) ∧ W.cell? ⟨BP, 3, none⟩ = some (.int .i64 P.turn) ∧ W.cell? ⟨BP, 4, none⟩ = some (.int .i64 P.quiet) ∧ Ext w4 W) (fun _ => True) [] (by kernel_rfl) ?_
  have hT0 := keepK.out _ yy
  refine anyK_take 0 (oi := ?oo30) ?ho30 (by kernel_rfl) (by kernel_rfl) (by kernel_rfl) (by kernel_rfl) ?hq30 ?hw30 hT0 (fun _ => trivial) (v := ?vv30) ?hy30 ?hk30
  case ho30 => (simp only [List.getElem?_toArray, List.getElem?_cons_succ, List.getElem?_cons_zero]; rfl)
  case hq30 => exact fun _ _ _ h => h
  case hw30 => rfl
  case hy30 =>
    intro W hW
    obtain ⟨z0, z1, z2, z3, z4, z5, z6, z7, z8, z9, z10, z11, z12, z13, z14, z15, z16⟩ := hW
    go_simp
    first | done | with_reducible rfl
  case hk30 =>
  try simp only [Act.put, List.setIfInBounds_toArray, List.set_cons_zero, List.set_cons_succ]
  refine anyK_take 2 (oi := ?oo31) ?ho31 (by kernel_rfl) (by kernel_rfl) (by kernel_rfl) (by kernel_rfl) ?hq31 ?hw31 hT0 (fun _ => trivial) (v := ?vv31) ?hy31 ?hk31
  case ho31 => (simp only [List.getElem?_toArray, List.getElem?_cons_succ, List.getElem?_cons_zero]; rfl)
  case hq31 => exact fun _ _ _ h => h
  case hw31 => rfl
  case hy31 =>
    intro W hW
    obtain ⟨z0, z1, z2, z3, z4, z5, z6, z7, z8, z9, z10, z11, z12, z13, z14, z15, z16⟩ := hW
    go_simp
    first | done | with_reducible rfl
  case hk31 =>
  try simp only [Act.put, List.setIfInBounds_toArray, List.set_cons_zero, List.set_cons_succ]
  refine anyK_on1 1 (by kernel_rfl) ?_
  refine anyK_one 1 (o := ?oo32) ?ho32 ?hk32
  case ho32 => (simp only [List.getElem?_toArray, List.getElem?_cons_succ, List.getElem?_cons_zero]; rfl)
  case hk32 =>
  intro K hK
  go_simp
  refine (HCP.out _ (ext_trans X4.out yy)).mono ?_
  rintro e wk ⟨vr, bs, rfl, -, own, xx⟩
  try go_wp2_with fail
  replace yy := ext_trans yy xx
  have HRO := hide own
  obtain ⟨pA2, pc2, sA2, sc2, eA2, ec2, vss2, rfl, -⟩ := own
  have hT1 := keepK.out _ yy
  refine hK.out _ _ hT1 (fun _ => trivial) ?_
  clear hK K
  try simp only [Act.put, List.setIfInBounds_toArray, List.set_cons_zero, List.set_cons_succ]
  refine anyK_on1 3 (by kernel_rfl) ?_
  refine anyK_one 3 (o := ?oo33) ?ho33 ?hk33
  case ho33 => (simp only [List.getElem?_toArray, List.getElem?_cons_succ, List.getElem?_cons_zero]; rfl)
  case hk33 =>
  intro K hK
  go_simp
  refine (HPC.out _ (ext_trans X4.out yy)).mono ?_
  rintro e wl ⟨v6, rfl, own6, xx⟩
  try go_wp2_with fail
  replace yy := ext_trans yy xx
  have HP6 := hide own6.toI
  have hp := own6.toI
  obtain ⟨g0, d0, g1, d1, g2, d2, rfl, -⟩ := hp
  clear own6
  replace HRO := hide (HRO.out.ext xx)
  have hT2 := keepK.out _ yy
  refine hK.out _ _ hT2 (fun _ => trivial) ?_
  clear hK K
  try simp only [Act.put, List.setIfInBounds_toArray, List.set_cons_zero, List.set_cons_succ]
  refine anyK_on1 4 (by kernel_rfl) ?_
  refine anyK_one 4 (o := ?oo34) ?ho34 ?hk34
  case ho34 => (simp only [List.getElem?_toArray, List.getElem?_cons_succ, List.getElem?_cons_zero]; rfl)
  case hk34 =>
  intro K hK
  go_simp
  have HL : Hid (Blk (wl.alloc (.cells #[.slice (some ⟨g0, 0, none⟩) P.cells.length d0, .slice (some ⟨g1, 0, none⟩) P.hand0.length d1, .slice (some ⟨g2, 0, none⟩) P.hand1.length d2, .int .i64 P.turn, .int .i64 P.quiet] 29)) wl.heap.size 29 #[.slice (some ⟨g0, 0, none⟩) P.cells.length d0, .slice (some ⟨g1, 0, none⟩) P.hand0.length d1, .slice (some ⟨g2, 0, none⟩) P.hand1.length d2, .int .i64 P.turn, .int .i64 P.quiet]) := hide (Blk.new wl 29 #[.slice (some ⟨g0, 0, none⟩) P.cells.length d0, .slice (some ⟨g1, 0, none⟩) P.hand0.length d1, .slice (some ⟨g2, 0, none⟩) P.hand1.length d2, .int .i64 P.turn, .int .i64 P.quiet])
  replace HRO := hide (HRO.out.ext (ext_alloc (Below.refl _ _) (.cells #[.slice (some ⟨g0, 0, none⟩) P.cells.length d0, .slice (some ⟨g1, 0, none⟩) P.hand0.length d1, .slice (some ⟨g2, 0, none⟩) P.hand1.length d2, .int .i64 P.turn, .int .i64 P.quiet] 29)))
  have HPF := hide (HP6.out.ext (ext_alloc (Below.refl _ _) (.cells #[.slice (some ⟨g0, 0, none⟩) P.cells.length d0, .slice (some ⟨g1, 0, none⟩) P.hand0.length d1, .slice (some ⟨g2, 0, none⟩) P.hand1.length d2, .int .i64 P.turn, .int .i64 P.quiet] 29)))
  have HBL : Hid (w.heap.size ≤ wl.heap.size) := hide (ext_trans X4.out yy).size
  replace yy := ext_alloc yy (.cells #[.slice (some ⟨g0, 0, none⟩) P.cells.length d0, .slice (some ⟨g1, 0, none⟩) P.hand0.length d1, .slice (some ⟨g2, 0, none⟩) P.hand1.length d2, .int .i64 P.turn, .int .i64 P.quiet] 29)
  have hT3 := keepK.out _ yy
  refine hK.out _ _ hT3 (fun _ => trivial) ?_
  clear hK K
  try simp only [Act.put, List.setIfInBounds_toArray, List.set_cons_zero, List.set_cons_succ]
  refine anyK_take 5 (oi := ?oo35) ?ho35 (by kernel_rfl) (by kernel_rfl) (by kernel_rfl) (by kernel_rfl) ?hq35 ?hw35 hT3 (fun _ => trivial) (v := ?vv35) ?hy35 ?hk35
  case ho35 => (simp only [List.getElem?_toArray, List.getElem?_cons_succ, List.getElem?_cons_zero]; rfl)
  case hq35 => exact fun _ _ _ h => h
  case hw35 => rfl
  case hy35 =>
    intro W hW
    go_simp
    first | done | with_reducible rfl
  case hk35 =>
  try simp only [Act.put, List.setIfInBounds_toArray, List.set_cons_zero, List.set_cons_succ]
  refine anyK_on1 6 (by kernel_rfl) ?_
  refine anyK_one 6 (o := ?oo36) ?ho36 ?hk36
  case ho36 => (simp only [List.getElem?_toArray, List.getElem?_cons_succ, List.getElem?_cons_zero]; rfl)
  case hk36 =>
  intro K hK
  go_simp
  have HBG : Hid (w.heap.size ≤ wl.heap.size + 1) := hide (by have := HBL.out; omega)
  have HG : Hid (Blk ((wl.alloc (.cells #[.slice (some ⟨g0, 0, none⟩) P.cells.length d0, .slice (some ⟨g1, 0, none⟩) P.hand0.length d1, .slice (some ⟨g2, 0, none⟩) P.hand1.length d2, .int .i64 P.turn, .int .i64 P.quiet] 29)).alloc (.cells #[.string R.name, .int .i64 R.width, .int .i64 R.height, .slice pA2 R.pieces.length pc2, .slice sA2 R.start.length sc2, .bool R.falls, .bool R.keeps, .slice eA2 R.ends.length ec2, .int .i64 R.blocked, .int .i64 R.quiet, .int .i64 R.rept, .slice (some ⟨wl.heap.size, 0, none⟩) 1 1] 100)) (wl.heap.size + 1) 100 #[.string R.name, .int .i64 R.width, .int .i64 R.height, .slice pA2 R.pieces.length pc2, .slice sA2 R.start.length sc2, .bool R.falls, .bool R.keeps, .slice eA2 R.ends.length ec2, .int .i64 R.blocked, .int .i64 R.quiet, .int .i64 R.rept, .slice (some ⟨wl.heap.size, 0, none⟩) 1 1]) := hide (by rw [show wl.heap.size + 1 = (wl.alloc (.cells #[.slice (some ⟨g0, 0, none⟩) P.cells.length d0, .slice (some ⟨g1, 0, none⟩) P.hand0.length d1, .slice (some ⟨g2, 0, none⟩) P.hand1.length d2, .int .i64 P.turn, .int .i64 P.quiet] 29)).heap.size by simp]; exact Blk.new (wl.alloc (.cells #[.slice (some ⟨g0, 0, none⟩) P.cells.length d0, .slice (some ⟨g1, 0, none⟩) P.hand0.length d1, .slice (some ⟨g2, 0, none⟩) P.hand1.length d2, .int .i64 P.turn, .int .i64 P.quiet] 29)) 100 #[.string R.name, .int .i64 R.width, .int .i64 R.height, .slice pA2 R.pieces.length pc2, .slice sA2 R.start.length sc2, .bool R.falls, .bool R.keeps, .slice eA2 R.ends.length ec2, .int .i64 R.blocked, .int .i64 R.quiet, .int .i64 R.rept, .slice (some ⟨wl.heap.size, 0, none⟩) 1 1])
  replace HRO := hide (HRO.out.ext (ext_alloc (Below.refl _ _) (.cells #[.string R.name, .int .i64 R.width, .int .i64 R.height, .slice pA2 R.pieces.length pc2, .slice sA2 R.start.length sc2, .bool R.falls, .bool R.keeps, .slice eA2 R.ends.length ec2, .int .i64 R.blocked, .int .i64 R.quiet, .int .i64 R.rept, .slice (some ⟨wl.heap.size, 0, none⟩) 1 1] 100)))
  replace HPF := hide (HPF.out.ext (ext_alloc (Below.refl _ _) (.cells #[.string R.name, .int .i64 R.width, .int .i64 R.height, .slice pA2 R.pieces.length pc2, .slice sA2 R.start.length sc2, .bool R.falls, .bool R.keeps, .slice eA2 R.ends.length ec2, .int .i64 R.blocked, .int .i64 R.quiet, .int .i64 R.rept, .slice (some ⟨wl.heap.size, 0, none⟩) 1 1] 100)))
  replace HL := hide (HL.out.ext (ext_alloc (Below.refl _ _) (.cells #[.string R.name, .int .i64 R.width, .int .i64 R.height, .slice pA2 R.pieces.length pc2, .slice sA2 R.start.length sc2, .bool R.falls, .bool R.keeps, .slice eA2 R.ends.length ec2, .int .i64 R.blocked, .int .i64 R.quiet, .int .i64 R.rept, .slice (some ⟨wl.heap.size, 0, none⟩) 1 1] 100)))
  replace yy := ext_alloc yy (.cells #[.string R.name, .int .i64 R.width, .int .i64 R.height, .slice pA2 R.pieces.length pc2, .slice sA2 R.start.length sc2, .bool R.falls, .bool R.keeps, .slice eA2 R.ends.length ec2, .int .i64 R.blocked, .int .i64 R.quiet, .int .i64 R.rept, .slice (some ⟨wl.heap.size, 0, none⟩) 1 1] 100)
  have hT4 := keepK.out _ yy
  refine hK.out _ _ hT4 (fun _ => trivial) ?_
  clear hK K
  try simp only [Act.put, List.setIfInBounds_toArray, List.set_cons_zero, List.set_cons_succ]
  refine anyK_take 7 (oi := ?oo37) ?ho37 (by kernel_rfl) (by kernel_rfl) (by kernel_rfl) (by kernel_rfl) ?hq37 ?hw37 hT4 (fun _ => trivial) (v := ?vv37) ?hy37 ?hk37
  case ho37 => (simp only [List.getElem?_toArray, List.getElem?_cons_succ, List.getElem?_cons_zero]; rfl)
  case hq37 => exact fun _ _ _ h => h
  case hw37 => rfl
  case hy37 =>
    intro W hW
    go_simp
    first | done | with_reducible rfl
  case hk37 =>
  try simp only [Act.put, List.setIfInBounds_toArray, List.set_cons_zero, List.set_cons_succ]
  refine anyK_take 8 (oi := ?oo38) ?ho38 (by kernel_rfl) (by kernel_rfl) (by kernel_rfl) (by kernel_rfl) ?hq38 ?hw38 hT4 (fun _ => trivial) (v := ?vv38) ?hy38 ?hk38
  case ho38 => (simp only [List.getElem?_toArray, List.getElem?_cons_succ, List.getElem?_cons_zero]; rfl)
  case hq38 => exact fun _ _ _ h => h
  case hw38 => rfl
  case hy38 =>
    intro W hW
    go_simp
    first | done | with_reducible rfl
  case hk38 =>
  try simp only [Act.put, List.setIfInBounds_toArray, List.set_cons_zero, List.set_cons_succ]
  refine anyK_done (by kernel_rfl) ?_ _
  clear keepK hT0 hT1 hT2 hT3 hT4
  have HX := hide (ext_trans X4.out yy)
  go_wp2
  go_ret2
  exact ⟨_, rfl, pA2, pc2, sA2, sc2, eA2, ec2, bs, _, HG.out, HRO.out, ownP_one HL.out HBL.out HPF.out, HBG.out, HX.out⟩
end Go.Proofs.Ythmldoffonlddaa
