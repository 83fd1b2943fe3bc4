/- A board in memory; walk: (*board.Board).now. -/
import Derived.Test.YthmldoffonlddaaGRowP
import Derived.Test.YthmldoffonlddaaGAfter
import Derived.Test.YthmldoffonlddaaGZob
import Derived.Test.YthmldoffonlddaaGPerft
namespace Go.Proofs.Ythmldoffonlddaa
open Go.ChangeShapes Go.WideShapes Go.ChangeAt Go.RowKit Go.Shelf
set_option linter.unusedVariables false
set_option linter.unusedSimpArgs false
/-- The types of blocks that a board changes. -/
def tsB : List TypeId := [29, 100]
theorem int_tsB : 3 ∉ tsB := by decide
theorem rules_tsB : rulesT tsB := ⟨by decide, by decide, by decide, by decide⟩
/-- A board at block BG, all of it newer than world w0. -/
def BoardAt (w0 W : World) (BG : Nat) (R : RulesM) (ps : List PosM) : Prop :=
  ∃ pA pc sA sc eA ec base l, Blk W BG 100 #[.string R.name, .int .i64 R.width, .int .i64 R.height, .slice pA R.pieces.length pc, .slice sA R.start.length sc, .bool R.falls, .bool R.keeps, .slice eA R.ends.length ec, .int .i64 R.blocked, .int .i64 R.quiet, .int .i64 R.rept, l] ∧ RulesOwn W base (.agg #[.string R.name, .int .i64 R.width, .int .i64 R.height, .slice pA R.pieces.length pc, .slice sA R.start.length sc, .bool R.falls, .bool R.keeps, .slice eA R.ends.length ec, .int .i64 R.blocked, .int .i64 R.quiet, .int .i64 R.rept]) R ∧ OwnP w0 W l ps ∧ w0.heap.size ≤ BG ∧ Ext w0 W
theorem BoardAt.ext {w0 w W : World} {BG : Nat} {R : RulesM} {ps : List PosM} (h : BoardAt w0 w BG R ps) (x : Ext w W) : BoardAt w0 W BG R ps := by
  obtain ⟨pA, pc, sA, sc, eA, ec, base, l, h1, h2, h3, h5, h6⟩ := h
  exact ⟨pA, pc, sA, sc, eA, ec, base, l, h1.ext x, h2.ext x, h3.ext x, h5, ext_trans h6 x⟩
theorem BoardAt.old {w0 w : World} {BG : Nat} {R : RulesM} {ps : List PosM} (h : BoardAt w0 w BG R ps) : Ext w0 w := by
  obtain ⟨pA, pc, sA, sc, eA, ec, base, l, h1, h2, h3, h5, h6⟩ := h
  exact h6
set_option maxHeartbeats 2000000 in
set_option maxRecDepth 100000 in
theorem bnow_any {w0 W : World} {BG : Nat} {R : RulesM} {ps : List PosM} (hG : BoardAt w0 W BG R ps) (hl : ps.length ≤ 1000000) {P : PosM} (hP : ps.getLast? = some P) :
    Calls Try.prog 61 #[.pointer (some ⟨BG, 0, none⟩)] W (NowPost W P) := by
  obtain ⟨pA, pc, sA, sc, eA, ec, base, l, h1, -, h3, -, -⟩ := hG
  have hpos : 1 ≤ ps.length := by
    rcases ps with _ | ⟨x, l⟩
    · simp at hP
    · simp
  obtain ⟨k, hk⟩ : ∃ k, k + 1 = ps.length := ⟨ps.length - 1, by omega⟩
  have hk' : ps[k]? = some P := by
    rw [List.getLast?_eq_getElem?] at hP
    rw [← hP]; congr 1; omega
  obtain ⟨g, cap, c0, c1, c2, c3, c4, rfl, hp, q0, q1, q2, q3, q4⟩ := pos_get h3 hk'
  have HP0 := hide hp
  obtain ⟨g0, d0, g1, d1, g2, d2, e, -⟩ := hp
  simp only [Value.agg.injEq, Array.mk.injEq, List.cons.injEq, and_true] at e
  obtain ⟨rfl, rfl, rfl, rfl, rfl⟩ := e
  obtain ⟨xa, kO⟩ := blks1 W #[.slice none 0 0, .slice none 0 0, .slice none 0 0, .int .i64 0, .int .i64 0] 29
  have KO := hide kO
  have X1 := hide xa
  have f := (h1.ext xa).cell
  replace q0 := xa.cell q0
  replace q1 := xa.cell q1
  replace q2 := xa.cell q2
  replace q3 := xa.cell q3
  replace q4 := xa.cell q4
  have hw : IntKind.i64.wrap ((ps.length : Int) - 1) = (k : Int) := by rw [IntKind.wrap_i64]; omega
  have i0 : (0 : Int) ≤ (k : Int) := by omega
  have i1 : (k : Int) < (ps.length : Int) := by omega
  have hkl : k < ps.length := by omega
  have HLT := hide (Nat.le_refl W.heap.size)
  clear h1 h3 hk' hP hpos kO xa
  go_enter Try.func61, Try.ntmps61
  go_upto_region 1 with fail
  generalize W.alloc (.cells #[.slice none 0 0, .slice none 0 0, .slice none 0 0, .int .i64 0, .int .i64 0] 29) = w1 at *
  generalize hBO : W.heap.size = BO at *
  have HBO := hide hBO
  clear hBO
  have gz := KO.out.frozen
  have gc := KO.out.cell
  go_still_tail 12, (by kernel_rfl)
  go_wp2
  have K9 := Blk.drew (blk_put (i := 4) (u := .int .i64 P.quiet) (blk_put (i := 3) (u := .int .i64 P.turn) (blk_put (i := 2) (u := .slice (some ⟨g2, 0, none⟩) P.hand1.length d2) (blk_put (i := 1) (u := .slice (some ⟨g1, 0, none⟩) P.hand0.length d1) (blk_put (i := 0) (u := .slice (some ⟨g0, 0, none⟩) P.cells.length d0) KO.out rfl) rfl) rfl) rfl) (cs' := #[.slice (some ⟨g0, 0, none⟩) P.cells.length d0, .slice (some ⟨g1, 0, none⟩) P.hand0.length d1, .slice (some ⟨g2, 0, none⟩) P.hand1.length d2, .int .i64 P.turn, .int .i64 P.quiet]) rfl)
  have X9 := Below.drew ((ext_set (ext_set (ext_set (ext_set (ext_set X1.out (p := ⟨BO, 0, none⟩) (Nat.le_of_eq HBO.out) (.slice (some ⟨g0, 0, none⟩) P.cells.length d0)) (p := ⟨BO, 1, none⟩) (Nat.le_of_eq HBO.out) (.slice (some ⟨g1, 0, none⟩) P.hand0.length d1)) (p := ⟨BO, 2, none⟩) (Nat.le_of_eq HBO.out) (.slice (some ⟨g2, 0, none⟩) P.hand1.length d2)) (p := ⟨BO, 3, none⟩) (Nat.le_of_eq HBO.out) (.int .i64 P.turn)) (p := ⟨BO, 4, none⟩) (Nat.le_of_eq HBO.out) (.int .i64 P.quiet)))
  generalize (((((w1.setCell ⟨BO, 0, none⟩ (.slice (some ⟨g0, 0, none⟩) P.cells.length d0)).setCell ⟨BO, 1, none⟩ (.slice (some ⟨g1, 0, none⟩) P.hand0.length d1)).setCell ⟨BO, 2, none⟩ (.slice (some ⟨g2, 0, none⟩) P.hand1.length d2)).setCell ⟨BO, 3, none⟩ (.int .i64 P.turn)).setCell ⟨BO, 4, none⟩ (.int .i64 P.quiet)).drew = Wf at *
  clear gz gc
  have rr0 : Wf.cell? ⟨BO, 0, none⟩ = some (.slice (some ⟨g0, 0, none⟩) P.cells.length d0) := K9.cell 0
  have rr1 : Wf.cell? ⟨BO, 1, none⟩ = some (.slice (some ⟨g1, 0, none⟩) P.hand0.length d1) := K9.cell 1
  have rr2 : Wf.cell? ⟨BO, 2, none⟩ = some (.slice (some ⟨g2, 0, none⟩) P.hand1.length d2) := K9.cell 2
  have rr3 : Wf.cell? ⟨BO, 3, none⟩ = some (.int .i64 P.turn) := K9.cell 3
  have rr4 : Wf.cell? ⟨BO, 4, none⟩ = some (.int .i64 P.quiet) := K9.cell 4
  refine bodyPost_ret (v := .agg #[.slice (some ⟨g0, 0, none⟩) P.cells.length d0, .slice (some ⟨g1, 0, none⟩) P.hand0.length d1, .slice (some ⟨g2, 0, none⟩) P.hand1.length d2, .int .i64 P.turn, .int .i64 P.quiet]) ?_ rfl ?_
  · simp [results, Try.results61, go_sem, rr0, rr1, rr2, rr3, rr4]
  · exact ⟨_, rfl, HP0.out.ext X9, X9⟩
set_option maxHeartbeats 2000000 in
set_option maxRecDepth 100000 in
theorem BPosition_any {w0 W : World} {BG : Nat} {R : RulesM} {ps : List PosM} (hG : BoardAt w0 W BG R ps) (hl : ps.length ≤ 1000000) (hF : Fit ps) {P : PosM} (hP : ps.getLast? = some P) :
    Calls Try.prog 23 #[.pointer (some ⟨BG, 0, none⟩)] W (NowPost W P) := by
  have HNW := hide (fun W' (x : Ext W W') => bnow_any (hG.ext x) hl hP)
  obtain ⟨f0, f1, f2, f3, f4, f5⟩ := hF P (last_mem hP)
  have HCP := hide (fun W' (v : Value) (h : PosI W' v P) => PCopy_any P v W' h.at_ f0 f1 f2 f3 f4 f5)
  clear hG hl hF hP f0 f1 f2 f3 f4 f5
  obtain ⟨xa, kO⟩ := blks1 W #[.slice none 0 0, .slice none 0 0, .slice none 0 0, .int .i64 0, .int .i64 0] 29
  have KO := hide kO
  have X1 := hide xa
  have HLT := hide (Nat.le_refl W.heap.size)
  clear kO xa
  go_enter Try.func23, Try.ntmps23
  go_wp2_with fail
  refine (HNW.out _ X1.out).mono ?_
  rintro e w2 ⟨v2, rfl, p2, x2⟩
  have P2 := hide p2
  have X2 := hide (ext_trans X1.out x2)
  have KO2 := hide (KO.out.ext x2)
  clear p2 x2 KO X1 HNW
  generalize hBO : W.heap.size = BO at *
  have HBO := hide hBO
  clear hBO
  go_wp2_with fail
  refine (HCP.out _ _ P2.out).mono ?_
  rintro e w3 ⟨v3, rfl, p3, x3⟩
  have HP0 := hide p3.toI
  have hp := p3.toI
  obtain ⟨g0, d0, g1, d1, g2, d2, rfl, -⟩ := hp
  have X3 := hide (ext_trans X2.out x3)
  have KO3 := hide (KO2.out.ext x3)
  clear p3 x3 KO2 X2 P2 HCP
  have gz := KO3.out.frozen
  have gc := KO3.out.cell
  go_wp2
  have K9 := blk_put (i := 4) (u := .int .i64 P.quiet) (blk_put (i := 3) (u := .int .i64 P.turn) (blk_put (i := 2) (u := .slice (some ⟨g2, 0, none⟩) P.hand1.length d2) (blk_put (i := 1) (u := .slice (some ⟨g1, 0, none⟩) P.hand0.length d1) (blk_put (i := 0) (u := .slice (some ⟨g0, 0, none⟩) P.cells.length d0) KO3.out rfl) rfl) rfl) rfl) (cs' := #[.slice (some ⟨g0, 0, none⟩) P.cells.length d0, .slice (some ⟨g1, 0, none⟩) P.hand0.length d1, .slice (some ⟨g2, 0, none⟩) P.hand1.length d2, .int .i64 P.turn, .int .i64 P.quiet]) rfl
  have X9 := (ext_set (ext_set (ext_set (ext_set (ext_set X3.out (p := ⟨BO, 0, none⟩) (Nat.le_of_eq HBO.out) (.slice (some ⟨g0, 0, none⟩) P.cells.length d0)) (p := ⟨BO, 1, none⟩) (Nat.le_of_eq HBO.out) (.slice (some ⟨g1, 0, none⟩) P.hand0.length d1)) (p := ⟨BO, 2, none⟩) (Nat.le_of_eq HBO.out) (.slice (some ⟨g2, 0, none⟩) P.hand1.length d2)) (p := ⟨BO, 3, none⟩) (Nat.le_of_eq HBO.out) (.int .i64 P.turn)) (p := ⟨BO, 4, none⟩) (Nat.le_of_eq HBO.out) (.int .i64 P.quiet))
  have P9 := PosI.far5 (u0 := .slice (some ⟨g0, 0, none⟩) P.cells.length d0) (u1 := .slice (some ⟨g1, 0, none⟩) P.hand0.length d1) (u2 := .slice (some ⟨g2, 0, none⟩) P.hand1.length d2) (u3 := .int .i64 P.turn) (u4 := .int .i64 P.quiet) HP0.out KO3.out
  generalize (((((w3.setCell ⟨BO, 0, none⟩ (.slice (some ⟨g0, 0, none⟩) P.cells.length d0)).setCell ⟨BO, 1, none⟩ (.slice (some ⟨g1, 0, none⟩) P.hand0.length d1)).setCell ⟨BO, 2, none⟩ (.slice (some ⟨g2, 0, none⟩) P.hand1.length d2)).setCell ⟨BO, 3, none⟩ (.int .i64 P.turn)).setCell ⟨BO, 4, none⟩ (.int .i64 P.quiet)) = Wf at *
  clear gz gc
  have rr0 : Wf.cell? ⟨BO, 0, none⟩ = some (.slice (some ⟨g0, 0, none⟩) P.cells.length d0) := K9.cell 0
  have rr1 : Wf.cell? ⟨BO, 1, none⟩ = some (.slice (some ⟨g1, 0, none⟩) P.hand0.length d1) := K9.cell 1
  have rr2 : Wf.cell? ⟨BO, 2, none⟩ = some (.slice (some ⟨g2, 0, none⟩) P.hand1.length d2) := K9.cell 2
  have rr3 : Wf.cell? ⟨BO, 3, none⟩ = some (.int .i64 P.turn) := K9.cell 3
  have rr4 : Wf.cell? ⟨BO, 4, none⟩ = some (.int .i64 P.quiet) := K9.cell 4
  refine bodyPost_ret (v := .agg #[.slice (some ⟨g0, 0, none⟩) P.cells.length d0, .slice (some ⟨g1, 0, none⟩) P.hand0.length d1, .slice (some ⟨g2, 0, none⟩) P.hand1.length d2, .int .i64 P.turn, .int .i64 P.quiet]) ?_ rfl ?_
  · simp [results, Try.results23, go_sem, rr0, rr1, rr2, rr3, rr4]
  · exact ⟨_, rfl, P9, X9⟩
set_option maxHeartbeats 2000000 in
set_option maxRecDepth 100000 in
theorem BLen_any {w0 wa : World} {BG : Nat} {R : RulesM} {ps : List PosM} (hG : BoardAt w0 wa BG R ps) (hl : ps.length ≤ 1000000) (hl1 : 1 ≤ ps.length) :
    Calls Try.prog 20 #[.pointer (some ⟨BG, 0, none⟩)] wa fun e w' => e = .returned (.int .i64 ((ps.length : Int) - 1)) ∧ Ext wa w' := by
  obtain ⟨pA, pc, sA, sc, eA, ec, base, l, h1, -, h3, -, -⟩ := hG
  obtain ⟨A, c, vss, rfl, -⟩ := h3
  have f := h1.cell
  have hw : IntKind.i64.wrap ((ps.length : Int) - 1) = (ps.length : Int) - 1 := by rw [IntKind.wrap_i64]; omega
  clear h1
  go_enter Try.func20, Try.ntmps20
  go_wp2
  go_ret
  exact ⟨rfl, Below.refl _ _⟩
end Go.Proofs.Ythmldoffonlddaa
