/- Walk: moves.Make, its cases joined. Walk: moves.After: a legal move is made, another one is refused. -/
import Derived.Test.YtdoibgmmijhlfaaGMakeA
import Derived.Test.YtdoibgmmijhlfaaGMakeB
import Derived.Test.YtdoibgmmijhlfaaGMakeC
import Derived.Test.YtdoibgmmijhlfaaGMakeP
import Derived.Test.YtdoibgmmijhlfaaGAll
namespace Go.Proofs.Ytdoibgmmijhlfaa
open Go.ChangeShapes Go.WideShapes Go.ChangeAt Go.RowKit Go.Shelf
set_option linter.unusedVariables false
theorem Make_put (R : RulesM) (P : PosM) (v u : Value) (d q : Nat) (w : World) (hR : RulesAt w v R) (hP : PosAt w u P) (hV : Valid R) (hS : Sound R P) (hm : CanPut R P d q) :
    Calls Try.prog 42 #[v, u, .agg #[.int .i64 (-1), .int .i64 (d : Int), .int .i64 (q : Int)]] w (MakePost w (makeM R P ⟨-1, d, q⟩)) := by
  rcases hS.turn with h | h
  · exact make_put0 R P v u d q w hR hP hV hS h hm
  · exact make_put1 R P v u d q w hR hP hV hS h hm
theorem Make_step (R : RulesM) (P : PosM) (v u : Value) (s d q : Nat) (w : World) (hR : RulesAt w v R) (hP : PosAt w u P) (hV : Valid R) (hS : Sound R P) (hm : CanStep R P s d q) :
    Calls Try.prog 42 #[v, u, .agg #[.int .i64 (s : Int), .int .i64 (d : Int), .int .i64 (q : Int)]] w (MakePost w (makeM R P ⟨s, d, q⟩)) := by
  have hb : 0 ≤ P.cells.getD d 0 := (hS.cells _ (by simp [hm.dst])).1
  by_cases hz : P.cells.getD d 0 = 0
  · rcases hS.turn with h | h
    · exact make_free0 R P v u s d q w hR hP hV hS h hm hz
    · exact make_free1 R P v u s d q w hR hP hV hS h hm hz
  · have hz' : 0 < P.cells.getD d 0 := by omega
    cases hk : R.keeps
    · rcases hS.turn with h | h
      · exact make_take0 R P v u s d q w hR hP hV hS h hm hz' hk
      · exact make_take1 R P v u s d q w hR hP hV hS h hm hz' hk
    · rcases hS.turn with h | h
      · exact make_keep0 R P v u s d q w hR hP hV hS h hm hz' hk
      · exact make_keep1 R P v u s d q w hR hP hV hS h hm hz' hk
end Go.Proofs.Ytdoibgmmijhlfaa
namespace Go.Proofs.Ytdoibgmmijhlfaa
open Go.ChangeShapes Go.WideShapes Go.ChangeAt Go.RowKit Go.Shelf
set_option linter.unusedVariables false
theorem Make_any (R : RulesM) (P : PosM) (m : MoveM) (v u : Value) (w : World) (hR : RulesAt w v R) (hP : PosAt w u P) (hV : Valid R) (hS : Sound R P) (hm : m ∈ rawM R P) :
    Calls Try.prog 42 #[v, u, .agg #[.int .i64 m.src, .int .i64 m.dst, .int .i64 m.piece]] w (MakePost w (makeM R P m)) := by
  rcases rawM_cases hV hS hm with ⟨d, q, rfl, hc, -⟩ | ⟨s, d, q, rfl, hc, -, -⟩
  · exact Make_put R P v u d q w hR hP hV hS hc
  · exact Make_step R P v u s d q w hR hP hV hS hc
def AfterPost (w : World) (Q : PosM) (e : Ending) (w' : World) : Prop := ∃ v', e = .returned (.tuple #[v', .int .i64 0]) ∧ PosOwn w' w.heap.size v' Q ∧ Ext w w'
theorem PosOwn.base {w : World} {B B' : Nat} {v : Value} {P : PosM} (h : PosOwn w B v P) (hb : B' ≤ B) : PosOwn w B' v P := by
  obtain ⟨g0, c0, g1, c1, g2, c2, e, b, r⟩ := h
  exact ⟨g0, c0, g1, c1, g2, c2, e, Nat.le_trans hb b, r⟩
set_option maxHeartbeats 2000000 in
set_option maxRecDepth 100000 in
theorem After_yes (R : RulesM) (P : PosM) (m : MoveM) (v u : Value) (w : World) (hR : RulesAt w v R) (hP : PosAt w u P) (hV : Valid R) (hS : Sound R P) (hm : m ∈ listM R P) :
    Calls Try.prog 12 #[v, u, .agg #[.int .i64 m.src, .int .i64 m.dst, .int .i64 m.piece]] w (AfterPost w (makeM R P m)) := by
  have HL := hide (fun W (hW : Ext w W) => Legal_yes R P m v u W (hR.ext hW) (hP.ext hW) hV hS)
  have HM := hide (fun W (hW : Ext w W) => Make_any R P m v u W (hR.ext hW) (hP.ext hW) hV hS (mem_listM.1 hm))
  rw [decide_eq_true hm] at HL
  obtain ⟨pA, pc, sA, sc, eA, ec, rfl, -⟩ := hR
  obtain ⟨cA, cc, aA, ac, bA, bc, rfl, -⟩ := hP
  generalize makeM R P m = Q at *
  obtain ⟨x1, k1, k2, k3, k4⟩ := blks4 w #[.string R.name, .int .i64 R.width, .int .i64 R.height, .slice pA R.pieces.length pc, .slice sA R.start.length sc, .bool R.falls, .bool R.keeps, .slice eA R.ends.length ec, .int .i64 R.blocked, .int .i64 R.quiet, .int .i64 R.rept] 26 #[.slice cA P.cells.length cc, .slice aA P.hand0.length ac, .slice bA P.hand1.length bc, .int .i64 P.turn, .int .i64 P.quiet] 29 #[.int .i64 m.src, .int .i64 m.dst, .int .i64 m.piece] 37 #[.slice none 0 0, .slice none 0 0, .slice none 0 0, .int .i64 0, .int .i64 0] 29
  have HX := hide x1
  have K1 := hide k1
  have K2 := hide k2
  have K3 := hide k3
  have K4 := hide k4
  clear x1 k1 k2 k3 k4 hm hV hS
  have f1 := K1.out.cell
  have f2 := K2.out.cell
  have f3 := K3.out.cell
  go_enter Try.func12, Try.ntmps12
  go_wp2_with fail
  refine (HL.out _ HX.out).mono ?_
  rintro e w2 ⟨rfl, x2⟩
  have X2 := hide (ext_trans HX.out x2)
  have g1 := (K1.out.ext x2).cell
  have g2 := (K2.out.ext x2).cell
  have g3 := (K3.out.ext x2).cell
  have L4 := hide (K4.out.ext x2)
  clear f1 f2 f3 x2
  go_wp2_with fail
  refine (HM.out _ X2.out).mono ?_
  rintro e w3 ⟨v', rfl, hown, x3⟩
  have hb : Hid (w.heap.size + 1 + 1 + 1 < w2.heap.size) := hide L4.out.lt
  obtain ⟨g0, c0, h1, c1, h2, c2, rfl, q0, q1, q2, r0, r1, r2, m0, m1, m2⟩ := hown
  have y3 := ext_trans X2.out x3
  have l4 := L4.out.ext x3
  have hlt : w.heap.size ≤ w.heap.size + 1 + 1 + 1 := by omega
  clear x3 X2 L4 g1 g2 g3
  have HB := hide (show w.heap.size ≤ g0 ∧ w.heap.size + 1 + 1 + 1 < g0 by have := hb.out; omega)
  have Q1 := hide q1
  have Q2 := hide q2
  have M := hide (And.intro m0 (And.intro m1 m2))
  clear q0 q1 q2 hb m0 m1 m2 HL HM
  generalize w.heap.size + 1 + 1 + 1 = B4 at *
  have z := l4.frozen
  have f := l4.cell
  go_wp2
  have K := blk_set5 l4 (u0 := .slice (some ⟨g0, 0, none⟩) Q.cells.length c0) (u1 := .slice (some ⟨h1, 0, none⟩) Q.hand0.length c1) (u2 := .slice (some ⟨h2, 0, none⟩) Q.hand1.length c2) (u3 := .int .i64 Q.turn) (u4 := .int .i64 Q.quiet)
  have X := (ext_set (ext_set (ext_set (ext_set (ext_set y3 (p := ⟨B4, 0, none⟩) hlt (.slice (some ⟨g0, 0, none⟩) Q.cells.length c0)) (p := ⟨B4, 1, none⟩) hlt (.slice (some ⟨h1, 0, none⟩) Q.hand0.length c1)) (p := ⟨B4, 2, none⟩) hlt (.slice (some ⟨h2, 0, none⟩) Q.hand1.length c2)) (p := ⟨B4, 3, none⟩) hlt (.int .i64 Q.turn)) (p := ⟨B4, 4, none⟩) hlt (.int .i64 Q.quiet))
  have E0 := (IRow.far (IRow.far (IRow.far (IRow.far (IRow.far r0 (p := ⟨B4, 0, none⟩) (by have := HB.out; show g0 ≠ B4; omega) (.slice (some ⟨g0, 0, none⟩) Q.cells.length c0)) (p := ⟨B4, 1, none⟩) (by have := HB.out; show g0 ≠ B4; omega) (.slice (some ⟨h1, 0, none⟩) Q.hand0.length c1)) (p := ⟨B4, 2, none⟩) (by have := HB.out; show g0 ≠ B4; omega) (.slice (some ⟨h2, 0, none⟩) Q.hand1.length c2)) (p := ⟨B4, 3, none⟩) (by have := HB.out; show g0 ≠ B4; omega) (.int .i64 Q.turn)) (p := ⟨B4, 4, none⟩) (by have := HB.out; show g0 ≠ B4; omega) (.int .i64 Q.quiet))
  have E1 := (IRow.far (IRow.far (IRow.far (IRow.far (IRow.far r1 (p := ⟨B4, 0, none⟩) (by have := HB.out; have := Q1.out; show h1 ≠ B4; omega) (.slice (some ⟨g0, 0, none⟩) Q.cells.length c0)) (p := ⟨B4, 1, none⟩) (by have := HB.out; have := Q1.out; show h1 ≠ B4; omega) (.slice (some ⟨h1, 0, none⟩) Q.hand0.length c1)) (p := ⟨B4, 2, none⟩) (by have := HB.out; have := Q1.out; show h1 ≠ B4; omega) (.slice (some ⟨h2, 0, none⟩) Q.hand1.length c2)) (p := ⟨B4, 3, none⟩) (by have := HB.out; have := Q1.out; show h1 ≠ B4; omega) (.int .i64 Q.turn)) (p := ⟨B4, 4, none⟩) (by have := HB.out; have := Q1.out; show h1 ≠ B4; omega) (.int .i64 Q.quiet))
  have E2 := (IRow.far (IRow.far (IRow.far (IRow.far (IRow.far r2 (p := ⟨B4, 0, none⟩) (by have := HB.out; have := Q1.out; have := Q2.out; show h2 ≠ B4; omega) (.slice (some ⟨g0, 0, none⟩) Q.cells.length c0)) (p := ⟨B4, 1, none⟩) (by have := HB.out; have := Q1.out; have := Q2.out; show h2 ≠ B4; omega) (.slice (some ⟨h1, 0, none⟩) Q.hand0.length c1)) (p := ⟨B4, 2, none⟩) (by have := HB.out; have := Q1.out; have := Q2.out; show h2 ≠ B4; omega) (.slice (some ⟨h2, 0, none⟩) Q.hand1.length c2)) (p := ⟨B4, 3, none⟩) (by have := HB.out; have := Q1.out; have := Q2.out; show h2 ≠ B4; omega) (.int .i64 Q.turn)) (p := ⟨B4, 4, none⟩) (by have := HB.out; have := Q1.out; have := Q2.out; show h2 ≠ B4; omega) (.int .i64 Q.quiet))
  clear y3 l4 z f r0 r1 r2
  generalize (((((w3.setCell ⟨B4, 0, none⟩ (.slice (some ⟨g0, 0, none⟩) Q.cells.length c0)).setCell ⟨B4, 1, none⟩ (.slice (some ⟨h1, 0, none⟩) Q.hand0.length c1)).setCell ⟨B4, 2, none⟩ (.slice (some ⟨h2, 0, none⟩) Q.hand1.length c2)).setCell ⟨B4, 3, none⟩ (.int .i64 Q.turn)).setCell ⟨B4, 4, none⟩ (.int .i64 Q.quiet)) = Wf at *
  have rr0 : Wf.cell? ⟨B4, 0, none⟩ = some (.slice (some ⟨g0, 0, none⟩) Q.cells.length c0) := K.cell 0
  have rr1 : Wf.cell? ⟨B4, 1, none⟩ = some (.slice (some ⟨h1, 0, none⟩) Q.hand0.length c1) := K.cell 1
  have rr2 : Wf.cell? ⟨B4, 2, none⟩ = some (.slice (some ⟨h2, 0, none⟩) Q.hand1.length c2) := K.cell 2
  have rr3 : Wf.cell? ⟨B4, 3, none⟩ = some (.int .i64 Q.turn) := K.cell 3
  have rr4 : Wf.cell? ⟨B4, 4, none⟩ = some (.int .i64 Q.quiet) := K.cell 4
  refine bodyPost_ret (v := .tuple #[.agg #[.slice (some ⟨g0, 0, none⟩) Q.cells.length c0, .slice (some ⟨h1, 0, none⟩) Q.hand0.length c1, .slice (some ⟨h2, 0, none⟩) Q.hand1.length c2, .int .i64 Q.turn, .int .i64 Q.quiet], .int .i64 0]) ?_ rfl ?_
  · simp [results, Try.results12, go_sem, rr0, rr1, rr2, rr3, rr4]
  · exact ⟨_, rfl, ⟨g0, c0, h1, c1, h2, c2, rfl, HB.out.1, Q1.out, Q2.out, E0, E1, E2, M.out⟩, X⟩
set_option maxHeartbeats 2000000 in
set_option maxRecDepth 100000 in
theorem After_ill (R : RulesM) (P : PosM) (m : MoveM) (v u : Value) (w : World) (hR : RulesAt w v R) (hP : PosAt w u P) (hV : Valid R) (hS : Sound R P) (hm : ¬ m ∈ listM R P) :
    Calls Try.prog 12 #[v, u, .agg #[.int .i64 m.src, .int .i64 m.dst, .int .i64 m.piece]] w fun e w' => e = .returned (.tuple #[zeroPos, .int .i64 13]) ∧ Ext w w' := by
  have HL := hide (fun W (hW : Ext w W) => Legal_yes R P m v u W (hR.ext hW) (hP.ext hW) hV hS)
  rw [decide_eq_false hm] at HL
  clear hV hS hm
  obtain ⟨pA, pc, sA, sc, eA, ec, rfl, -⟩ := hR
  obtain ⟨cA, cc, aA, ac, bA, bc, rfl, -⟩ := hP
  obtain ⟨x1, k1, k2, k3, k4⟩ := blks4 w #[.string R.name, .int .i64 R.width, .int .i64 R.height, .slice pA R.pieces.length pc, .slice sA R.start.length sc, .bool R.falls, .bool R.keeps, .slice eA R.ends.length ec, .int .i64 R.blocked, .int .i64 R.quiet, .int .i64 R.rept] 26 #[.slice cA P.cells.length cc, .slice aA P.hand0.length ac, .slice bA P.hand1.length bc, .int .i64 P.turn, .int .i64 P.quiet] 29 #[.int .i64 m.src, .int .i64 m.dst, .int .i64 m.piece] 37 #[.slice none 0 0, .slice none 0 0, .slice none 0 0, .int .i64 0, .int .i64 0] 29
  have HX := hide x1
  have K4 := hide k4
  have f1 := k1.cell
  have f2 := k2.cell
  have f3 := k3.cell
  clear x1 k1 k2 k3 k4
  go_enter Try.func12, Try.ntmps12
  go_wp2_with fail
  refine (HL.out _ HX.out).mono ?_
  rintro e w2 ⟨rfl, x2⟩
  have y3 := ext_trans HX.out x2
  have l4 := K4.out.ext x2
  have hlt : w.heap.size ≤ w.heap.size + 1 + 1 + 1 := by omega
  clear f1 f2 f3 x2 HL HX K4
  generalize w.heap.size + 1 + 1 + 1 = B4 at *
  have z := l4.frozen
  have f := l4.cell
  go_wp2
  have K := blk_set5 l4 (u0 := .slice none 0 0) (u1 := .slice none 0 0) (u2 := .slice none 0 0) (u3 := .int .i64 0) (u4 := .int .i64 0)
  have X := (ext_set (ext_set (ext_set (ext_set (ext_set y3 (p := ⟨B4, 0, none⟩) hlt (.slice none 0 0)) (p := ⟨B4, 1, none⟩) hlt (.slice none 0 0)) (p := ⟨B4, 2, none⟩) hlt (.slice none 0 0)) (p := ⟨B4, 3, none⟩) hlt (.int .i64 0)) (p := ⟨B4, 4, none⟩) hlt (.int .i64 0))
  generalize (((((w2.setCell ⟨B4, 0, none⟩ (.slice none 0 0)).setCell ⟨B4, 1, none⟩ (.slice none 0 0)).setCell ⟨B4, 2, none⟩ (.slice none 0 0)).setCell ⟨B4, 3, none⟩ (.int .i64 0)).setCell ⟨B4, 4, none⟩ (.int .i64 0)) = Wf at *
  have rr0 : Wf.cell? ⟨B4, 0, none⟩ = some (.slice none 0 0) := K.cell 0
  have rr1 : Wf.cell? ⟨B4, 1, none⟩ = some (.slice none 0 0) := K.cell 1
  have rr2 : Wf.cell? ⟨B4, 2, none⟩ = some (.slice none 0 0) := K.cell 2
  have rr3 : Wf.cell? ⟨B4, 3, none⟩ = some (.int .i64 0) := K.cell 3
  have rr4 : Wf.cell? ⟨B4, 4, none⟩ = some (.int .i64 0) := K.cell 4
  refine bodyPost_ret (v := .tuple #[zeroPos, .int .i64 13]) ?_ rfl ?_
  · simp [results, Try.results12, go_sem, rr0, rr1, rr2, rr3, rr4]
  · exact ⟨rfl, X⟩
set_option maxHeartbeats 2000000 in
set_option maxRecDepth 100000 in
theorem After_no (R : RulesM) (P : PosM) (m : MoveM) (v u : Value) (w : World) (hR : RulesAt w v R) (hP : PosAt w u P) (h : checkE R P ≠ 0) :
    Calls Try.prog 12 #[v, u, .agg #[.int .i64 m.src, .int .i64 m.dst, .int .i64 m.piece]] w fun e w' => e = .returned (.tuple #[zeroPos, .int .i64 (checkE R P)]) ∧ Ext w w' := by
  have HL := hide (fun W (hW : Ext w W) => Legal_no R P m v u W (hR.ext hW) (hP.ext hW) h)
  have hn : (checkE R P != 0) = true := by simpa using h
  clear h
  generalize checkE R P = E at *
  obtain ⟨pA, pc, sA, sc, eA, ec, rfl, -⟩ := hR
  obtain ⟨cA, cc, aA, ac, bA, bc, rfl, -⟩ := hP
  obtain ⟨x1, k1, k2, k3, k4⟩ := blks4 w #[.string R.name, .int .i64 R.width, .int .i64 R.height, .slice pA R.pieces.length pc, .slice sA R.start.length sc, .bool R.falls, .bool R.keeps, .slice eA R.ends.length ec, .int .i64 R.blocked, .int .i64 R.quiet, .int .i64 R.rept] 26 #[.slice cA P.cells.length cc, .slice aA P.hand0.length ac, .slice bA P.hand1.length bc, .int .i64 P.turn, .int .i64 P.quiet] 29 #[.int .i64 m.src, .int .i64 m.dst, .int .i64 m.piece] 37 #[.slice none 0 0, .slice none 0 0, .slice none 0 0, .int .i64 0, .int .i64 0] 29
  have HX := hide x1
  have K4 := hide k4
  have f1 := k1.cell
  have f2 := k2.cell
  have f3 := k3.cell
  clear x1 k1 k2 k3 k4
  go_enter Try.func12, Try.ntmps12
  go_wp2_with fail
  refine (HL.out _ HX.out).mono ?_
  rintro e w2 ⟨rfl, x2⟩
  have y3 := ext_trans HX.out x2
  have l4 := K4.out.ext x2
  have hlt : w.heap.size ≤ w.heap.size + 1 + 1 + 1 := by omega
  clear f1 f2 f3 x2 HL HX K4
  generalize w.heap.size + 1 + 1 + 1 = B4 at *
  have z := l4.frozen
  have f := l4.cell
  go_wp2
  have K := blk_set5 l4 (u0 := .slice none 0 0) (u1 := .slice none 0 0) (u2 := .slice none 0 0) (u3 := .int .i64 0) (u4 := .int .i64 0)
  have X := (ext_set (ext_set (ext_set (ext_set (ext_set y3 (p := ⟨B4, 0, none⟩) hlt (.slice none 0 0)) (p := ⟨B4, 1, none⟩) hlt (.slice none 0 0)) (p := ⟨B4, 2, none⟩) hlt (.slice none 0 0)) (p := ⟨B4, 3, none⟩) hlt (.int .i64 0)) (p := ⟨B4, 4, none⟩) hlt (.int .i64 0))
  generalize (((((w2.setCell ⟨B4, 0, none⟩ (.slice none 0 0)).setCell ⟨B4, 1, none⟩ (.slice none 0 0)).setCell ⟨B4, 2, none⟩ (.slice none 0 0)).setCell ⟨B4, 3, none⟩ (.int .i64 0)).setCell ⟨B4, 4, none⟩ (.int .i64 0)) = Wf at *
  have rr0 : Wf.cell? ⟨B4, 0, none⟩ = some (.slice none 0 0) := K.cell 0
  have rr1 : Wf.cell? ⟨B4, 1, none⟩ = some (.slice none 0 0) := K.cell 1
  have rr2 : Wf.cell? ⟨B4, 2, none⟩ = some (.slice none 0 0) := K.cell 2
  have rr3 : Wf.cell? ⟨B4, 3, none⟩ = some (.int .i64 0) := K.cell 3
  have rr4 : Wf.cell? ⟨B4, 4, none⟩ = some (.int .i64 0) := K.cell 4
  refine bodyPost_ret (v := .tuple #[zeroPos, .int .i64 E]) ?_ rfl ?_
  · simp [results, Try.results12, go_sem, rr0, rr1, rr2, rr3, rr4]
  · exact ⟨rfl, X⟩
end Go.Proofs.Ytdoibgmmijhlfaa
