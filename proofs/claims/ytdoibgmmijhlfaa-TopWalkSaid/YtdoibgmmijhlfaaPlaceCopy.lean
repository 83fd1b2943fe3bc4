/- Walks over the package place: Copy. -/
import Derived.Test.YtdoibgmmijhlfaaIRow
import Derived.Deep.RegionWith
import Derived.Deep.DrawnRows
import Derived.Laws.ResultCell
namespace Go.Proofs.Ytdoibgmmijhlfaa
open Go.ChangeShapes Go.WideShapes Go.ChangeAt Go.RowKit
set_option linter.unusedVariables false
attribute [local go_sem ↓] Go.wp_at_zero Go.wp_at_succ
set_option maxHeartbeats 1000000 in
set_option maxRecDepth 100000 in
theorem PCopy_any (P : PosM) (v : Value) (w : World) (hP : PosAt w v P) (h0 : 1 ≤ P.cells.length) (h1 : 1 ≤ P.hand0.length) (h2 : 1 ≤ P.hand1.length) (b0 : P.cells.length ≤ 100000) (b1 : P.hand0.length ≤ 100000) (b2 : P.hand1.length ≤ 100000) :
    Calls Try.prog 78 #[v] w fun e w' => ∃ v', e = .returned v' ∧ PosOwn w' w.heap.size v' P ∧ Ext w w' := by
  obtain ⟨cA, cc, aA, ac, bA, bc, rfl, hcA, haA, hbA, -⟩ := hP
  have nn : ∀ {A : Option Addr} {zs : List Int}, IntsAt w A zs → 1 ≤ zs.length → A = none → zs.length = 0 := fun hz h1 e => by
    obtain ⟨_, _, e2, _⟩ := hz 0 (by omega)
    rw [e] at e2; cases e2
  have C0 := hide (fun W (hW : Ext w W) => cloneInts_any cA P.cells.length cc P.cells W rfl (by omega) (nn hcA h0) (hcA.ext hW))
  have C1 := hide (fun W (hW : Ext w W) => cloneInts_any aA P.hand0.length ac P.hand0 W rfl (by omega) (nn haA h1) (haA.ext hW))
  have C2 := hide (fun W (hW : Ext w W) => cloneInts_any bA P.hand1.length bc P.hand1 W rfl (by omega) (nn hbA h2) (hbA.ext hW))
  have H0 := hide h0
  have H1 := hide h1
  have H2 := hide h2
  clear hcA haA hbA nn h0 h1 h2 b0 b1 b2
  go_enter Try.func78, Try.ntmps78
  go_wp2_with fail
  obtain ⟨x1, k1, k2⟩ := blks2 w #[.slice cA P.cells.length cc, .slice aA P.hand0.length ac, .slice bA P.hand1.length bc, .int .i64 P.turn, .int .i64 P.quiet] 29 #[.slice none 0 0, .slice none 0 0, .slice none 0 0, .int .i64 0, .int .i64 0] 29
  refine (C0.out _ x1).mono ?_
  rintro e w2 ⟨A0, c0, rfl, own0, x2⟩
  obtain ⟨g0, rfl, q0, r0, m0⟩ := own_irow own0 rfl H0.out
  have y2 := ext_trans x1 x2
  have l1 := k1.ext x2
  have l2 := k2.ext x2
  have hs : w.heap.size + 1 + 1 ≤ g0 := by simpa using q0
  clear x1 x2 k1 k2 own0 q0 C0
  have hB : w.heap.size ≤ w.heap.size := Nat.le_refl _
  generalize hB2 : w.heap.size + 1 = B2 at *
  generalize hB1 : w.heap.size = B1 at *
  have HB1 := hide hB1
  have HB2 := hide hB2
  clear hB1 hB2 hB
  have f1 := l1.cell
  have z1 := l1.frozen
  have hle : w.heap.size ≤ B1 := by rw [HB1.out]; exact Nat.le_refl _
  have hne : B2 ≠ B1 := by have := HB2.out; omega
  have hg0 : B2 < g0 := by omega
  have hle2 : w.heap.size ≤ B2 := by have := HB2.out; omega
  go_wp2
  have k3 := blk_put l1 (i := 0) (u := .slice (some ⟨g0, 0, none⟩) P.cells.length c0) rfl
  have l3 := l2.far (p := ⟨B1, 0, none⟩) hne (.slice (some ⟨g0, 0, none⟩) P.cells.length c0)
  have s3 := r0.far (p := ⟨B1, 0, none⟩) (by show g0 ≠ B1; have := HB2.out; omega) (.slice (some ⟨g0, 0, none⟩) P.cells.length c0)
  have y3 := ext_set y2 (p := ⟨B1, 0, none⟩) hle (.slice (some ⟨g0, 0, none⟩) P.cells.length c0)
  clear f1 z1 l1 l2 r0 y2
  generalize w2.setCell ⟨B1, 0, none⟩ (.slice (some ⟨g0, 0, none⟩) P.cells.length c0) = w3 at *
  have k3d := k3.drew
  have l3d := l3.drew
  have s3d := s3.drew
  have y3d : Ext w w3.drew := Below.drew y3
  have f3 := k3d.cell
  clear k3 l3 s3 y3
  have HG := hide hg0
  have HL := hide hle
  have HL2 := hide hle2
  have HN := hide hne
  clear hg0 hle hle2 hne hs
  go_region_with (first
    | (go_at_call 52; refine (C2.out _ y4).mono ?_; rintro e w5 ⟨A2, c2, rfl, own2, x5⟩; have z5 := (k4.ext x5).frozen; have f5 := (k4.ext x5).cell)
    | (go_at_call 52; refine (C1.out _ y3d).mono ?_; rintro e w4 ⟨A1, c1, rfl, own1, x4⟩; have y4 := ext_trans y3d x4; have k4 := k3d.ext x4; have f4 := k4.cell))
  all_goals
    have y5 := ext_trans y4 x5
    obtain ⟨g1, rfl, q1, r1, m1⟩ := own_irow own1 rfl H1.out
    obtain ⟨g2, rfl, q2, r2, m2⟩ := own_irow own2 rfl H2.out
    have q1' : g0 < g1 := Nat.lt_of_lt_of_le s3d.lt q1
    have q2' : g1 < g2 := Nat.lt_of_lt_of_le r1.lt q2
    have R0 := (s3d.ext x4).ext x5
    have R1 := r1.ext x5
    have K5 := k4.ext x5
    have L5 := (l3d.ext x4).ext x5
    have hn : ¬ B1 = B2 := fun h => HN.out h.symm
    have zl := L5.frozen
    have zc := L5.cell
    clear own1 own2 q1 q2 f3 f4 x4 x5 y4 k4 r1 s3d y3d k3d l3d C1 C2
    go_wp2
    have hne1 : ∀ g, g0 ≤ g → g ≠ B1 ∧ g ≠ B2 := fun g hg => by have := HG.out; have := HB2.out; omega
    have K6 := blk_set5 (((L5.far (p := ⟨B1, 1, none⟩) HN.out (.slice (some ⟨g1, 0, none⟩) P.hand0.length c1)).far (p := ⟨B1, 2, none⟩) HN.out (.slice (some ⟨g2, 0, none⟩) P.hand1.length c2))) (u0 := .slice (some ⟨g0, 0, none⟩) P.cells.length c0) (u1 := .slice (some ⟨g1, 0, none⟩) P.hand0.length c1) (u2 := .slice (some ⟨g2, 0, none⟩) P.hand1.length c2) (u3 := .int .i64 P.turn) (u4 := .int .i64 P.quiet)
    have X6 := (ext_set (ext_set (ext_set (ext_set (ext_set (ext_set (ext_set y5 (p := ⟨B1, 1, none⟩) HL.out (.slice (some ⟨g1, 0, none⟩) P.hand0.length c1)) (p := ⟨B1, 2, none⟩) HL.out (.slice (some ⟨g2, 0, none⟩) P.hand1.length c2)) (p := ⟨B2, 0, none⟩) HL2.out (.slice (some ⟨g0, 0, none⟩) P.cells.length c0)) (p := ⟨B2, 1, none⟩) HL2.out (.slice (some ⟨g1, 0, none⟩) P.hand0.length c1)) (p := ⟨B2, 2, none⟩) HL2.out (.slice (some ⟨g2, 0, none⟩) P.hand1.length c2)) (p := ⟨B2, 3, none⟩) HL2.out (.int .i64 P.turn)) (p := ⟨B2, 4, none⟩) HL2.out (.int .i64 P.quiet))
    have E0 := (IRow.far (IRow.far (IRow.far (IRow.far (IRow.far (IRow.far (IRow.far R0 (p := ⟨B1, 1, none⟩) (hne1 g0 (by omega)).1 (.slice (some ⟨g1, 0, none⟩) P.hand0.length c1)) (p := ⟨B1, 2, none⟩) (hne1 g0 (by omega)).1 (.slice (some ⟨g2, 0, none⟩) P.hand1.length c2)) (p := ⟨B2, 0, none⟩) (hne1 g0 (by omega)).2 (.slice (some ⟨g0, 0, none⟩) P.cells.length c0)) (p := ⟨B2, 1, none⟩) (hne1 g0 (by omega)).2 (.slice (some ⟨g1, 0, none⟩) P.hand0.length c1)) (p := ⟨B2, 2, none⟩) (hne1 g0 (by omega)).2 (.slice (some ⟨g2, 0, none⟩) P.hand1.length c2)) (p := ⟨B2, 3, none⟩) (hne1 g0 (by omega)).2 (.int .i64 P.turn)) (p := ⟨B2, 4, none⟩) (hne1 g0 (by omega)).2 (.int .i64 P.quiet))
    have E1 := (IRow.far (IRow.far (IRow.far (IRow.far (IRow.far (IRow.far (IRow.far R1 (p := ⟨B1, 1, none⟩) (hne1 g1 (by omega)).1 (.slice (some ⟨g1, 0, none⟩) P.hand0.length c1)) (p := ⟨B1, 2, none⟩) (hne1 g1 (by omega)).1 (.slice (some ⟨g2, 0, none⟩) P.hand1.length c2)) (p := ⟨B2, 0, none⟩) (hne1 g1 (by omega)).2 (.slice (some ⟨g0, 0, none⟩) P.cells.length c0)) (p := ⟨B2, 1, none⟩) (hne1 g1 (by omega)).2 (.slice (some ⟨g1, 0, none⟩) P.hand0.length c1)) (p := ⟨B2, 2, none⟩) (hne1 g1 (by omega)).2 (.slice (some ⟨g2, 0, none⟩) P.hand1.length c2)) (p := ⟨B2, 3, none⟩) (hne1 g1 (by omega)).2 (.int .i64 P.turn)) (p := ⟨B2, 4, none⟩) (hne1 g1 (by omega)).2 (.int .i64 P.quiet))
    have E2 := (IRow.far (IRow.far (IRow.far (IRow.far (IRow.far (IRow.far (IRow.far r2 (p := ⟨B1, 1, none⟩) (hne1 g2 (by omega)).1 (.slice (some ⟨g1, 0, none⟩) P.hand0.length c1)) (p := ⟨B1, 2, none⟩) (hne1 g2 (by omega)).1 (.slice (some ⟨g2, 0, none⟩) P.hand1.length c2)) (p := ⟨B2, 0, none⟩) (hne1 g2 (by omega)).2 (.slice (some ⟨g0, 0, none⟩) P.cells.length c0)) (p := ⟨B2, 1, none⟩) (hne1 g2 (by omega)).2 (.slice (some ⟨g1, 0, none⟩) P.hand0.length c1)) (p := ⟨B2, 2, none⟩) (hne1 g2 (by omega)).2 (.slice (some ⟨g2, 0, none⟩) P.hand1.length c2)) (p := ⟨B2, 3, none⟩) (hne1 g2 (by omega)).2 (.int .i64 P.turn)) (p := ⟨B2, 4, none⟩) (hne1 g2 (by omega)).2 (.int .i64 P.quiet))
    clear K5 R0 R1 r2 y5 zl zc hne1 z5 f5
    generalize (((((((w5.setCell ⟨B1, 1, none⟩ (.slice (some ⟨g1, 0, none⟩) P.hand0.length c1)).setCell ⟨B1, 2, none⟩ (.slice (some ⟨g2, 0, none⟩) P.hand1.length c2)).setCell ⟨B2, 0, none⟩ (.slice (some ⟨g0, 0, none⟩) P.cells.length c0)).setCell ⟨B2, 1, none⟩ (.slice (some ⟨g1, 0, none⟩) P.hand0.length c1)).setCell ⟨B2, 2, none⟩ (.slice (some ⟨g2, 0, none⟩) P.hand1.length c2)).setCell ⟨B2, 3, none⟩ (.int .i64 P.turn)).setCell ⟨B2, 4, none⟩ (.int .i64 P.quiet)) = Wf at *
    have rr0 : Wf.cell? ⟨B2, 0, none⟩ = some (.slice (some ⟨g0, 0, none⟩) P.cells.length c0) := K6.cell 0
    have rr1 : Wf.cell? ⟨B2, 1, none⟩ = some (.slice (some ⟨g1, 0, none⟩) P.hand0.length c1) := K6.cell 1
    have rr2 : Wf.cell? ⟨B2, 2, none⟩ = some (.slice (some ⟨g2, 0, none⟩) P.hand1.length c2) := K6.cell 2
    have rr3 : Wf.cell? ⟨B2, 3, none⟩ = some (.int .i64 P.turn) := K6.cell 3
    have rr4 : Wf.cell? ⟨B2, 4, none⟩ = some (.int .i64 P.quiet) := K6.cell 4
    refine bodyPost_ret (v := .agg #[.slice (some ⟨g0, 0, none⟩) P.cells.length c0, .slice (some ⟨g1, 0, none⟩) P.hand0.length c1, .slice (some ⟨g2, 0, none⟩) P.hand1.length c2, .int .i64 P.turn, .int .i64 P.quiet]) ?_ rfl ?_
    · simp [results, Try.results78, go_sem, rr0, rr1, rr2, rr3, rr4]
    · exact ⟨_, rfl, ⟨g0, c0, g1, c1, g2, c2, rfl, by have := HG.out; have := HL2.out; omega, q1', q2', E0, E1, E2, m0, m1, m2⟩, X6⟩
end Go.Proofs.Ytdoibgmmijhlfaa
