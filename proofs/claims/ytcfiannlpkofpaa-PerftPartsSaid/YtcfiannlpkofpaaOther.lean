/- Walks over the package place: Other. -/
import Derived.Test.YtcfiannlpkofpaaGPlace
import Derived.Test.YtcfiannlpkofpaaPlaceCopy
import Derived.Laws.ResultCell
namespace Go.Proofs.Ytcfiannlpkofpaa
open Go.ChangeShapes Go.WideShapes Go.ChangeAt Go.RowKit Go.Shelf
set_option linter.unusedVariables false
def otherP (R : RulesM) (P : PosM) : PosM := { cells := turnCells R.width R.height P.cells, hand0 := P.hand1, hand1 := P.hand0, turn := 1 - P.turn, quiet := P.quiet }
/-- What sound positions are. -/
structure Sound (R : RulesM) (P : PosM) : Prop where
  area : (P.cells.length : Int) = R.width * R.height
  len0 : P.hand0.length = R.pieces.length
  len1 : P.hand1.length = R.pieces.length
  cells : ∀ c ∈ P.cells, 0 ≤ c ∧ c ≤ 2 * (R.pieces.length : Int)
  held0 : ∀ c ∈ P.hand0, 0 ≤ c ∧ c ≤ 1000
  held1 : ∀ c ∈ P.hand1, 0 ≤ c ∧ c ≤ 1000
  turn : P.turn = 0 ∨ P.turn = 1
  quiet : 0 ≤ P.quiet ∧ P.quiet ≤ 200
theorem sound_of {R : RulesM} {P : PosM} (h : soundE R P = 0) : Sound R P := by
  unfold soundE at h
  cases hf : formB R P
  · rw [hf] at h; simp at h
  rw [hf, if_pos rfl] at h
  cases hr : rangeB R.pieces.length P
  · rw [hr] at h; simp at h
  unfold formB at hf
  unfold rangeB at hr
  simp only [Bool.and_eq_true, decide_eq_true_eq, List.all_eq_true, Bool.or_eq_true, inB_iff, List.mem_append] at hf hr
  exact ⟨hf.1, hf.2.1, hf.2.2, hr.1, fun c hc => hr.2.1 c (.inl hc), fun c hc => hr.2.1 c (.inr hc), hr.2.2.1, hr.2.2.2⟩
theorem of_sound {R : RulesM} {P : PosM} (h : Sound R P) : soundE R P = 0 := by
  have hf : formB R P = true := by unfold formB; simp [h.area, h.len0, h.len1]
  have hr : rangeB R.pieces.length P = true := by
    unfold rangeB
    simp only [Bool.and_eq_true, decide_eq_true_eq, List.all_eq_true, Bool.or_eq_true, inB_iff, List.mem_append]
    exact ⟨h.cells, fun c hc => hc.elim (h.held0 c) (h.held1 c), h.turn, h.quiet⟩
  unfold soundE
  rw [hf, hr]
  rfl
theorem check_iff {R : RulesM} {P : PosM} : checkE R P = 0 ↔ Valid R ∧ Sound R P := by
  unfold checkE
  by_cases h : rulesE R = 0
  · rw [if_pos h]
    exact ⟨fun k => ⟨valid_of h, sound_of k⟩, fun k => of_sound k.2⟩
  · rw [if_neg h]
    exact ⟨fun k => absurd k h, fun k => absurd (of_valid k.1) h⟩
abbrev zeroPos : Value := .agg #[.slice none 0 0, .slice none 0 0, .slice none 0 0, .int .i64 0, .int .i64 0]
set_option maxHeartbeats 1000000 in
set_option maxRecDepth 100000 in
theorem Other_no (R : RulesM) (P : PosM) (v u : Value) (w : World) (hR : RulesAt w v R) (hP : PosAt w u P) (h : checkE R P ≠ 0) :
    Calls Try.prog 19 #[v, u] w fun e w' => e = .returned (.tuple #[zeroPos, .int .i64 (checkE R P)]) ∧ Ext w w' := by
  have HC := hide (fun W (hW : Ext w W) => PCheck_any R P v u W (hR.ext hW) (hP.ext hW))
  obtain ⟨pA, pc, sA, sc, eA, ec, rfl, -⟩ := hR
  obtain ⟨cA, cc, aA, ac, bA, bc, rfl, -⟩ := hP
  have hn : (checkE R P != 0) = true := by simpa using h
  clear h
  generalize checkE R P = E at *
  go_enter Try.func19, Try.ntmps19
  go_wp2_with fail
  obtain ⟨x1, k1, k2, k3⟩ := blks3 w #[.string R.name, .int .i64 R.width, .int .i64 R.height, .slice pA R.pieces.length pc, .slice sA R.start.length sc, .bool R.falls, .bool R.keeps, .slice eA R.ends.length ec, .int .i64 R.blocked, .int .i64 R.quiet, .int .i64 R.rept] 26 #[.slice cA P.cells.length cc, .slice aA P.hand0.length ac, .slice bA P.hand1.length bc, .int .i64 P.turn, .int .i64 P.quiet] 36 #[.slice none 0 0, .slice none 0 0, .slice none 0 0, .int .i64 0, .int .i64 0] 36
  refine (HC.out _ x1).mono ?_
  rintro e w2 ⟨rfl, x2⟩
  have k := k3.ext x2
  have hlt : w.heap.size ≤ w.heap.size + 1 + 1 := by omega
  have y2 := ext_trans x1 x2
  clear x1 x2 k1 k2 k3
  generalize w.heap.size + 1 + 1 = B3 at *
  have z := k.frozen
  have f := k.cell
  go_wp2
  have K := blk_set5 k (u0 := .slice none 0 0) (u1 := .slice none 0 0) (u2 := .slice none 0 0) (u3 := .int .i64 0) (u4 := .int .i64 0)
  have X := (ext_set (ext_set (ext_set (ext_set (ext_set y2 (p := ⟨B3, 0, none⟩) hlt (.slice none 0 0)) (p := ⟨B3, 1, none⟩) hlt (.slice none 0 0)) (p := ⟨B3, 2, none⟩) hlt (.slice none 0 0)) (p := ⟨B3, 3, none⟩) hlt (.int .i64 0)) (p := ⟨B3, 4, none⟩) hlt (.int .i64 0))
  generalize (((((w2.setCell ⟨B3, 0, none⟩ (.slice none 0 0)).setCell ⟨B3, 1, none⟩ (.slice none 0 0)).setCell ⟨B3, 2, none⟩ (.slice none 0 0)).setCell ⟨B3, 3, none⟩ (.int .i64 0)).setCell ⟨B3, 4, none⟩ (.int .i64 0)) = Wf at *
  have rr0 : Wf.cell? ⟨B3, 0, none⟩ = some (.slice none 0 0) := K.cell 0
  have rr1 : Wf.cell? ⟨B3, 1, none⟩ = some (.slice none 0 0) := K.cell 1
  have rr2 : Wf.cell? ⟨B3, 2, none⟩ = some (.slice none 0 0) := K.cell 2
  have rr3 : Wf.cell? ⟨B3, 3, none⟩ = some (.int .i64 0) := K.cell 3
  have rr4 : Wf.cell? ⟨B3, 4, none⟩ = some (.int .i64 0) := K.cell 4
  refine bodyPost_ret (v := .tuple #[zeroPos, .int .i64 E]) ?_ rfl ?_
  · simp [results, Try.results19, go_sem, rr0, rr1, rr2, rr3, rr4]
  · exact ⟨rfl, X⟩
set_option maxHeartbeats 2000000 in
set_option maxRecDepth 100000 in
theorem Other_yes (R : RulesM) (P : PosM) (v u : Value) (w : World) (hR : RulesAt w v R) (hP : PosAt w u P) (hV : Valid R) (hS : Sound R P) :
    Calls Try.prog 19 #[v, u] w fun e w' => ∃ v', e = .returned (.tuple #[v', .int .i64 0]) ∧ PosAt w' v' (otherP R P) ∧ Ext w w' := by
  have h0 := check_iff.2 ⟨hV, hS⟩
  have HC := hide (fun W (hW : Ext w W) => h0 ▸ PCheck_any R P v u W (hR.ext hW) (hP.ext hW))
  have har := area_bd _ _ hV.side
  have ha := hS.area
  have hp0 := hV.pieces0
  have hp6 := hV.pieces6
  have HCP := hide (fun W (hW : Ext w W) => PCopy_any P u W (hP.ext hW) (by omega) (by rw [hS.len0]; omega) (by rw [hS.len1]; omega) (by omega) (by rw [hS.len0]; omega) (by rw [hS.len1]; omega))
  obtain ⟨pA, pc, sA, sc, eA, ec, rfl, -⟩ := hR
  obtain ⟨cA, cc, aA, ac, bA, bc, rfl, hc, -⟩ := hP
  have HT := hide (fun W (hW : Ext w W) => Turned_any (.string R.name) (.slice pA R.pieces.length pc) (.slice sA R.start.length sc) (.bool R.falls) (.bool R.keeps) (.slice eA R.ends.length ec) (.int .i64 R.blocked) (.int .i64 R.quiet) (.int .i64 R.rept) R.width R.height cA P.cells.length cc P.cells W hV.side rfl hS.area (hc.ext hW) (fun c hc => ⟨(hS.cells c hc).1, by have := (hS.cells c hc).2; omega⟩))
  have HS := hide hS
  have ht := hS.turn
  clear hc h0 hS hV har ha hp0 hp6
  go_enter Try.func19, Try.ntmps19
  go_wp2_with fail
  obtain ⟨x1, k1, k2, k3⟩ := blks3 w #[.string R.name, .int .i64 R.width, .int .i64 R.height, .slice pA R.pieces.length pc, .slice sA R.start.length sc, .bool R.falls, .bool R.keeps, .slice eA R.ends.length ec, .int .i64 R.blocked, .int .i64 R.quiet, .int .i64 R.rept] 26 #[.slice cA P.cells.length cc, .slice aA P.hand0.length ac, .slice bA P.hand1.length bc, .int .i64 P.turn, .int .i64 P.quiet] 36 #[.slice none 0 0, .slice none 0 0, .slice none 0 0, .int .i64 0, .int .i64 0] 36
  refine (HC.out _ x1).mono ?_
  rintro e w2 ⟨rfl, x2⟩
  have l1 := k1.ext x2
  have l2 := k2.ext x2
  have l3 := k3.ext x2
  have y2 := ext_trans x1 x2
  clear x1 x2 k1 k2 k3 HC
  have HL3 : Hid (w.heap.size ≤ w.heap.size + 1 + 1) := hide (by omega)
  have HLT := hide l3.lt
  generalize w.heap.size + 1 + 1 = B3 at *
  generalize w.heap.size + 1 = B2 at *
  generalize hB1 : w.heap.size = B1 at *
  have HB1 := hide hB1
  clear hB1
  have f2 := l2.cell
  go_wp2_with fail
  refine (HCP.out _ y2).mono ?_
  rintro e w3 ⟨v', rfl, ⟨g0, c0, g1, c1, g2, c2, rfl, q0, q1, q2, r0, r1, r2, m0, m1, m2⟩, x3⟩
  have k1 := (l1.ext x3).alloc (.cells #[.slice (some ⟨g0, 0, none⟩) P.cells.length c0, .slice (some ⟨g1, 0, none⟩) P.hand0.length c1, .slice (some ⟨g2, 0, none⟩) P.hand1.length c2, .int .i64 P.turn, .int .i64 P.quiet] 36)
  have k2 := (l2.ext x3).alloc (.cells #[.slice (some ⟨g0, 0, none⟩) P.cells.length c0, .slice (some ⟨g1, 0, none⟩) P.hand0.length c1, .slice (some ⟨g2, 0, none⟩) P.hand1.length c2, .int .i64 P.turn, .int .i64 P.quiet] 36)
  have k3 := (l3.ext x3).alloc (.cells #[.slice (some ⟨g0, 0, none⟩) P.cells.length c0, .slice (some ⟨g1, 0, none⟩) P.hand0.length c1, .slice (some ⟨g2, 0, none⟩) P.hand1.length c2, .int .i64 P.turn, .int .i64 P.quiet] 36)
  have k4 := Blk.new w3 36 #[.slice (some ⟨g0, 0, none⟩) P.cells.length c0, .slice (some ⟨g1, 0, none⟩) P.hand0.length c1, .slice (some ⟨g2, 0, none⟩) P.hand1.length c2, .int .i64 P.turn, .int .i64 P.quiet]
  have y3 := ext_alloc (ext_trans y2 x3) (.cells #[.slice (some ⟨g0, 0, none⟩) P.cells.length c0, .slice (some ⟨g1, 0, none⟩) P.hand0.length c1, .slice (some ⟨g2, 0, none⟩) P.hand1.length c2, .int .i64 P.turn, .int .i64 P.quiet] 36)
  have s1 := r1.alloc (.cells #[.slice (some ⟨g0, 0, none⟩) P.cells.length c0, .slice (some ⟨g1, 0, none⟩) P.hand0.length c1, .slice (some ⟨g2, 0, none⟩) P.hand1.length c2, .int .i64 P.turn, .int .i64 P.quiet] 36)
  have s2 := r2.alloc (.cells #[.slice (some ⟨g0, 0, none⟩) P.cells.length c0, .slice (some ⟨g1, 0, none⟩) P.hand0.length c1, .slice (some ⟨g2, 0, none⟩) P.hand1.length c2, .int .i64 P.turn, .int .i64 P.quiet] 36)
  have n1 := hide r1.lt
  have n2 := hide r2.lt
  have hb4 : Hid (B3 < w3.heap.size) := hide (by have := HLT.out; have := x3.size; omega)
  have hb4' : Hid (B1 ≤ w3.heap.size) := hide (by rw [← HB1.out]; have := (ext_trans y2 x3).size; omega)
  clear f2 l1 l2 l3 x3 y2 HCP r0 r1 r2
  have f1 := k1.cell
  have f2 := k2.cell
  go_wp2_with fail
  refine (HT.out _ y3).mono ?_
  rintro e w5 ⟨g, rfl, hrow, hg, x5⟩
  have hg' : w3.heap.size < g := by simp at hg; omega
  have e1 : Hid (B3 < g1 ∧ B3 < g2) := hide (by have := HLT.out; omega)
  generalize w3.heap.size = B4 at *
  have j2 := k2.ext x5
  have j3 := k3.ext x5
  have j4 := k4.ext x5
  have y5 := ext_trans y3 x5
  have t1 := s1.ext x5
  have t2 := s2.ext x5
  have hrow' : IRow w5 g (turnCells R.width R.height P.cells) := ⟨_, hrow, List.take_of_length_le (by simp)⟩
  clear f1 f2 k1 k2 k3 k4 y3 s1 s2 x5 hg hrow
  have f2 := j2.cell
  have f4 := j4.cell
  have z4 := j4.frozen
  have f3 := j3.cell
  have z3 := j3.frozen
  have hne : ¬ B4 = B3 := by have := hb4.out; omega
  have hne' : ¬ B3 = B4 := by have := hb4.out; omega
  have ht0 : 0 ≤ P.turn := by omega
  have ht1 : P.turn ≤ 1 := by omega
  have N2 : Hid (g1 < B4 ∧ g2 < B4 ∧ B4 < g ∧ B1 ≤ B3) := hide ⟨n1.out, n2.out, hg', HL3.out⟩
  clear ht hg' n1 n2 q0 q1 q2 j2
  go_wp2
  have K4 := blk_put (blk_put (blk_put (blk_put j4 (i := 0) (u := .slice (some ⟨g, 0, none⟩) P.cells.length P.cells.length) rfl) (i := 1) (u := .slice (some ⟨g2, 0, none⟩) P.hand1.length c2) rfl) (i := 2) (u := .slice (some ⟨g1, 0, none⟩) P.hand0.length c1) rfl) (i := 3) (u := .int .i64 (1 - P.turn)) rfl
  have K := blk_set5 (Blk.far (Blk.far (Blk.far (Blk.far j3 (p := ⟨B4, 0, none⟩) hne' (.slice (some ⟨g, 0, none⟩) P.cells.length P.cells.length)) (p := ⟨B4, 1, none⟩) hne' (.slice (some ⟨g2, 0, none⟩) P.hand1.length c2)) (p := ⟨B4, 2, none⟩) hne' (.slice (some ⟨g1, 0, none⟩) P.hand0.length c1)) (p := ⟨B4, 3, none⟩) hne' (.int .i64 (1 - P.turn))) (u0 := .slice (some ⟨g, 0, none⟩) P.cells.length P.cells.length) (u1 := .slice (some ⟨g2, 0, none⟩) P.hand1.length c2) (u2 := .slice (some ⟨g1, 0, none⟩) P.hand0.length c1) (u3 := .int .i64 (1 - P.turn)) (u4 := .int .i64 P.quiet)
  have X := (ext_set (ext_set (ext_set (ext_set (ext_set (ext_set (ext_set (ext_set (ext_set y5 (p := ⟨B4, 0, none⟩) (by rw [HB1.out]; exact hb4'.out) (.slice (some ⟨g, 0, none⟩) P.cells.length P.cells.length)) (p := ⟨B4, 1, none⟩) (by rw [HB1.out]; exact hb4'.out) (.slice (some ⟨g2, 0, none⟩) P.hand1.length c2)) (p := ⟨B4, 2, none⟩) (by rw [HB1.out]; exact hb4'.out) (.slice (some ⟨g1, 0, none⟩) P.hand0.length c1)) (p := ⟨B4, 3, none⟩) (by rw [HB1.out]; exact hb4'.out) (.int .i64 (1 - P.turn))) (p := ⟨B3, 0, none⟩) (by rw [HB1.out]; exact N2.out.2.2.2) (.slice (some ⟨g, 0, none⟩) P.cells.length P.cells.length)) (p := ⟨B3, 1, none⟩) (by rw [HB1.out]; exact N2.out.2.2.2) (.slice (some ⟨g2, 0, none⟩) P.hand1.length c2)) (p := ⟨B3, 2, none⟩) (by rw [HB1.out]; exact N2.out.2.2.2) (.slice (some ⟨g1, 0, none⟩) P.hand0.length c1)) (p := ⟨B3, 3, none⟩) (by rw [HB1.out]; exact N2.out.2.2.2) (.int .i64 (1 - P.turn))) (p := ⟨B3, 4, none⟩) (by rw [HB1.out]; exact N2.out.2.2.2) (.int .i64 P.quiet))
  have E0 := (IRow.far (IRow.far (IRow.far (IRow.far (IRow.far (IRow.far (IRow.far (IRow.far (IRow.far hrow' (p := ⟨B4, 0, none⟩) (by have := N2.out; show g ≠ B4; omega) (.slice (some ⟨g, 0, none⟩) P.cells.length P.cells.length)) (p := ⟨B4, 1, none⟩) (by have := N2.out; show g ≠ B4; omega) (.slice (some ⟨g2, 0, none⟩) P.hand1.length c2)) (p := ⟨B4, 2, none⟩) (by have := N2.out; show g ≠ B4; omega) (.slice (some ⟨g1, 0, none⟩) P.hand0.length c1)) (p := ⟨B4, 3, none⟩) (by have := N2.out; show g ≠ B4; omega) (.int .i64 (1 - P.turn))) (p := ⟨B3, 0, none⟩) (by have := N2.out; have := hb4.out; show g ≠ B3; omega) (.slice (some ⟨g, 0, none⟩) P.cells.length P.cells.length)) (p := ⟨B3, 1, none⟩) (by have := N2.out; have := hb4.out; show g ≠ B3; omega) (.slice (some ⟨g2, 0, none⟩) P.hand1.length c2)) (p := ⟨B3, 2, none⟩) (by have := N2.out; have := hb4.out; show g ≠ B3; omega) (.slice (some ⟨g1, 0, none⟩) P.hand0.length c1)) (p := ⟨B3, 3, none⟩) (by have := N2.out; have := hb4.out; show g ≠ B3; omega) (.int .i64 (1 - P.turn))) (p := ⟨B3, 4, none⟩) (by have := N2.out; have := hb4.out; show g ≠ B3; omega) (.int .i64 P.quiet))
  have E1 := (IRow.far (IRow.far (IRow.far (IRow.far (IRow.far (IRow.far (IRow.far (IRow.far (IRow.far t1 (p := ⟨B4, 0, none⟩) (by have := N2.out; show g1 ≠ B4; omega) (.slice (some ⟨g, 0, none⟩) P.cells.length P.cells.length)) (p := ⟨B4, 1, none⟩) (by have := N2.out; show g1 ≠ B4; omega) (.slice (some ⟨g2, 0, none⟩) P.hand1.length c2)) (p := ⟨B4, 2, none⟩) (by have := N2.out; show g1 ≠ B4; omega) (.slice (some ⟨g1, 0, none⟩) P.hand0.length c1)) (p := ⟨B4, 3, none⟩) (by have := N2.out; show g1 ≠ B4; omega) (.int .i64 (1 - P.turn))) (p := ⟨B3, 0, none⟩) (by have := e1.out; show g1 ≠ B3; omega) (.slice (some ⟨g, 0, none⟩) P.cells.length P.cells.length)) (p := ⟨B3, 1, none⟩) (by have := e1.out; show g1 ≠ B3; omega) (.slice (some ⟨g2, 0, none⟩) P.hand1.length c2)) (p := ⟨B3, 2, none⟩) (by have := e1.out; show g1 ≠ B3; omega) (.slice (some ⟨g1, 0, none⟩) P.hand0.length c1)) (p := ⟨B3, 3, none⟩) (by have := e1.out; show g1 ≠ B3; omega) (.int .i64 (1 - P.turn))) (p := ⟨B3, 4, none⟩) (by have := e1.out; show g1 ≠ B3; omega) (.int .i64 P.quiet))
  have E2 := (IRow.far (IRow.far (IRow.far (IRow.far (IRow.far (IRow.far (IRow.far (IRow.far (IRow.far t2 (p := ⟨B4, 0, none⟩) (by have := N2.out; show g2 ≠ B4; omega) (.slice (some ⟨g, 0, none⟩) P.cells.length P.cells.length)) (p := ⟨B4, 1, none⟩) (by have := N2.out; show g2 ≠ B4; omega) (.slice (some ⟨g2, 0, none⟩) P.hand1.length c2)) (p := ⟨B4, 2, none⟩) (by have := N2.out; show g2 ≠ B4; omega) (.slice (some ⟨g1, 0, none⟩) P.hand0.length c1)) (p := ⟨B4, 3, none⟩) (by have := N2.out; show g2 ≠ B4; omega) (.int .i64 (1 - P.turn))) (p := ⟨B3, 0, none⟩) (by have := e1.out; show g2 ≠ B3; omega) (.slice (some ⟨g, 0, none⟩) P.cells.length P.cells.length)) (p := ⟨B3, 1, none⟩) (by have := e1.out; show g2 ≠ B3; omega) (.slice (some ⟨g2, 0, none⟩) P.hand1.length c2)) (p := ⟨B3, 2, none⟩) (by have := e1.out; show g2 ≠ B3; omega) (.slice (some ⟨g1, 0, none⟩) P.hand0.length c1)) (p := ⟨B3, 3, none⟩) (by have := e1.out; show g2 ≠ B3; omega) (.int .i64 (1 - P.turn))) (p := ⟨B3, 4, none⟩) (by have := e1.out; show g2 ≠ B3; omega) (.int .i64 P.quiet))
  clear K4 j3 j4 y5 hrow' t1 t2 f2 f3 f4 z3 z4
  generalize (((((((((w5.setCell ⟨B4, 0, none⟩ (.slice (some ⟨g, 0, none⟩) P.cells.length P.cells.length)).setCell ⟨B4, 1, none⟩ (.slice (some ⟨g2, 0, none⟩) P.hand1.length c2)).setCell ⟨B4, 2, none⟩ (.slice (some ⟨g1, 0, none⟩) P.hand0.length c1)).setCell ⟨B4, 3, none⟩ (.int .i64 (1 - P.turn))).setCell ⟨B3, 0, none⟩ (.slice (some ⟨g, 0, none⟩) P.cells.length P.cells.length)).setCell ⟨B3, 1, none⟩ (.slice (some ⟨g2, 0, none⟩) P.hand1.length c2)).setCell ⟨B3, 2, none⟩ (.slice (some ⟨g1, 0, none⟩) P.hand0.length c1)).setCell ⟨B3, 3, none⟩ (.int .i64 (1 - P.turn))).setCell ⟨B3, 4, none⟩ (.int .i64 P.quiet)) = Wf at *
  have rr0 : Wf.cell? ⟨B3, 0, none⟩ = some (.slice (some ⟨g, 0, none⟩) P.cells.length P.cells.length) := K.cell 0
  have rr1 : Wf.cell? ⟨B3, 1, none⟩ = some (.slice (some ⟨g2, 0, none⟩) P.hand1.length c2) := K.cell 1
  have rr2 : Wf.cell? ⟨B3, 2, none⟩ = some (.slice (some ⟨g1, 0, none⟩) P.hand0.length c1) := K.cell 2
  have rr3 : Wf.cell? ⟨B3, 3, none⟩ = some (.int .i64 (1 - P.turn)) := K.cell 3
  have rr4 : Wf.cell? ⟨B3, 4, none⟩ = some (.int .i64 P.quiet) := K.cell 4
  refine bodyPost_ret (v := .tuple #[.agg #[.slice (some ⟨g, 0, none⟩) P.cells.length P.cells.length, .slice (some ⟨g2, 0, none⟩) P.hand1.length c2, .slice (some ⟨g1, 0, none⟩) P.hand0.length c1, .int .i64 (1 - P.turn), .int .i64 P.quiet], .int .i64 0]) ?_ rfl ?_
  · simp [results, Try.results19, go_sem, rr0, rr1, rr2, rr3, rr4]
  · refine ⟨_, rfl, ⟨_, P.cells.length, _, c2, _, c1, ?_, E0.ints, E2.ints, E1.ints, ?_, m2, m1⟩, X⟩
    · simp [otherP, turnCells_length]
    · simp [otherP, turnCells_length]
end Go.Proofs.Ytcfiannlpkofpaa
