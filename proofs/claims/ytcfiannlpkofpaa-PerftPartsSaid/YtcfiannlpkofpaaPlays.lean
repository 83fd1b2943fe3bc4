/- Walk: plays. -/
import Derived.Test.YtcfiannlpkofpaaBegin
import Derived.Test.YtcfiannlpkofpaaGAfter
import Derived.Test.YtcfiannlpkofpaaSamples
import Derived.Test.YtcfiannlpkofpaaGLibB
import Derived.Test.YtcfiannlpkofpaaGThree
import Derived.Deep.DeepCutAuto
namespace Go.Proofs.Ytcfiannlpkofpaa
open Go.ChangeShapes Go.WideShapes Go.ChangeAt Go.RowKit Go.Shelf
set_option linter.unusedVariables false
def begR : PosM := { cells := [0, 0, 0, 0, 0, 0, 0, 0, 0], hand0 := [5], hand1 := [5], turn := 0, quiet := 0 }
theorem begin_three : beginP threeR = begR := rfl
theorem sound_begin {R : RulesM} (hV : Valid R) : Sound R (beginP R) := by
  refine ⟨hV.area, by simp [beginP], by simp [beginP], hV.start, ?_, ?_, .inl rfl, by show (0 : Int) ≤ 0 ∧ (0 : Int) ≤ 200; omega⟩
  all_goals
    intro c hc
    obtain ⟨p, hp, rfl⟩ := List.mem_map.1 hc
    have := (piece_facts hV.piece hp).2.1
    omega
theorem put4_in : (⟨-1, 4, 0⟩ : MoveM) ∈ listM threeR begR := by decide +kernel
theorem put9_not : ¬ (⟨-1, 9, 0⟩ : MoveM) ∈ listM threeR begR := by decide +kernel
theorem beg_len : (listM threeR begR).length = 9 := by decide +kernel
theorem beg_last : (listM threeR begR)[8]? = some ⟨-1, 8, 0⟩ := by decide +kernel
def playQ : PosM := { cells := [0, 0, 0, 0, 1, 0, 0, 0, 0], hand0 := [4], hand1 := [5], turn := 1, quiet := 0 }
theorem beg_made : makeM threeR begR ⟨-1, 4, 0⟩ = playQ := by rfl
/-- A variable that holds a position. -/
def PosVar (wb W : World) (s : Value) (Q : PosM) : Prop := ∃ B cA cc aA ac bA bc, s = .pointer (some ⟨B, 0, none⟩) ∧ Blk W B 36 #[.slice cA Q.cells.length cc, .slice aA Q.hand0.length ac, .slice bA Q.hand1.length bc, .int .i64 Q.turn, .int .i64 Q.quiet] ∧
  PosAt W (.agg #[.slice cA Q.cells.length cc, .slice aA Q.hand0.length ac, .slice bA Q.hand1.length bc, .int .i64 Q.turn, .int .i64 Q.quiet]) Q ∧ Ext wb W
theorem ints_far' {w : World} {A : Option Addr} {zs : List Int} (h : IntsAt w A zs) {p : Addr} (hp : ∀ b o, A = some ⟨b, o, none⟩ → b ≠ p.block) (u : Value) : IntsAt (w.setCell p u) A zs := fun i hi => by
  obtain ⟨b, o, e, hc⟩ := h i hi
  refine ⟨b, o, e, ?_⟩
  rw [World.cell?_of_block (a := ⟨b, o + i, none⟩) (Below.heap_setCell w p u b (hp b o e))]
  exact hc
theorem ext_set5 {wb W : World} {B : Nat} {u0 u1 u2 u3 u4 : Value} (hx : Ext wb W) (hb : wb.heap.size ≤ B) : Ext wb (((((W.setCell ⟨B, 0, none⟩ u0).setCell ⟨B, 1, none⟩ u1).setCell ⟨B, 2, none⟩ u2).setCell ⟨B, 3, none⟩ u3).setCell ⟨B, 4, none⟩ u4) :=
  ext_set (ext_set (ext_set (ext_set (ext_set hx hb _) hb _) hb _) hb _) hb _
theorem posVar_new {wb W : World} {u0 u1 u2 u3 u4 : Value} {Q : PosM} (hx : Ext wb W) (hp : PosAt W (.agg #[u0, u1, u2, u3, u4]) Q) : PosVar wb (W.alloc (.cells #[u0, u1, u2, u3, u4] 36)) (.pointer (some ⟨W.heap.size, 0, none⟩)) Q := by
  have x := ext_alloc (Below.refl W.heap.size W) (.cells #[u0, u1, u2, u3, u4] 36)
  have hp' := hp.ext x
  obtain ⟨cA, cc, aA, ac, bA, bc, e, -⟩ := hp
  simp only [Value.agg.injEq, Array.mk.injEq, List.cons.injEq, and_true] at e
  obtain ⟨rfl, rfl, rfl, rfl, rfl⟩ := e
  exact ⟨_, cA, cc, aA, ac, bA, bc, rfl, Blk.new _ _ _, hp', ext_trans hx x⟩
theorem posVar_set {wb W : World} {B N : Nat} {o0 o1 o2 o3 o4 u0 u1 u2 u3 u4 : Value} {Q : PosM} (kk : Blk W B 36 #[o0, o1, o2, o3, o4]) (hb : wb.heap.size ≤ B) (hx : Ext wb W) (ho : PosOwn W N (.agg #[u0, u1, u2, u3, u4]) Q) (hN : B < N) :
    PosVar wb (((((W.setCell ⟨B, 0, none⟩ u0).setCell ⟨B, 1, none⟩ u1).setCell ⟨B, 2, none⟩ u2).setCell ⟨B, 3, none⟩ u3).setCell ⟨B, 4, none⟩ u4) (.pointer (some ⟨B, 0, none⟩)) Q := by
  obtain ⟨g0, c0, g1, c1, g2, c2, e, b0, b1, b2, r0, r1, r2, m⟩ := ho
  simp only [Value.agg.injEq, Array.mk.injEq, List.cons.injEq, and_true] at e
  obtain ⟨rfl, rfl, rfl, rfl, rfl⟩ := e
  have K := blk_set5 kk (u0 := .slice (some ⟨g0, 0, none⟩) Q.cells.length c0) (u1 := .slice (some ⟨g1, 0, none⟩) Q.hand0.length c1) (u2 := .slice (some ⟨g2, 0, none⟩) Q.hand1.length c2) (u3 := .int .i64 Q.turn) (u4 := .int .i64 Q.quiet)
  refine ⟨B, _, c0, _, c1, _, c2, rfl, K, ⟨_, c0, _, c1, _, c2, rfl, ?_, ?_, ?_, m⟩, (ext_set (ext_set (ext_set (ext_set (ext_set hx (p := ⟨B, 0, none⟩) hb (.slice (some ⟨g0, 0, none⟩) Q.cells.length c0)) (p := ⟨B, 1, none⟩) hb (.slice (some ⟨g1, 0, none⟩) Q.hand0.length c1)) (p := ⟨B, 2, none⟩) hb (.slice (some ⟨g2, 0, none⟩) Q.hand1.length c2)) (p := ⟨B, 3, none⟩) hb (.int .i64 Q.turn)) (p := ⟨B, 4, none⟩) hb (.int .i64 Q.quiet))⟩
  · exact (IRow.ints (IRow.far (IRow.far (IRow.far (IRow.far (IRow.far r0 (p := ⟨B, 0, none⟩) (by show g0 ≠ B; omega) (.slice (some ⟨g0, 0, none⟩) Q.cells.length c0)) (p := ⟨B, 1, none⟩) (by show g0 ≠ B; omega) (.slice (some ⟨g1, 0, none⟩) Q.hand0.length c1)) (p := ⟨B, 2, none⟩) (by show g0 ≠ B; omega) (.slice (some ⟨g2, 0, none⟩) Q.hand1.length c2)) (p := ⟨B, 3, none⟩) (by show g0 ≠ B; omega) (.int .i64 Q.turn)) (p := ⟨B, 4, none⟩) (by show g0 ≠ B; omega) (.int .i64 Q.quiet)))
  · exact (IRow.ints (IRow.far (IRow.far (IRow.far (IRow.far (IRow.far r1 (p := ⟨B, 0, none⟩) (by show g1 ≠ B; omega) (.slice (some ⟨g0, 0, none⟩) Q.cells.length c0)) (p := ⟨B, 1, none⟩) (by show g1 ≠ B; omega) (.slice (some ⟨g1, 0, none⟩) Q.hand0.length c1)) (p := ⟨B, 2, none⟩) (by show g1 ≠ B; omega) (.slice (some ⟨g2, 0, none⟩) Q.hand1.length c2)) (p := ⟨B, 3, none⟩) (by show g1 ≠ B; omega) (.int .i64 Q.turn)) (p := ⟨B, 4, none⟩) (by show g1 ≠ B; omega) (.int .i64 Q.quiet)))
  · exact (IRow.ints (IRow.far (IRow.far (IRow.far (IRow.far (IRow.far r2 (p := ⟨B, 0, none⟩) (by show g2 ≠ B; omega) (.slice (some ⟨g0, 0, none⟩) Q.cells.length c0)) (p := ⟨B, 1, none⟩) (by show g2 ≠ B; omega) (.slice (some ⟨g1, 0, none⟩) Q.hand0.length c1)) (p := ⟨B, 2, none⟩) (by show g2 ≠ B; omega) (.slice (some ⟨g2, 0, none⟩) Q.hand1.length c2)) (p := ⟨B, 3, none⟩) (by show g2 ≠ B; omega) (.int .i64 Q.turn)) (p := ⟨B, 4, none⟩) (by show g2 ≠ B; omega) (.int .i64 Q.quiet)))
set_option maxHeartbeats 800000 in
set_option maxRecDepth 100000 in
theorem plays_any (w : World) : Calls Try.prog 25 #[] w fun e w' => e = .returned (.bool true) ∧ Ext w w' := by
  have hV := valid_three
  have hS : Sound threeR begR := begin_three ▸ sound_begin valid_three
  have HB := hide (fun W (v : Value) (h : RulesAt W v threeR) => Begin_yes threeR v W h valid_three)
  rw [begin_three] at HB
  have HA := hide (fun W (v u : Value) (h1 : RulesAt W v threeR) (h2 : PosAt W u begR) => All_yes threeR begR v u W h1 h2 valid_three hS)
  have HF := hide (fun W (v u : Value) (h1 : RulesAt W v threeR) (h2 : PosAt W u begR) => After_yes threeR begR ⟨-1, 4, 0⟩ v u W h1 h2 valid_three hS put4_in)
  have HL := hide (fun W (v u : Value) (h1 : RulesAt W v threeR) (h2 : PosAt W u begR) => Legal_yes threeR begR ⟨-1, 9, 0⟩ v u W h1 h2 valid_three hS)
  rw [decide_eq_false put9_not] at HL
  rw [beg_made] at HF
  have HLN := hide beg_len
  have HLL := hide beg_last
  clear hS hV
  go_enter Try.func25, Try.ntmps25
  go_wp2_with fail
  refine (three_any _).mono ?_
  rintro e w1 ⟨v1, rfl, h1, x1⟩
  go_wp2_with fail
  refine (HB.out _ _ h1).mono ?_
  rintro e w2 ⟨v2, rfl, p2, x2⟩
  have p2' := p2
  obtain ⟨cA, cc, aA, ac, bA, bc, e2, -⟩ := p2'
  have e2' : v2 = .agg #[.slice cA 9 cc, .slice aA 1 ac, .slice bA 1 bc, .int .i64 0, .int .i64 0] := e2
  subst e2'
  clear e2
  obtain ⟨x3, k3⟩ := blks1 w2 #[.slice cA 9 cc, .slice aA 1 ac, .slice bA 1 bc, .int .i64 0, .int .i64 0] 36
  have X3 := hide (ext_trans x1 (ext_trans x2 x3))
  have P3 := hide (p2.ext x3)
  clear x1 x2 x3 h1 p2
  go_wp2
  generalize w2.alloc (.cells #[.slice cA 9 cc, .slice aA 1 ac, .slice bA 1 bc, .int .i64 0, .int .i64 0] 36) = w3 at *
  generalize w2.heap.size = B1 at *
  have q := k3.cell
  have q0 : w3.drew.cell? ⟨B1, 0, none⟩ = some (.slice cA 9 cc) := k3.cell 0
  have q1 : w3.drew.cell? ⟨B1, 1, none⟩ = some (.slice aA 1 ac) := k3.cell 1
  have q2 : w3.drew.cell? ⟨B1, 2, none⟩ = some (.slice bA 1 bc) := k3.cell 2
  have q3 : w3.drew.cell? ⟨B1, 3, none⟩ = some (.int .i64 0) := k3.cell 3
  have q4 : w3.drew.cell? ⟨B1, 4, none⟩ = some (.int .i64 0) := k3.cell 4
  have K3 := hide k3
  clear k3 q
  go_region_held3 (fun W => W.cell? ⟨B1, 0, none⟩ = some (.slice cA 9 cc) ∧ W.cell? ⟨B1, 1, none⟩ = some (.slice aA 1 ac) ∧ W.cell? ⟨B1, 2, none⟩ = some (.slice bA 1 bc) ∧ W.cell? ⟨B1, 3, none⟩ = some (.int .i64 0) ∧ W.cell? ⟨B1, 4, none⟩ = some (.int .i64 0) ∧ Ext w3 W) ((first | (go_split_ands; exact ⟨Ext.cell xx (by assumption), Ext.cell xx (by assumption), Ext.cell xx (by assumption), Ext.cell xx (by assumption), Ext.cell xx (by assumption), ext_trans (by assumption) xx⟩) | (go_split_ands; exact ⟨Ext.cell (ext_alloc (Below.refl _ _) _) (by assumption), Ext.cell (ext_alloc (Below.refl _ _) _) (by assumption), Ext.cell (ext_alloc (Below.refl _ _) _) (by assumption), Ext.cell (ext_alloc (Below.refl _ _) _) (by assumption), Ext.cell (ext_alloc (Below.refl _ _) _) (by assumption), ext_alloc (by assumption) _⟩) | (go_split_ands; exact ⟨by assumption, by assumption, by assumption, by assumption, by assumption, Below.drew (Below.refl _ _)⟩) | go_keep))
    (first
    | (go_at_call 15; refine (three_any _).mono ?_; rintro e w4 ⟨v4, rfl, h4, xx⟩)
    | (go_at_call 26; go_split_ands; refine (HA.out _ _ _ h4 (P3.out.ext (by assumption))).mono ?_; rintro e w5 ⟨v5, rfl, h5, xx⟩))
  have y5 : Ext w3 w5 := by go_split_ands; assumption
  have M5 := hide h5.at_
  obtain ⟨A5, c5, e5, m5⟩ := M5.out
  rw [HLN.out] at e5
  subst e5
  obtain ⟨lb, lo, rfl, l0, l1, l2⟩ := moves_get m5 HLL.out
  have LL := hide (And.intro l0 (And.intro l1 l2))
  clear m5 l0 l1 l2 M5
  have z5 : Hid (w3.heap.size ≤ w5.heap.size) := hide y5.size
  have P5 := hide (P3.out.ext y5)
  have K5 := hide (K3.out.ext y5)
  have X5 := hide (ext_trans X3.out y5)
  clear q0 q1 q2 q3 q4 h4 h5 xx y5 X3 P3 K3
  go_upto_region 3 with fail
  go_cut [5, 6] (fun s5 s6 wx => s6 = .int .i64 0 ∧ PosVar w5 wx s5 playQ)
  case first =>
    have keepK := hide (fun W (h : Ext w5 W) => (show (fun W => W.cell? ⟨B1, 0, none⟩ = some (.slice cA 9 cc) ∧ W.cell? ⟨B1, 1, none⟩ = some (.slice aA 1 ac) ∧ W.cell? ⟨B1, 2, none⟩ = some (.slice bA 1 bc) ∧ W.cell? ⟨B1, 3, none⟩ = some (.int .i64 0) ∧ W.cell? ⟨B1, 4, none⟩ = some (.int .i64 0) ∧ Ext w5 W) W from ⟨(K5.out.ext h).cell 0, (K5.out.ext h).cell 1, (K5.out.ext h).cell 2, (K5.out.ext h).cell 3, (K5.out.ext h).cell 4, h⟩))
    have yy : Ext w5 w5.drew := Below.drew (Below.refl _ _)
    first
    | go_region_held3 (fun W => W.cell? ⟨B1, 0, none⟩ = some (.slice cA 9 cc) ∧ W.cell? ⟨B1, 1, none⟩ = some (.slice aA 1 ac) ∧ W.cell? ⟨B1, 2, none⟩ = some (.slice bA 1 bc) ∧ W.cell? ⟨B1, 3, none⟩ = some (.int .i64 0) ∧ W.cell? ⟨B1, 4, none⟩ = some (.int .i64 0) ∧ Ext w5 W) ((first | (with_reducible exact keepK.out _ (ext_set5 yy hb)) | (with_reducible exact keepK.out _ yy) | (with_reducible exact keepK.out _ (ext_trans (by go_split_ands; assumption) xx)) | (with_reducible exact keepK.out _ (ext_alloc (by go_split_ands; assumption) _)) | (with_reducible exact keepK.out _ (ext_alloc yy _))))
        (first
        | (go_at_call 15; have yw : Ext w5 _ := (by first | (go_split_ands; assumption) | assumption); refine (three_any _).mono ?_; rintro e w6 ⟨v6, rfl, h6, xx⟩; (first | (with_reducible have hN := kk.lt) | (have hN := (Blk.new w5 36 #[.slice none 0 0, .slice none 0 0, .slice none 0 0, .int .i64 0, .int .i64 0]).lt) | skip); replace h6 := hide (fun W (h : Ext w6 W) => h6.ext h); (first | (with_reducible have kk := Blk.ext (Blk.new w5.drew 36 #[.slice none 0 0, .slice none 0 0, .slice none 0 0, .int .i64 0, .int .i64 0]) xx; have hb := (show Ext w5 w5.drew from yy).size; have kf := kk.frozen; have kc := kk.cell) | (with_reducible have kk := Blk.ext (Blk.drew (Blk.new w5 36 #[.slice none 0 0, .slice none 0 0, .slice none 0 0, .int .i64 0, .int .i64 0])) xx; have hb := Nat.le_refl w5.heap.size; have kf := kk.frozen; have kc := kk.cell) | (with_reducible replace kk := kk.ext xx; have kf := kk.frozen; have kc := kk.cell) | skip); replace yy := ext_trans yw xx; clear yw)
        | (go_at_call 40; have yw : Ext w5 _ := (by first | (go_split_ands; assumption) | assumption); refine (put_any 4 _).mono ?_; rintro e w7 ⟨rfl, xx⟩; (first | (with_reducible have hN := kk.lt) | (have hN := (Blk.new w6 36 #[.slice none 0 0, .slice none 0 0, .slice none 0 0, .int .i64 0, .int .i64 0]).lt) | skip); replace h6 := hide (fun W (h : Ext w7 W) => h6.out W (by first | (with_reducible exact ext_trans xx h) | (with_reducible exact ext_trans (ext_trans (ext_alloc (Below.refl _ _) _) xx) h))); (first | (with_reducible have kk := Blk.ext (Blk.new w6 36 #[.slice none 0 0, .slice none 0 0, .slice none 0 0, .int .i64 0, .int .i64 0]) xx; have hb := (show Ext w5 w6 from yy).size; have kf := kk.frozen; have kc := kk.cell) | (with_reducible have kk := Blk.ext (Blk.drew (Blk.new w5 36 #[.slice none 0 0, .slice none 0 0, .slice none 0 0, .int .i64 0, .int .i64 0])) xx; have hb := Nat.le_refl w5.heap.size; have kf := kk.frozen; have kc := kk.cell) | (with_reducible replace kk := kk.ext xx; have kf := kk.frozen; have kc := kk.cell) | skip); replace yy := ext_trans yw xx; clear yw)
        | (go_at_call 27; have yw : Ext w5 _ := (by first | (go_split_ands; assumption) | assumption); refine (HF.out _ _ _ (h6.out _ (by first | (with_reducible exact Below.refl _ _) | (with_reducible exact ext_alloc (Below.refl _ _) _))) (P5.out.ext yw)).mono ?_; rintro e w8 ⟨v8, rfl, h8, xx⟩; (first | (with_reducible have hN := kk.lt) | (have hN := (Blk.new w7 36 #[.slice none 0 0, .slice none 0 0, .slice none 0 0, .int .i64 0, .int .i64 0]).lt) | skip); have o8 := hide h8; obtain ⟨g0, c0, g1, c1, g2, c2, rfl, -⟩ := h8; (first | (with_reducible have kk := Blk.ext (Blk.new w7 36 #[.slice none 0 0, .slice none 0 0, .slice none 0 0, .int .i64 0, .int .i64 0]) xx; have hb := (show Ext w5 w7 from yy).size; have kf := kk.frozen; have kc := kk.cell) | (with_reducible have kk := Blk.ext (Blk.drew (Blk.new w5 36 #[.slice none 0 0, .slice none 0 0, .slice none 0 0, .int .i64 0, .int .i64 0])) xx; have hb := Nat.le_refl w5.heap.size; have kf := kk.frozen; have kc := kk.cell) | (with_reducible replace kk := kk.ext xx; have kf := kk.frozen; have kc := kk.cell) | skip); replace yy := ext_trans yw xx; clear yw))
    | fail
    all_goals go_wp2_with fail
    all_goals go_meet
    all_goals first | (with_reducible exact ⟨rfl, posVar_set kk hb yy o8.out hN⟩) | (with_reducible exact ⟨rfl, posVar_new yy o8.out.at_⟩)
  case rest =>
    obtain ⟨rfl, hv⟩ := hcut
    obtain ⟨B6, dA, dc, eA, ec, fA, fc, rfl, k6, p6, y6⟩ := hv
    have K6 := hide k6
    have P6 := hide p6
    have K5' := hide (K5.out.ext y6)
    have P5' := hide (P5.out.ext y6)
    have X6 := hide (ext_trans X5.out y6)
    have LL6 := hide (And.intro (y6.cell LL.out.1) (And.intro (y6.cell LL.out.2.1) (y6.cell LL.out.2.2)))
    clear k6 p6 y6 K5 P5 X5 LL z5
    go_wp2_with fail
    have keepK := hide (fun W (h : Ext wc W) => (show (fun W => W.cell? ⟨B1, 0, none⟩ = some (.slice cA 9 cc) ∧ W.cell? ⟨B1, 1, none⟩ = some (.slice aA 1 ac) ∧ W.cell? ⟨B1, 2, none⟩ = some (.slice bA 1 bc) ∧ W.cell? ⟨B1, 3, none⟩ = some (.int .i64 0) ∧ W.cell? ⟨B1, 4, none⟩ = some (.int .i64 0) ∧ Ext wc W) W from ⟨(K5'.out.ext h).cell 0, (K5'.out.ext h).cell 1, (K5'.out.ext h).cell 2, (K5'.out.ext h).cell 3, (K5'.out.ext h).cell 4, h⟩))
    have yy : Ext wc wc.drew := Below.drew (Below.refl _ _)
    first
    | go_region_held3 (fun W => W.cell? ⟨B1, 0, none⟩ = some (.slice cA 9 cc) ∧ W.cell? ⟨B1, 1, none⟩ = some (.slice aA 1 ac) ∧ W.cell? ⟨B1, 2, none⟩ = some (.slice bA 1 bc) ∧ W.cell? ⟨B1, 3, none⟩ = some (.int .i64 0) ∧ W.cell? ⟨B1, 4, none⟩ = some (.int .i64 0) ∧ Ext wc W) ((first | (with_reducible exact keepK.out _ yy) | (with_reducible exact keepK.out _ (ext_trans (by go_split_ands; assumption) xx)) | (with_reducible exact keepK.out _ (ext_alloc (by go_split_ands; assumption) _)) | (with_reducible exact keepK.out _ (ext_alloc yy _))))
        (first
        | (go_at_call 15; have yw : Ext wc _ := (by first | (go_split_ands; assumption) | assumption); refine (three_any _).mono ?_; rintro e w6 ⟨v6, rfl, h6, xx⟩; replace h6 := hide (fun W (h : Ext w6 W) => h6.ext h); replace yy := ext_trans yw xx; clear yw)
        | (go_at_call 40; have yw : Ext wc _ := (by first | (go_split_ands; assumption) | assumption); refine (put_any 9 _).mono ?_; rintro e w7 ⟨rfl, xx⟩; replace h6 := hide (fun W (h : Ext w7 W) => h6.out W (ext_trans xx h)); replace yy := ext_trans yw xx; clear yw)
        | (go_at_call 28; have yw : Ext wc _ := (by first | (go_split_ands; assumption) | assumption); refine (HL.out _ _ _ (h6.out _ (Below.refl _ _)) (P5'.out.ext yw)).mono ?_; rintro e w8 ⟨rfl, xx⟩; replace yy := ext_trans yw xx; clear yw))
    | fail
    have X8 := hide (ext_trans X6.out yy)
    have K8 := hide (K6.out.ext yy)
    have P8 := hide (P6.out.ext yy)
    have LL8 := hide (And.intro (yy.cell LL6.out.1) (And.intro (yy.cell LL6.out.2.1) (yy.cell LL6.out.2.2)))
    clear K6 P6 K5' P5' X6 LL6 h6 yy xx keepK
    obtain ⟨_, _, _, _, _, _, e8, i8, -⟩ := P8.out
    simp only [Value.agg.injEq, Array.mk.injEq, List.cons.injEq, Value.slice.injEq, and_true] at e8
    obtain ⟨⟨rfl, -⟩, -⟩ := e8
    obtain ⟨qb, qo, rfl, q4⟩ := i8 4 (by decide)
    have Q4 := hide (show w8.cell? ⟨qb, qo + 4, none⟩ = some (.int .i64 1) from q4)
    clear q4 i8 P8 HLN HLL
    go_wp2_with fail
    have LM := hide (show w8.cell? ⟨lb, lo + 24, none⟩ = some (.int .i64 (-1)) ∧ w8.cell? ⟨lb, lo + 25, none⟩ = some (.int .i64 8) ∧ w8.cell? ⟨lb, lo + 26, none⟩ = some (.int .i64 0) from LL8.out)
    clear LL8
    have keepK := hide (fun W (h : Ext w8 W) => (show (fun W => W.cell? ⟨lb, lo + 24, none⟩ = some (.int .i64 (-1)) ∧ W.cell? ⟨lb, lo + 25, none⟩ = some (.int .i64 8) ∧ W.cell? ⟨lb, lo + 26, none⟩ = some (.int .i64 0) ∧ W.cell? ⟨B6, 0, none⟩ = some (.slice (some ⟨qb, qo, none⟩) 9 dc) ∧ W.cell? ⟨qb, qo + 4, none⟩ = some (.int .i64 1) ∧ Ext w8 W) W from ⟨h.cell LM.out.1, h.cell LM.out.2.1, h.cell LM.out.2.2, (K8.out.ext h).cell 0, h.cell Q4.out, h⟩))
    have yy : Ext w8 w8.drew := Below.drew (Below.refl _ _)
    first
    | go_region_held3 (fun W => W.cell? ⟨lb, lo + 24, none⟩ = some (.int .i64 (-1)) ∧ W.cell? ⟨lb, lo + 25, none⟩ = some (.int .i64 8) ∧ W.cell? ⟨lb, lo + 26, none⟩ = some (.int .i64 0) ∧ W.cell? ⟨B6, 0, none⟩ = some (.slice (some ⟨qb, qo, none⟩) 9 dc) ∧ W.cell? ⟨qb, qo + 4, none⟩ = some (.int .i64 1) ∧ Ext w8 W) ((first | (with_reducible exact keepK.out _ yy) | (with_reducible exact keepK.out _ (ext_trans (by go_split_ands; assumption) xx)) | (with_reducible exact keepK.out _ (ext_alloc (by go_split_ands; assumption) _)) | (with_reducible exact keepK.out _ (ext_alloc yy _))))
        (first
        | (go_at_call 22; have yw : Ext w8 _ := (by first | (go_split_ands; assumption) | assumption); refine (fine_ext (fine_any _ 4 4 [0, 0, 0, 0] _ rfl (by omega) (by first | exact blk_ints (Blk.new _ _ _) | exact blk_ints (Blk.drew (Blk.new _ _ _))))).mono ?_; rintro e wf ⟨rfl, xx⟩; replace yy := ext_trans yw xx; clear yw)
        | (go_at_call 40; have yw : Ext w8 _ := (by first | (go_split_ands; assumption) | assumption); refine (put_any 8 _).mono ?_; rintro e wg ⟨rfl, xx⟩; replace yy := ext_trans yw xx; clear yw))
    | fail
    go_wp2
    go_ret
    exact ⟨rfl, ext_trans X8.out yy⟩
end Go.Proofs.Ytcfiannlpkofpaa
