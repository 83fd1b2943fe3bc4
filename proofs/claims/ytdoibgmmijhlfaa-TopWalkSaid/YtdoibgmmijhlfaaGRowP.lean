/- A position each of whose lists lies in a block of its own. Worlds in which only blocks of some types have changed; rows of positions. Walks: place.Same and same, of positions that are alike. Walk: place.Same, of any positions. Rows of positions: more; append of a position. -/
import Derived.Test.YtdoibgmmijhlfaaPosK
import Derived.Below
import Derived.Test.YtdoibgmmijhlfaaGCopy
import Derived.WalkSmall
import Derived.Deep.AppendLies
import Derived.Test.YtdoibgmmijhlfaaGLibB
import Derived.Test.YtdoibgmmijhlfaaIRow
import Derived.Test.YtdoibgmmijhlfaaGEnds
import Derived.Test.YtdoibgmmijhlfaaRegionK
import Derived.Test.YtdoibgmmijhlfaaGAll
import Derived.StillTailTactics
import Derived.Laws.ResultCell
namespace Go.Proofs.Ytdoibgmmijhlfaa
open Go.ChangeShapes Go.WideShapes Go.ChangeAt Go.RowKit
set_option linter.unusedVariables false
/-- A position each of whose lists lies in a block of integers, from its beginning on. -/
def PosI (w : World) (v : Value) (P : PosM) : Prop :=
  ∃ g0 c0 g1 c1 g2 c2, v = .agg #[.slice (some ⟨g0, 0, none⟩) P.cells.length c0, .slice (some ⟨g1, 0, none⟩) P.hand0.length c1, .slice (some ⟨g2, 0, none⟩) P.hand1.length c2, .int .i64 P.turn, .int .i64 P.quiet] ∧
    IRow w g0 P.cells ∧ IRow w g1 P.hand0 ∧ IRow w g2 P.hand1 ∧ P.cells.length ≤ c0 ∧ P.hand0.length ≤ c1 ∧ P.hand1.length ≤ c2
theorem PosI.at_ {w : World} {v : Value} {P : PosM} (h : PosI w v P) : PosAt w v P := by
  obtain ⟨g0, c0, g1, c1, g2, c2, e, r0, r1, r2, h⟩ := h
  exact ⟨_, c0, _, c1, _, c2, e, r0.ints, r1.ints, r2.ints, h⟩
theorem PosOwn.toI {w : World} {N : Nat} {v : Value} {P : PosM} (h : PosOwn w N v P) : PosI w v P := by
  obtain ⟨g0, c0, g1, c1, g2, c2, e, -, -, -, r⟩ := h
  exact ⟨g0, c0, g1, c1, g2, c2, e, r⟩
theorem PosI.same {w W : World} {v : Value} {P : PosM} (h : PosI w v P) (hs : ∀ g zs, IRow w g zs → W.heap[g]? = w.heap[g]?) : PosI W v P := by
  obtain ⟨g0, c0, g1, c1, g2, c2, e, r0, r1, r2, m⟩ := h
  exact ⟨g0, c0, g1, c1, g2, c2, e, r0.same (hs _ _ r0), r1.same (hs _ _ r1), r2.same (hs _ _ r2), m⟩
theorem PosI.ext {w W : World} {v : Value} {P : PosM} (h : PosI w v P) (x : Ext w W) : PosI W v P := h.same (fun g zs r => x.block g r.lt)
end Go.Proofs.Ytdoibgmmijhlfaa
namespace Go.Proofs.Ytdoibgmmijhlfaa
open Go.ChangeShapes Go.WideShapes Go.ChangeAt Go.RowKit Go.Shelf
set_option linter.unusedVariables false
/-- Blocks of other types than ts are as they were. -/
def TFr (ts : List TypeId) (w W : World) : Prop := ∀ g t cs, Blk w g t cs → t ∉ ts → Blk W g t cs
theorem TFr.refl (ts : List TypeId) (w : World) : TFr ts w w := fun _ _ _ h _ => h
theorem TFr.trans {ts : List TypeId} {a b c : World} (h : TFr ts a b) (k : TFr ts b c) : TFr ts a c := fun g t cs hb ht => k g t cs (h g t cs hb ht) ht
theorem TFr.of_ext {ts : List TypeId} {w W : World} (x : Ext w W) : TFr ts w W := fun _ _ _ h _ => h.ext x
theorem TFr.set {ts : List TypeId} {w : World} {B : Nat} {t : TypeId} {cs : Array Value} (k : Blk w B t cs) (ht : t ∈ ts) (i : Nat) (u : Value) : TFr ts w (w.setCell ⟨B, i, none⟩ u) := fun g t' cs' hb hn => hb.far (p := ⟨B, i, none⟩) (by
  rintro rfl
  have e := hb.symm.trans k
  simp only [Option.some.injEq, Obj.cells.injEq] at e
  exact hn (e.2.1 ▸ ht)) u
theorem TFr.grown {ts : List TypeId} {w W : World} {base : Nat} {e : TypeId} {size n : Nat} {v : Value} {xs : List Value} (o : w.ownsRow base e size v n xs) (he : e ∈ ts) (g : w.grownBy W v.ownBlock) : TFr ts w W := fun b t cs hb hn =>
  hb.grown g (fun h => own_blk_ne o hb (by rintro rfl; exact hn he) h.symm)
theorem own_tfr {ts : List TypeId} {w W : World} {base : Nat} {e : TypeId} {size n : Nat} {v : Value} {xs : List Value} (h : w.ownsRow base e size v n xs) (he : e ∉ ts) (f : TFr ts w W) : W.ownsRow base e size v n xs :=
  ⟨h.1, h.2.imp id fun ⟨g, cap, cur, h1, h2, h3, h4⟩ => ⟨g, cap, cur, h1, h2, f g e cur h3 he, h4⟩⟩
theorem IRow.tfr {ts : List TypeId} {w W : World} {g : Nat} {zs : List Int} (h : IRow w g zs) (he : 3 ∉ ts) (f : TFr ts w W) : IRow W g zs := by
  obtain ⟨cur, h, ht⟩ := h
  exact ⟨cur, f g _ cur h he, ht⟩
theorem PosI.tfr {ts : List TypeId} {w W : World} {v : Value} {P : PosM} (h : PosI w v P) (he : 3 ∉ ts) (f : TFr ts w W) : PosI W v P := by
  obtain ⟨g0, c0, g1, c1, g2, c2, e, r0, r1, r2, m⟩ := h
  exact ⟨g0, c0, g1, c1, g2, c2, e, r0.tfr he f, r1.tfr he f, r2.tfr he f, m⟩
/-- The types of rules. -/
def rulesT (ts : List TypeId) : Prop := 93 ∉ ts ∧ 131 ∉ ts ∧ 3 ∉ ts ∧ 95 ∉ ts
theorem RulesOwn.tfr {ts : List TypeId} {w W : World} {base : Nat} {v : Value} {R : RulesM} (h : RulesOwn w base v R) (he : rulesT ts) (f : TFr ts w W) : RulesOwn W base v R := by
  obtain ⟨pA, pc, sA, sc, eA, ec, vss, e, h1, h2, h3, h4, h5⟩ := h
  exact ⟨pA, pc, sA, sc, eA, ec, vss, e, own_tfr h1 he.1 f, h2.keep (fun v n xs k => own_tfr k he.2.1 f), own_tfr h3 he.2.2.1 f, own_tfr h4 he.2.2.2 f, h5⟩
/-- What the cells of the positions of a row are. -/
def CellsP (W : World) (vss : List (List Value)) (ps : List PosM) : Prop := vss.length = ps.length ∧ ∀ (i : Nat) (c : List Value) (P : PosM), vss[i]? = some c → ps[i]? = some P → c.length = 5 ∧ PosI W (.agg c.toArray) P
theorem CellsP.tfr {ts : List TypeId} {w W : World} {vss : List (List Value)} {ps : List PosM} (h : CellsP w vss ps) (he : 3 ∉ ts) (f : TFr ts w W) : CellsP W vss ps :=
  ⟨h.1, fun i c P a b => ⟨(h.2 i c P a b).1, (h.2 i c P a b).2.tfr he f⟩⟩
theorem CellsP.ext {w W : World} {vss : List (List Value)} {ps : List PosM} (h : CellsP w vss ps) (x : Ext w W) : CellsP W vss ps :=
  ⟨h.1, fun i c P a b => ⟨(h.2 i c P a b).1, (h.2 i c P a b).2.ext x⟩⟩
theorem CellsP.snoc {w : World} {vss : List (List Value)} {ps : List PosM} {c : List Value} {P : PosM} (h : CellsP w vss ps) (hc : c.length = 5) (hp : PosI w (.agg c.toArray) P) : CellsP w (vss ++ [c]) (ps ++ [P]) := by
  refine ⟨by simp [h.1], fun i c' P' a b => ?_⟩
  by_cases hi : i < ps.length
  · rw [List.getElem?_append_left (by rw [h.1]; exact hi)] at a
    rw [List.getElem?_append_left hi] at b
    exact h.2 i c' P' a b
  · rw [List.getElem?_append_right (by rw [h.1]; omega)] at a
    rw [List.getElem?_append_right (by omega)] at b
    rw [h.1] at a
    have hi2 : i - ps.length = 0 := by
      by_cases h0 : i - ps.length = 0
      · exact h0
      · rw [List.getElem?_eq_none (by simp; omega)] at a; cases a
    rw [hi2] at a b
    simp only [List.getElem?_cons_zero, Option.some.injEq] at a b
    subst a b
    exact ⟨hc, hp⟩
theorem CellsP.init {w : World} {vss : List (List Value)} {ps : List PosM} {c : List Value} {P : PosM} (h : CellsP w (vss ++ [c]) (ps ++ [P])) : CellsP w vss ps := by
  have hl : vss.length = ps.length := by simpa using h.1
  refine ⟨hl, fun i c' P' a b => h.2 i c' P' ?_ ?_⟩
  · rw [List.getElem?_append_left (List.getElem?_eq_some_iff.1 a).1]; exact a
  · rw [List.getElem?_append_left (List.getElem?_eq_some_iff.1 b).1]; exact b
theorem flat5 : ∀ (vss : List (List Value)) (k j : Nat) (c : List Value), (∀ l ∈ vss, l.length = 5) → vss[k]? = some c → j < 5 → vss.flatten[k * 5 + j]? = c[j]?
  | [], k, j, c, _, h, _ => by simp at h
  | a :: l, 0, j, c, hl, h, hj => by
    simp only [List.getElem?_cons_zero, Option.some.injEq] at h
    subst h
    rw [List.flatten_cons, List.getElem?_append_left (by rw [hl a (by simp)]; omega)]
    simp
  | a :: l, k + 1, j, c, hl, h, hj => by
    have ha := hl a (by simp)
    rw [List.flatten_cons, List.getElem?_append_right (by omega), ha, show (k + 1) * 5 + j - 5 = k * 5 + j by omega]
    exact flat5 l k j c (fun x hx => hl x (by simp [hx])) (by simpa using h) hj
/-- A slice value that owns a row of positions, laid since world w0. -/
def OwnP (w0 w : World) (v : Value) (ps : List PosM) : Prop := ∃ A c vss, v = .slice A ps.length c ∧ w.ownsRow w0.heap.size 29 5 (.slice A ps.length c) ps.length vss.flatten ∧ CellsP w vss ps
theorem OwnP.ext {w0 w W : World} {v : Value} {ps : List PosM} (h : OwnP w0 w v ps) (x : Ext w W) : OwnP w0 W v ps := by
  obtain ⟨A, c, vss, e, o, k⟩ := h
  exact ⟨A, c, vss, e, own_ext o x, k.ext x⟩
theorem OwnP.bd {w0 w : World} {v : Value} {ps : List PosM} (h : OwnP w0 w v ps) : ∀ g, v.ownBlock = some g → w0.heap.size ≤ g ∧ g < w.heap.size := by
  obtain ⟨A, c, vss, rfl, h, -⟩ := h
  exact h.lt
theorem OwnP.all5 {w : World} {vss : List (List Value)} {ps : List PosM} (h : CellsP w vss ps) : ∀ l ∈ vss, l.length = 5 := fun l hl => by
  obtain ⟨i, hi⟩ := List.getElem?_of_mem hl
  have hlt := (List.getElem?_eq_some_iff.1 hi).1
  have hlt2 : i < ps.length := by rw [← h.1]; exact hlt
  exact (h.2 i l ps[i] hi (List.getElem?_eq_getElem hlt2)).1
/-- Reading a position of the row. -/
theorem pos_get {w0 w : World} {v : Value} {ps : List PosM} (h : OwnP w0 w v ps) {k : Nat} {P : PosM} (hk : ps[k]? = some P) :
    ∃ g cap c0 c1 c2 c3 c4, v = .slice (some ⟨g, 0, none⟩) ps.length cap ∧ PosI w (.agg #[c0, c1, c2, c3, c4]) P ∧ w.cell? ⟨g, k * 5, none⟩ = some c0 ∧ w.cell? ⟨g, k * 5 + 1, none⟩ = some c1 ∧ w.cell? ⟨g, k * 5 + 2, none⟩ = some c2 ∧ w.cell? ⟨g, k * 5 + 3, none⟩ = some c3 ∧ w.cell? ⟨g, k * 5 + 4, none⟩ = some c4 := by
  obtain ⟨A, cap, vss, rfl, o, hc⟩ := h
  have hlt := (List.getElem?_eq_some_iff.1 hk).1
  obtain ⟨g, cap', e, -, -⟩ := World.ownsRow.form o (by omega)
  simp only [Value.slice.injEq] at e
  obtain ⟨rfl, -, -⟩ := e
  have hv : vss[k]? = some (vss[k]'(by rw [hc.1]; exact hlt)) := List.getElem?_eq_getElem _
  generalize vss[k]'(by rw [hc.1]; exact hlt) = c at hv
  obtain ⟨h5, hp⟩ := hc.2 k c P hv hk
  have hcell := (own_cells o).1
  have hr : ∀ j, j < 5 → w.cell? ⟨g, k * 5 + j, none⟩ = c[j]? := fun j hj => by
    have hf := flat5 vss k j c (OwnP.all5 hc) hv hj
    have hs : c[j]? = some (c[j]'(by omega)) := List.getElem?_eq_getElem _
    rw [hs] at hf ⊢
    obtain ⟨b', o', e, hcc⟩ := hcell _ _ hf
    simp only [Option.some.injEq, Addr.mk.injEq, and_true] at e
    obtain ⟨rfl, rfl⟩ := e
    rw [Nat.zero_add] at hcc
    exact hcc
  match c, h5, hp, hr with
  | [c0, c1, c2, c3, c4], _, hp, hr => exact ⟨g, cap, c0, c1, c2, c3, c4, rfl, hp, hr 0 (by omega), hr 1 (by omega), hr 2 (by omega), hr 3 (by omega), hr 4 (by omega)⟩
/-- A row without its last position. -/
theorem OwnP.pop {w0 w : World} {g cap : Nat} {ps : List PosM} {P : PosM} (h : OwnP w0 w (.slice (some ⟨g, 0, none⟩) (ps.length + 1) cap) (ps ++ [P])) : OwnP w0 w (.slice (some ⟨g, 0, none⟩) ps.length cap) ps := by
  obtain ⟨A, c, vss, e, o, hc⟩ := h
  simp only [List.length_append, List.length_cons, List.length_nil, Nat.zero_add, Value.slice.injEq, true_and] at e
  obtain ⟨rfl, rfl⟩ := e
  simp only [List.length_append, List.length_cons, List.length_nil, Nat.zero_add] at o
  obtain ⟨vs, c, rfl⟩ : ∃ vs c, vss = vs ++ [c] := by
    have hn : vss ≠ [] := by rintro rfl; have := hc.1; simp at this
    exact ⟨vss.dropLast, vss.getLast hn, (List.dropLast_concat_getLast hn).symm⟩
  have h5 := OwnP.all5 hc
  rw [List.flatten_append] at o
  have hl : vs.flatten.length = ps.length * 5 := by
    have hl0 : vs.length = ps.length := by simpa using hc.1
    rw [List.length_flatten, List.map_congr_left (g := fun _ => 5) (fun l hl => h5 l (by simp [hl])), List.map_const', List.sum_replicate_nat, hl0]
  exact ⟨_, cap, vs, rfl, ownsRow_pop hl o, hc.init⟩
theorem OwnM.pop {w0 w : World} {g cap : Nat} {ms : List MoveM} {m : MoveM} (h : OwnM w0 w (.slice (some ⟨g, 0, none⟩) (ms.length + 1) cap) (ms ++ [m])) : OwnM w0 w (.slice (some ⟨g, 0, none⟩) ms.length cap) ms := by
  obtain ⟨A, c, e, o⟩ := h
  simp only [List.length_append, List.length_cons, List.length_nil, Nat.zero_add, Value.slice.injEq, true_and] at e
  obtain ⟨rfl, rfl⟩ := e
  simp only [List.length_append, List.length_cons, List.length_nil, Nat.zero_add, List.flatMap_append] at o
  exact ⟨_, cap, rfl, ownsRow_pop (len_vals ms) o⟩
end Go.Proofs.Ytdoibgmmijhlfaa
namespace Go.Proofs.Ytdoibgmmijhlfaa
open Go.ChangeShapes Go.WideShapes Go.ChangeAt Go.RowKit
set_option linter.unusedVariables false
theorem eq_ext {f : FuncId} {args : Array Value} {w : World} {v : Value} (h : Calls Try.prog f args w fun e w' => e = .returned v ∧ ∃ q, w' = w.drewN q) : Calls Try.prog f args w fun e w' => e = .returned v ∧ Ext w w' :=
  h.mono fun _ _ ⟨he, q, hw⟩ => ⟨he, by rw [hw]; exact ext_drewN (Below.refl _ _) q⟩
theorem PSame_yes (P : PosM) (v u : Value) (w : World) (hP : PosAt w v P) (hQ : PosAt w u P) (h0 : P.cells.length ≤ 100000) (h1 : P.hand0.length ≤ 100000) (h2 : P.hand1.length ≤ 100000) :
    Calls Try.prog 40 #[v, u] w fun e w' => e = .returned (.bool true) ∧ Ext w w' := by
  obtain ⟨cA, cc, aA, ac, bA, bc, rfl, hcA, haA, hbA, -⟩ := hP
  obtain ⟨dA, dc, eA, ec, fA, fc, rfl, hdA, heA, hfA, -⟩ := hQ
  have E0 := hide (fun W (hW : Ext w W) => eq_ext (EqInts_yes cA dA P.cells.length cc dc P.cells W rfl (by omega) (hcA.ext hW) (hdA.ext hW)))
  have E1 := hide (fun W (hW : Ext w W) => eq_ext (EqInts_yes aA eA P.hand0.length ac ec P.hand0 W rfl (by omega) (haA.ext hW) (heA.ext hW)))
  have E2 := hide (fun W (hW : Ext w W) => eq_ext (EqInts_yes bA fA P.hand1.length bc fc P.hand1 W rfl (by omega) (hbA.ext hW) (hfA.ext hW)))
  clear hcA haA hbA hdA heA hfA
  go_enter Try.func40, Try.ntmps40
  go_wp2_with fail
  obtain ⟨x1, k1, k2⟩ := blks2 w #[.slice cA P.cells.length cc, .slice aA P.hand0.length ac, .slice bA P.hand1.length bc, .int .i64 P.turn, .int .i64 P.quiet] 29 #[.slice dA P.cells.length dc, .slice eA P.hand0.length ec, .slice fA P.hand1.length fc, .int .i64 P.turn, .int .i64 P.quiet] 29
  refine (E0.out _ x1).mono ?_
  rintro e w2 ⟨rfl, x2⟩
  have f1 := (k1.ext x2).cell
  have f2 := (k2.ext x2).cell
  go_wp2_with fail
  refine (E1.out _ (ext_trans x1 x2)).mono ?_
  rintro e w3 ⟨rfl, x3⟩
  have g1 := ((k1.ext x2).ext x3).cell
  have g2 := ((k2.ext x2).ext x3).cell
  clear f1 f2
  go_wp2_with fail
  refine (E2.out _ (ext_trans x1 (ext_trans x2 x3))).mono ?_
  rintro e w4 ⟨rfl, x4⟩
  have i1 := (((k1.ext x2).ext x3).ext x4).cell
  have i2 := (((k2.ext x2).ext x3).ext x4).cell
  clear g1 g2
  go_wp2
  go_ret
  exact ⟨rfl, ext_trans x1 (ext_trans x2 (ext_trans x3 x4))⟩
end Go.Proofs.Ytdoibgmmijhlfaa
namespace Go.Proofs.Ytdoibgmmijhlfaa
open Go.ChangeShapes Go.WideShapes Go.ChangeAt Go.RowKit
set_option linter.unusedVariables false
def sameB (P Q : PosM) : Bool := decide (P.cells = Q.cells) && (decide (P.hand0 = Q.hand0) && (decide (P.hand1 = Q.hand1) && decide (P.turn = Q.turn)))
theorem sameB_self (P : PosM) : sameB P P = true := by simp [sameB]
set_option maxHeartbeats 2000000 in
set_option maxRecDepth 100000 in
theorem PSame_any (P Q : PosM) (v u : Value) (w : World) (hP : PosAt w v P) (hQ : PosAt w u Q) (h0 : P.cells.length ≤ 100000) (h1 : P.hand0.length ≤ 100000) (h2 : P.hand1.length ≤ 100000) (g0 : Q.cells.length ≤ 100000) (g1 : Q.hand0.length ≤ 100000) (g2 : Q.hand1.length ≤ 100000) :
    Calls Try.prog 40 #[v, u] w fun e w' => e = .returned (.bool (sameB P Q)) ∧ Ext w w' := by
  obtain ⟨cA, cc, aA, ac, bA, bc, rfl, hcA, haA, hbA, -⟩ := hP
  obtain ⟨dA, dc, eA, ec, fA, fc, rfl, hdA, heA, hfA, -⟩ := hQ
  have E0 := hide (fun W (hW : Ext w W) => eq_ext (EqInts_any cA dA P.cells.length Q.cells.length cc dc P.cells Q.cells W rfl rfl (by omega) (by omega) (hcA.ext hW) (hdA.ext hW)))
  have E1 := hide (fun W (hW : Ext w W) => eq_ext (EqInts_any aA eA P.hand0.length Q.hand0.length ac ec P.hand0 Q.hand0 W rfl rfl (by omega) (by omega) (haA.ext hW) (heA.ext hW)))
  have E2 := hide (fun W (hW : Ext w W) => eq_ext (EqInts_any bA fA P.hand1.length Q.hand1.length bc fc P.hand1 Q.hand1 W rfl rfl (by omega) (by omega) (hbA.ext hW) (hfA.ext hW)))
  have HSB := hide (show sameB P Q = (decide (P.cells = Q.cells) && (decide (P.hand0 = Q.hand0) && (decide (P.hand1 = Q.hand1) && decide (P.turn = Q.turn)))) from rfl)
  clear hcA haA hbA hdA heA hfA
  obtain ⟨x1, k1, k2⟩ := blks2 w #[.slice cA P.cells.length cc, .slice aA P.hand0.length ac, .slice bA P.hand1.length bc, .int .i64 P.turn, .int .i64 P.quiet] 29 #[.slice dA Q.cells.length dc, .slice eA Q.hand0.length ec, .slice fA Q.hand1.length fc, .int .i64 Q.turn, .int .i64 Q.quiet] 29
  have K1 := hide k1
  have K2 := hide k2
  have X1 := hide x1
  clear x1 k1 k2
  have f1 := K1.out.cell
  have f2 := K2.out.cell
  cases b0 : decide (P.cells = Q.cells)
  · have HV : Hid (sameB P Q = false) := hide (by rw [HSB.out, b0]; rfl)
    rw [b0] at E0
    go_enter Try.func40, Try.ntmps40
    go_wp2_with fail
    refine (E0.out _ X1.out).mono ?_
    rintro e w2 ⟨rfl, x2⟩
    have X2 := hide (ext_trans X1.out x2)
    have K10 := hide (K1.out.ext x2)
    have K20 := hide (K2.out.ext x2)
    clear f1 f2 x2
    have f1 := K10.out.cell
    have f2 := K20.out.cell
    go_wp2
    go_ret
    exact ⟨by rw [HV.out]; first | rfl | simp, X2.out⟩
  · rw [b0] at E0
    cases b1 : decide (P.hand0 = Q.hand0)
    · have HV : Hid (sameB P Q = false) := hide (by rw [HSB.out, b0, b1]; rfl)
      rw [b1] at E1
      go_enter Try.func40, Try.ntmps40
      go_wp2_with fail
      refine (E0.out _ X1.out).mono ?_
      rintro e w2 ⟨rfl, x2⟩
      have X2 := hide (ext_trans X1.out x2)
      have K10 := hide (K1.out.ext x2)
      have K20 := hide (K2.out.ext x2)
      clear f1 f2 x2
      have f1 := K10.out.cell
      have f2 := K20.out.cell
      go_wp2_with fail
      refine (E1.out _ X2.out).mono ?_
      rintro e w3 ⟨rfl, x3⟩
      have X3 := hide (ext_trans X2.out x3)
      have K11 := hide (K10.out.ext x3)
      have K21 := hide (K20.out.ext x3)
      clear f1 f2 x3
      have f1 := K11.out.cell
      have f2 := K21.out.cell
      go_wp2
      go_ret
      exact ⟨by rw [HV.out]; first | rfl | simp, X3.out⟩
    · rw [b1] at E1
      cases b2 : decide (P.hand1 = Q.hand1)
      · have HV : Hid (sameB P Q = false) := hide (by rw [HSB.out, b0, b1, b2]; rfl)
        rw [b2] at E2
        go_enter Try.func40, Try.ntmps40
        go_wp2_with fail
        refine (E0.out _ X1.out).mono ?_
        rintro e w2 ⟨rfl, x2⟩
        have X2 := hide (ext_trans X1.out x2)
        have K10 := hide (K1.out.ext x2)
        have K20 := hide (K2.out.ext x2)
        clear f1 f2 x2
        have f1 := K10.out.cell
        have f2 := K20.out.cell
        go_wp2_with fail
        refine (E1.out _ X2.out).mono ?_
        rintro e w3 ⟨rfl, x3⟩
        have X3 := hide (ext_trans X2.out x3)
        have K11 := hide (K10.out.ext x3)
        have K21 := hide (K20.out.ext x3)
        clear f1 f2 x3
        have f1 := K11.out.cell
        have f2 := K21.out.cell
        go_wp2_with fail
        refine (E2.out _ X3.out).mono ?_
        rintro e w4 ⟨rfl, x4⟩
        have X4 := hide (ext_trans X3.out x4)
        have K12 := hide (K11.out.ext x4)
        have K22 := hide (K21.out.ext x4)
        clear f1 f2 x4
        have f1 := K12.out.cell
        have f2 := K22.out.cell
        go_wp2
        go_ret
        exact ⟨by rw [HV.out]; first | rfl | simp, X4.out⟩
      · rw [b2] at E2
        by_cases h3 : P.turn = Q.turn
        · have HV : Hid (sameB P Q = true) := hide (by rw [HSB.out, b0, b1, b2]; simp [h3])
          have t3 : (P.turn == Q.turn) = true := by simpa using h3
          clear h3
          go_enter Try.func40, Try.ntmps40
          go_wp2_with fail
          refine (E0.out _ X1.out).mono ?_
          rintro e w2 ⟨rfl, x2⟩
          have X2 := hide (ext_trans X1.out x2)
          have K10 := hide (K1.out.ext x2)
          have K20 := hide (K2.out.ext x2)
          clear f1 f2 x2
          have f1 := K10.out.cell
          have f2 := K20.out.cell
          go_wp2_with fail
          refine (E1.out _ X2.out).mono ?_
          rintro e w3 ⟨rfl, x3⟩
          have X3 := hide (ext_trans X2.out x3)
          have K11 := hide (K10.out.ext x3)
          have K21 := hide (K20.out.ext x3)
          clear f1 f2 x3
          have f1 := K11.out.cell
          have f2 := K21.out.cell
          go_wp2_with fail
          refine (E2.out _ X3.out).mono ?_
          rintro e w4 ⟨rfl, x4⟩
          have X4 := hide (ext_trans X3.out x4)
          have K12 := hide (K11.out.ext x4)
          have K22 := hide (K21.out.ext x4)
          clear f1 f2 x4
          have f1 := K12.out.cell
          have f2 := K22.out.cell
          go_wp2
          go_ret
          exact ⟨by rw [HV.out]; first | rfl | simp, X4.out⟩
        · have HV : Hid (sameB P Q = false) := hide (by rw [HSB.out, b0, b1, b2]; simp [h3])
          have t3 : (P.turn == Q.turn) = false := by simpa using h3
          clear h3
          go_enter Try.func40, Try.ntmps40
          go_wp2_with fail
          refine (E0.out _ X1.out).mono ?_
          rintro e w2 ⟨rfl, x2⟩
          have X2 := hide (ext_trans X1.out x2)
          have K10 := hide (K1.out.ext x2)
          have K20 := hide (K2.out.ext x2)
          clear f1 f2 x2
          have f1 := K10.out.cell
          have f2 := K20.out.cell
          go_wp2_with fail
          refine (E1.out _ X2.out).mono ?_
          rintro e w3 ⟨rfl, x3⟩
          have X3 := hide (ext_trans X2.out x3)
          have K11 := hide (K10.out.ext x3)
          have K21 := hide (K20.out.ext x3)
          clear f1 f2 x3
          have f1 := K11.out.cell
          have f2 := K21.out.cell
          go_wp2_with fail
          refine (E2.out _ X3.out).mono ?_
          rintro e w4 ⟨rfl, x4⟩
          have X4 := hide (ext_trans X3.out x4)
          have K12 := hide (K11.out.ext x4)
          have K22 := hide (K21.out.ext x4)
          clear f1 f2 x4
          have f1 := K12.out.cell
          have f2 := K22.out.cell
          go_wp2
          go_ret
          exact ⟨by rw [HV.out]; first | rfl | simp, X4.out⟩
end Go.Proofs.Ytdoibgmmijhlfaa
namespace Go.Proofs.Ytdoibgmmijhlfaa
open Go.ChangeShapes Go.WideShapes Go.ChangeAt Go.RowKit Go.Shelf
set_option linter.unusedVariables false
set_option linter.unusedSimpArgs false
def NowPost (W : World) (P : PosM) (e : Ending) (w' : World) : Prop := ∃ v, e = .returned v ∧ PosI w' v P ∧ Ext W w'
theorem RulesOwn.ext {w W : World} {base : Nat} {v : Value} {R : RulesM} (h : RulesOwn w base v R) (x : Ext w W) : RulesOwn W base v R := h.tfr (ts := []) ⟨by decide, by decide, by decide, by decide⟩ (TFr.of_ext x)
/-- What the positions of a game have. -/
def Fit (ps : List PosM) : Prop := ∀ Q ∈ ps, 1 ≤ Q.cells.length ∧ 1 ≤ Q.hand0.length ∧ 1 ≤ Q.hand1.length ∧ Q.cells.length ≤ 100000 ∧ Q.hand0.length ≤ 100000 ∧ Q.hand1.length ≤ 100000
theorem PosI.far5 {w : World} {B : Nat} {cs : Array Value} {v : Value} {P : PosM} {u0 u1 u2 u3 u4 : Value} (h : PosI w v P) (k : Blk w B 29 cs) :
    PosI (((((w.setCell ⟨B, 0, none⟩ u0).setCell ⟨B, 1, none⟩ u1).setCell ⟨B, 2, none⟩ u2).setCell ⟨B, 3, none⟩ u3).setCell ⟨B, 4, none⟩ u4) v P := by
  have k0 := k.set_ 0 u0
  have k1 := k0.set_ 1 u1
  have k2 := k1.set_ 2 u2
  have k3 := k2.set_ 3 u3
  have m := List.mem_singleton.2 (rfl : 29 = 29)
  exact h.tfr (ts := [29]) (by decide) (((((TFr.set k m 0 u0).trans (TFr.set k0 m 1 u1)).trans (TFr.set k1 m 2 u2)).trans (TFr.set k2 m 3 u3)).trans (TFr.set k3 m 4 u4))
theorem last_mem {ps : List PosM} {P : PosM} (h : ps.getLast? = some P) : P ∈ ps := List.mem_of_getLast? h
theorem fit_of {R : RulesM} {ps : List PosM} (hV : Valid R) (hS : ∀ Q ∈ ps, Sound R Q) : Fit ps := fun Q hQ => by
  have h := hS Q hQ
  have har := area_bd _ _ hV.side
  have ha := h.area
  have hp0 := hV.pieces0
  have hp6 := hV.pieces6
  have h0 := h.len0
  have h1 := h.len1
  omega
theorem posInfo : (Try.prog.info? 29).map (fun i => (i.zero, i.size, i.bytes)) = some (some (.agg #[.slice none 0 0, .slice none 0 0, .slice none 0 0, .int .i64 0, .int .i64 0]), 5, 88) := by kernel_rfl
theorem ite_yes' {c : Prop} [Decidable c] {A B : Prop} (hc : c) (h : A) : if c then A else B := by rw [if_pos hc]; exact h
theorem OwnM.tfr {ts : List TypeId} {w0 w W : World} {v : Value} {ms : List MoveM} (h : OwnM w0 w v ms) (he : 37 ∉ ts) (f : TFr ts w W) : OwnM w0 W v ms := by
  obtain ⟨A, c, rfl, h⟩ := h
  exact ⟨A, c, rfl, own_tfr h he f⟩
theorem OwnP.tfr {ts : List TypeId} {w0 w W : World} {v : Value} {ps : List PosM} (h : OwnP w0 w v ps) (he : 29 ∉ ts) (hi : 3 ∉ ts) (f : TFr ts w W) : OwnP w0 W v ps := by
  obtain ⟨A, c, vss, rfl, h, k⟩ := h
  exact ⟨A, c, vss, rfl, own_tfr h he f, k.tfr hi f⟩
theorem OwnP.form {w0 w : World} {l : Value} {ps : List PosM} {P : PosM} (h : OwnP w0 w l (ps ++ [P])) : ∃ g cap, l = .slice (some ⟨g, 0, none⟩) (ps.length + 1) cap ∧ ps.length + 1 ≤ cap := by
  obtain ⟨A, c, vss, rfl, o, -⟩ := h
  obtain ⟨g, cap, e, -, -⟩ := World.ownsRow.form o (by simp)
  have hc := own_cap o
  simp only [Value.slice.injEq] at e
  obtain ⟨rfl, -, rfl⟩ := e
  simp only [List.length_append, List.length_cons, List.length_nil, Nat.zero_add] at hc
  exact ⟨g, c, by simp, hc⟩
theorem ownP_one {w0 w : World} {BL : Nat} {P : PosM} {g0 g1 g2 d0 d1 d2 : Nat} (k : Blk w BL 29 #[.slice (some ⟨g0, 0, none⟩) P.cells.length d0, .slice (some ⟨g1, 0, none⟩) P.hand0.length d1, .slice (some ⟨g2, 0, none⟩) P.hand1.length d2, .int .i64 P.turn, .int .i64 P.quiet]) (hb : w0.heap.size ≤ BL) (hp : PosI w (.agg #[.slice (some ⟨g0, 0, none⟩) P.cells.length d0, .slice (some ⟨g1, 0, none⟩) P.hand0.length d1, .slice (some ⟨g2, 0, none⟩) P.hand1.length d2, .int .i64 P.turn, .int .i64 P.quiet]) P) : OwnP w0 w (.slice (some ⟨BL, 0, none⟩) 1 1) [P] :=
  ⟨_, 1, [[.slice (some ⟨g0, 0, none⟩) P.cells.length d0, .slice (some ⟨g1, 0, none⟩) P.hand0.length d1, .slice (some ⟨g2, 0, none⟩) P.hand1.length d2, .int .i64 P.turn, .int .i64 P.quiet]], rfl, ⟨rfl, .inr ⟨BL, 1, #[.slice (some ⟨g0, 0, none⟩) P.cells.length d0, .slice (some ⟨g1, 0, none⟩) P.hand0.length d1, .slice (some ⟨g2, 0, none⟩) P.hand1.length d2, .int .i64 P.turn, .int .i64 P.quiet], rfl, hb, k, Nat.le_refl _, by simp [maxLen], rfl, rfl⟩⟩, rfl, fun i c Q a b => by
    rcases i with _ | i
    · simp only [List.getElem?_cons_zero, Option.some.injEq] at a b
      subst a b
      exact ⟨rfl, hp⟩
    · simp at a⟩
end Go.Proofs.Ytdoibgmmijhlfaa
