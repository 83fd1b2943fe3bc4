/- A position each of whose lists lies in a block of its own. Worlds in which only blocks of some types have changed; rows of positions. Walks: place.Same and same, of positions that are alike. Walk: place.Same, of any positions. A game in memory; how often a position has occurred; walk: (*plain.Game).now. Walks: (*plain.Game).Position, Moves, Count, Result. Walks: (*plain.Game).Result, Moves. -/
import Derived.Test.YtmofipijjokjfaaPosK
import Derived.Below
import Derived.Test.YtmofipijjokjfaaGCopy
import Derived.WalkSmall
import Derived.Deep.AppendLies
import Derived.Test.YtmofipijjokjfaaGLibB
import Derived.Test.YtmofipijjokjfaaIRow
import Derived.Test.YtmofipijjokjfaaGEnds
import Derived.Test.YtmofipijjokjfaaRegionK
import Derived.StillTailTactics
import Derived.Laws.ResultCell
namespace Go.Proofs.Ytmofipijjokjfaa
open Go.ChangeShapes Go.WideShapes Go.ChangeAt Go.RowKit
set_option linter.unusedVariables false
/-- A position each of whose lists lies in a block of integers, from its beginning on. -/
def PosI (w : World) (v : Value) (P : PosM) : Prop :=
  ∃ g0 c0 g1 c1 g2 c2, v = .agg #[.slice (some ⟨g0, 0, none⟩) P.cells.length c0, .slice (some ⟨g1, 0, none⟩) P.hand0.length c1, .slice (some ⟨g2, 0, none⟩) P.hand1.length c2, .int .i64 P.turn, .int .i64 P.quiet] ∧
    IRow w g0 P.cells ∧ IRow w g1 P.hand0 ∧ IRow w g2 P.hand1 ∧ P.cells.length ≤ c0 ∧ P.hand0.length ≤ c1 ∧ P.hand1.length ≤ c2
theorem PosI.at_ {w : World} {v : Value} {P : PosM} (h : PosI w v P) : PosAt w v P := by
  obtain ⟨g0, c0, g1, c1, g2, c2, e, r0, r1, r2, h⟩ := h
  exact ⟨_, c0, _, c1, _, c2, e, r0.ints, r1.ints, r2.ints, h⟩
theorem PosOwn.toI {w : World} {N : Nat} {v : Value} {P : PosM} (h : PosOwn w N v P) : PosI w v P := by
  obtain ⟨g0, c0, g1, c1, g2, c2, e, -, -, -, r⟩ := h
  exact ⟨g0, c0, g1, c1, g2, c2, e, r⟩
theorem PosI.same {w W : World} {v : Value} {P : PosM} (h : PosI w v P) (hs : ∀ g zs, IRow w g zs → W.heap[g]? = w.heap[g]?) : PosI W v P := by
  obtain ⟨g0, c0, g1, c1, g2, c2, e, r0, r1, r2, m⟩ := h
  exact ⟨g0, c0, g1, c1, g2, c2, e, r0.same (hs _ _ r0), r1.same (hs _ _ r1), r2.same (hs _ _ r2), m⟩
theorem PosI.ext {w W : World} {v : Value} {P : PosM} (h : PosI w v P) (x : Ext w W) : PosI W v P := h.same (fun g zs r => x.block g r.lt)
end Go.Proofs.Ytmofipijjokjfaa
namespace Go.Proofs.Ytmofipijjokjfaa
open Go.ChangeShapes Go.WideShapes Go.ChangeAt Go.RowKit Go.Shelf
set_option linter.unusedVariables false
/-- Blocks of other types than ts are as they were. -/
def TFr (ts : List TypeId) (w W : World) : Prop := ∀ g t cs, Blk w g t cs → t ∉ ts → Blk W g t cs
theorem TFr.refl (ts : List TypeId) (w : World) : TFr ts w w := fun _ _ _ h _ => h
theorem TFr.trans {ts : List TypeId} {a b c : World} (h : TFr ts a b) (k : TFr ts b c) : TFr ts a c := fun g t cs hb ht => k g t cs (h g t cs hb ht) ht
theorem TFr.of_ext {ts : List TypeId} {w W : World} (x : Ext w W) : TFr ts w W := fun _ _ _ h _ => h.ext x
theorem TFr.set {ts : List TypeId} {w : World} {B : Nat} {t : TypeId} {cs : Array Value} (k : Blk w B t cs) (ht : t ∈ ts) (i : Nat) (u : Value) : TFr ts w (w.setCell ⟨B, i, none⟩ u) := fun g t' cs' hb hn => hb.far (p := ⟨B, i, none⟩) (by
  rintro rfl
  have e := hb.symm.trans k
  simp only [Option.some.injEq, Obj.cells.injEq] at e
  exact hn (e.2.1 ▸ ht)) u
theorem TFr.grown {ts : List TypeId} {w W : World} {base : Nat} {e : TypeId} {size n : Nat} {v : Value} {xs : List Value} (o : w.ownsRow base e size v n xs) (he : e ∈ ts) (g : w.grownBy W v.ownBlock) : TFr ts w W := fun b t cs hb hn =>
  hb.grown g (fun h => own_blk_ne o hb (by rintro rfl; exact hn he) h.symm)
theorem own_tfr {ts : List TypeId} {w W : World} {base : Nat} {e : TypeId} {size n : Nat} {v : Value} {xs : List Value} (h : w.ownsRow base e size v n xs) (he : e ∉ ts) (f : TFr ts w W) : W.ownsRow base e size v n xs :=
  ⟨h.1, h.2.imp id fun ⟨g, cap, cur, h1, h2, h3, h4⟩ => ⟨g, cap, cur, h1, h2, f g e cur h3 he, h4⟩⟩
theorem IRow.tfr {ts : List TypeId} {w W : World} {g : Nat} {zs : List Int} (h : IRow w g zs) (he : 3 ∉ ts) (f : TFr ts w W) : IRow W g zs := by
  obtain ⟨cur, h, ht⟩ := h
  exact ⟨cur, f g _ cur h he, ht⟩
theorem PosI.tfr {ts : List TypeId} {w W : World} {v : Value} {P : PosM} (h : PosI w v P) (he : 3 ∉ ts) (f : TFr ts w W) : PosI W v P := by
  obtain ⟨g0, c0, g1, c1, g2, c2, e, r0, r1, r2, m⟩ := h
  exact ⟨g0, c0, g1, c1, g2, c2, e, r0.tfr he f, r1.tfr he f, r2.tfr he f, m⟩
/-- The types of rules. -/
def rulesT (ts : List TypeId) : Prop := 82 ∉ ts ∧ 85 ∉ ts ∧ 3 ∉ ts ∧ 98 ∉ ts
theorem RulesOwn.tfr {ts : List TypeId} {w W : World} {base : Nat} {v : Value} {R : RulesM} (h : RulesOwn w base v R) (he : rulesT ts) (f : TFr ts w W) : RulesOwn W base v R := by
  obtain ⟨pA, pc, sA, sc, eA, ec, vss, e, h1, h2, h3, h4, h5⟩ := h
  exact ⟨pA, pc, sA, sc, eA, ec, vss, e, own_tfr h1 he.1 f, h2.keep (fun v n xs k => own_tfr k he.2.1 f), own_tfr h3 he.2.2.1 f, own_tfr h4 he.2.2.2 f, h5⟩
/-- What the cells of the positions of a row are. -/
def CellsP (W : World) (vss : List (List Value)) (ps : List PosM) : Prop := vss.length = ps.length ∧ ∀ (i : Nat) (c : List Value) (P : PosM), vss[i]? = some c → ps[i]? = some P → c.length = 5 ∧ PosI W (.agg c.toArray) P
theorem CellsP.tfr {ts : List TypeId} {w W : World} {vss : List (List Value)} {ps : List PosM} (h : CellsP w vss ps) (he : 3 ∉ ts) (f : TFr ts w W) : CellsP W vss ps :=
  ⟨h.1, fun i c P a b => ⟨(h.2 i c P a b).1, (h.2 i c P a b).2.tfr he f⟩⟩
theorem CellsP.ext {w W : World} {vss : List (List Value)} {ps : List PosM} (h : CellsP w vss ps) (x : Ext w W) : CellsP W vss ps :=
  ⟨h.1, fun i c P a b => ⟨(h.2 i c P a b).1, (h.2 i c P a b).2.ext x⟩⟩
theorem CellsP.snoc {w : World} {vss : List (List Value)} {ps : List PosM} {c : List Value} {P : PosM} (h : CellsP w vss ps) (hc : c.length = 5) (hp : PosI w (.agg c.toArray) P) : CellsP w (vss ++ [c]) (ps ++ [P]) := by
  refine ⟨by simp [h.1], fun i c' P' a b => ?_⟩
  by_cases hi : i < ps.length
  · rw [List.getElem?_append_left (by rw [h.1]; exact hi)] at a
    rw [List.getElem?_append_left hi] at b
    exact h.2 i c' P' a b
  · rw [List.getElem?_append_right (by rw [h.1]; omega)] at a
    rw [List.getElem?_append_right (by omega)] at b
    rw [h.1] at a
    have hi2 : i - ps.length = 0 := by
      by_cases h0 : i - ps.length = 0
      · exact h0
      · rw [List.getElem?_eq_none (by simp; omega)] at a; cases a
    rw [hi2] at a b
    simp only [List.getElem?_cons_zero, Option.some.injEq] at a b
    subst a b
    exact ⟨hc, hp⟩
theorem CellsP.init {w : World} {vss : List (List Value)} {ps : List PosM} {c : List Value} {P : PosM} (h : CellsP w (vss ++ [c]) (ps ++ [P])) : CellsP w vss ps := by
  have hl : vss.length = ps.length := by simpa using h.1
  refine ⟨hl, fun i c' P' a b => h.2 i c' P' ?_ ?_⟩
  · rw [List.getElem?_append_left (List.getElem?_eq_some_iff.1 a).1]; exact a
  · rw [List.getElem?_append_left (List.getElem?_eq_some_iff.1 b).1]; exact b
theorem flat5 : ∀ (vss : List (List Value)) (k j : Nat) (c : List Value), (∀ l ∈ vss, l.length = 5) → vss[k]? = some c → j < 5 → vss.flatten[k * 5 + j]? = c[j]?
  | [], k, j, c, _, h, _ => by simp at h
  | a :: l, 0, j, c, hl, h, hj => by
    simp only [List.getElem?_cons_zero, Option.some.injEq] at h
    subst h
    rw [List.flatten_cons, List.getElem?_append_left (by rw [hl a (by simp)]; omega)]
    simp
  | a :: l, k + 1, j, c, hl, h, hj => by
    have ha := hl a (by simp)
    rw [List.flatten_cons, List.getElem?_append_right (by omega), ha, show (k + 1) * 5 + j - 5 = k * 5 + j by omega]
    exact flat5 l k j c (fun x hx => hl x (by simp [hx])) (by simpa using h) hj
/-- A slice value that owns a row of positions, laid since world w0. -/
def OwnP (w0 w : World) (v : Value) (ps : List PosM) : Prop := ∃ A c vss, v = .slice A ps.length c ∧ w.ownsRow w0.heap.size 29 5 (.slice A ps.length c) ps.length vss.flatten ∧ CellsP w vss ps
theorem OwnP.ext {w0 w W : World} {v : Value} {ps : List PosM} (h : OwnP w0 w v ps) (x : Ext w W) : OwnP w0 W v ps := by
  obtain ⟨A, c, vss, e, o, k⟩ := h
  exact ⟨A, c, vss, e, own_ext o x, k.ext x⟩
theorem OwnP.bd {w0 w : World} {v : Value} {ps : List PosM} (h : OwnP w0 w v ps) : ∀ g, v.ownBlock = some g → w0.heap.size ≤ g ∧ g < w.heap.size := by
  obtain ⟨A, c, vss, rfl, h, -⟩ := h
  exact h.lt
theorem OwnP.all5 {w : World} {vss : List (List Value)} {ps : List PosM} (h : CellsP w vss ps) : ∀ l ∈ vss, l.length = 5 := fun l hl => by
  obtain ⟨i, hi⟩ := List.getElem?_of_mem hl
  have hlt := (List.getElem?_eq_some_iff.1 hi).1
  have hlt2 : i < ps.length := by rw [← h.1]; exact hlt
  exact (h.2 i l ps[i] hi (List.getElem?_eq_getElem hlt2)).1
/-- Reading a position of the row. -/
theorem pos_get {w0 w : World} {v : Value} {ps : List PosM} (h : OwnP w0 w v ps) {k : Nat} {P : PosM} (hk : ps[k]? = some P) :
    ∃ g cap c0 c1 c2 c3 c4, v = .slice (some ⟨g, 0, none⟩) ps.length cap ∧ PosI w (.agg #[c0, c1, c2, c3, c4]) P ∧ w.cell? ⟨g, k * 5, none⟩ = some c0 ∧ w.cell? ⟨g, k * 5 + 1, none⟩ = some c1 ∧ w.cell? ⟨g, k * 5 + 2, none⟩ = some c2 ∧ w.cell? ⟨g, k * 5 + 3, none⟩ = some c3 ∧ w.cell? ⟨g, k * 5 + 4, none⟩ = some c4 := by
  obtain ⟨A, cap, vss, rfl, o, hc⟩ := h
  have hlt := (List.getElem?_eq_some_iff.1 hk).1
  obtain ⟨g, cap', e, -, -⟩ := World.ownsRow.form o (by omega)
  simp only [Value.slice.injEq] at e
  obtain ⟨rfl, -, -⟩ := e
  have hv : vss[k]? = some (vss[k]'(by rw [hc.1]; exact hlt)) := List.getElem?_eq_getElem _
  generalize vss[k]'(by rw [hc.1]; exact hlt) = c at hv
  obtain ⟨h5, hp⟩ := hc.2 k c P hv hk
  have hcell := (own_cells o).1
  have hr : ∀ j, j < 5 → w.cell? ⟨g, k * 5 + j, none⟩ = c[j]? := fun j hj => by
    have hf := flat5 vss k j c (OwnP.all5 hc) hv hj
    have hs : c[j]? = some (c[j]'(by omega)) := List.getElem?_eq_getElem _
    rw [hs] at hf ⊢
    obtain ⟨b', o', e, hcc⟩ := hcell _ _ hf
    simp only [Option.some.injEq, Addr.mk.injEq, and_true] at e
    obtain ⟨rfl, rfl⟩ := e
    rw [Nat.zero_add] at hcc
    exact hcc
  match c, h5, hp, hr with
  | [c0, c1, c2, c3, c4], _, hp, hr => exact ⟨g, cap, c0, c1, c2, c3, c4, rfl, hp, hr 0 (by omega), hr 1 (by omega), hr 2 (by omega), hr 3 (by omega), hr 4 (by omega)⟩
/-- A row without its last position. -/
theorem OwnP.pop {w0 w : World} {g cap : Nat} {ps : List PosM} {P : PosM} (h : OwnP w0 w (.slice (some ⟨g, 0, none⟩) (ps.length + 1) cap) (ps ++ [P])) : OwnP w0 w (.slice (some ⟨g, 0, none⟩) ps.length cap) ps := by
  obtain ⟨A, c, vss, e, o, hc⟩ := h
  simp only [List.length_append, List.length_cons, List.length_nil, Nat.zero_add, Value.slice.injEq, true_and] at e
  obtain ⟨rfl, rfl⟩ := e
  simp only [List.length_append, List.length_cons, List.length_nil, Nat.zero_add] at o
  obtain ⟨vs, c, rfl⟩ : ∃ vs c, vss = vs ++ [c] := by
    have hn : vss ≠ [] := by rintro rfl; have := hc.1; simp at this
    exact ⟨vss.dropLast, vss.getLast hn, (List.dropLast_concat_getLast hn).symm⟩
  have h5 := OwnP.all5 hc
  rw [List.flatten_append] at o
  have hl : vs.flatten.length = ps.length * 5 := by
    have hl0 : vs.length = ps.length := by simpa using hc.1
    rw [List.length_flatten, List.map_congr_left (g := fun _ => 5) (fun l hl => h5 l (by simp [hl])), List.map_const', List.sum_replicate_nat, hl0]
  exact ⟨_, cap, vs, rfl, ownsRow_pop hl o, hc.init⟩
theorem OwnM.pop {w0 w : World} {g cap : Nat} {ms : List MoveM} {m : MoveM} (h : OwnM w0 w (.slice (some ⟨g, 0, none⟩) (ms.length + 1) cap) (ms ++ [m])) : OwnM w0 w (.slice (some ⟨g, 0, none⟩) ms.length cap) ms := by
  obtain ⟨A, c, e, o⟩ := h
  simp only [List.length_append, List.length_cons, List.length_nil, Nat.zero_add, Value.slice.injEq, true_and] at e
  obtain ⟨rfl, rfl⟩ := e
  simp only [List.length_append, List.length_cons, List.length_nil, Nat.zero_add, List.flatMap_append] at o
  exact ⟨_, cap, rfl, ownsRow_pop (len_vals ms) o⟩
end Go.Proofs.Ytmofipijjokjfaa
namespace Go.Proofs.Ytmofipijjokjfaa
open Go.ChangeShapes Go.WideShapes Go.ChangeAt Go.RowKit
set_option linter.unusedVariables false
theorem eq_ext {f : FuncId} {args : Array Value} {w : World} {v : Value} (h : Calls Try.prog f args w fun e w' => e = .returned v ∧ ∃ q, w' = w.drewN q) : Calls Try.prog f args w fun e w' => e = .returned v ∧ Ext w w' :=
  h.mono fun _ _ ⟨he, q, hw⟩ => ⟨he, by rw [hw]; exact ext_drewN (Below.refl _ _) q⟩
theorem PSame_yes (P : PosM) (v u : Value) (w : World) (hP : PosAt w v P) (hQ : PosAt w u P) (h0 : P.cells.length ≤ 100000) (h1 : P.hand0.length ≤ 100000) (h2 : P.hand1.length ≤ 100000) :
    Calls Try.prog 71 #[v, u] w fun e w' => e = .returned (.bool true) ∧ Ext w w' := by
  obtain ⟨cA, cc, aA, ac, bA, bc, rfl, hcA, haA, hbA, -⟩ := hP
  obtain ⟨dA, dc, eA, ec, fA, fc, rfl, hdA, heA, hfA, -⟩ := hQ
  have E0 := hide (fun W (hW : Ext w W) => eq_ext (EqInts_yes cA dA P.cells.length cc dc P.cells W rfl (by omega) (hcA.ext hW) (hdA.ext hW)))
  have E1 := hide (fun W (hW : Ext w W) => eq_ext (EqInts_yes aA eA P.hand0.length ac ec P.hand0 W rfl (by omega) (haA.ext hW) (heA.ext hW)))
  have E2 := hide (fun W (hW : Ext w W) => eq_ext (EqInts_yes bA fA P.hand1.length bc fc P.hand1 W rfl (by omega) (hbA.ext hW) (hfA.ext hW)))
  clear hcA haA hbA hdA heA hfA
  go_enter Try.func71, Try.ntmps71
  go_wp2_with fail
  obtain ⟨x1, k1, k2⟩ := blks2 w #[.slice cA P.cells.length cc, .slice aA P.hand0.length ac, .slice bA P.hand1.length bc, .int .i64 P.turn, .int .i64 P.quiet] 29 #[.slice dA P.cells.length dc, .slice eA P.hand0.length ec, .slice fA P.hand1.length fc, .int .i64 P.turn, .int .i64 P.quiet] 29
  refine (E0.out _ x1).mono ?_
  rintro e w2 ⟨rfl, x2⟩
  have f1 := (k1.ext x2).cell
  have f2 := (k2.ext x2).cell
  go_wp2_with fail
  refine (E1.out _ (ext_trans x1 x2)).mono ?_
  rintro e w3 ⟨rfl, x3⟩
  have g1 := ((k1.ext x2).ext x3).cell
  have g2 := ((k2.ext x2).ext x3).cell
  clear f1 f2
  go_wp2_with fail
  refine (E2.out _ (ext_trans x1 (ext_trans x2 x3))).mono ?_
  rintro e w4 ⟨rfl, x4⟩
  have i1 := (((k1.ext x2).ext x3).ext x4).cell
  have i2 := (((k2.ext x2).ext x3).ext x4).cell
  clear g1 g2
  go_wp2
  go_ret
  exact ⟨rfl, ext_trans x1 (ext_trans x2 (ext_trans x3 x4))⟩
theorem same_yes (P : PosM) (v u : Value) (w : World) (hP : PosAt w v P) (hQ : PosAt w u P) (h0 : P.cells.length ≤ 100000) (h1 : P.hand0.length ≤ 100000) (h2 : P.hand1.length ≤ 100000) :
    Calls Try.prog 46 #[v, u] w fun e w' => e = .returned (.bool true) ∧ Ext w w' := by
  obtain ⟨cA, cc, aA, ac, bA, bc, rfl, hcA, haA, hbA, -⟩ := hP
  obtain ⟨dA, dc, eA, ec, fA, fc, rfl, hdA, heA, hfA, -⟩ := hQ
  have E0 := hide (fun W (hW : Ext w W) => eq_ext (EqInts_yes cA dA P.cells.length cc dc P.cells W rfl (by omega) (hcA.ext hW) (hdA.ext hW)))
  have E1 := hide (fun W (hW : Ext w W) => eq_ext (EqInts_yes aA eA P.hand0.length ac ec P.hand0 W rfl (by omega) (haA.ext hW) (heA.ext hW)))
  have E2 := hide (fun W (hW : Ext w W) => eq_ext (EqInts_yes bA fA P.hand1.length bc fc P.hand1 W rfl (by omega) (hbA.ext hW) (hfA.ext hW)))
  clear hcA haA hbA hdA heA hfA
  go_enter Try.func46, Try.ntmps46
  go_wp2_with fail
  obtain ⟨x1, k1, k2⟩ := blks2 w #[.slice cA P.cells.length cc, .slice aA P.hand0.length ac, .slice bA P.hand1.length bc, .int .i64 P.turn, .int .i64 P.quiet] 29 #[.slice dA P.cells.length dc, .slice eA P.hand0.length ec, .slice fA P.hand1.length fc, .int .i64 P.turn, .int .i64 P.quiet] 29
  refine (E0.out _ x1).mono ?_
  rintro e w2 ⟨rfl, x2⟩
  have f1 := (k1.ext x2).cell
  have f2 := (k2.ext x2).cell
  go_wp2_with fail
  refine (E1.out _ (ext_trans x1 x2)).mono ?_
  rintro e w3 ⟨rfl, x3⟩
  have g1 := ((k1.ext x2).ext x3).cell
  have g2 := ((k2.ext x2).ext x3).cell
  clear f1 f2
  go_wp2_with fail
  refine (E2.out _ (ext_trans x1 (ext_trans x2 x3))).mono ?_
  rintro e w4 ⟨rfl, x4⟩
  have i1 := (((k1.ext x2).ext x3).ext x4).cell
  have i2 := (((k2.ext x2).ext x3).ext x4).cell
  clear g1 g2
  go_wp2
  go_ret
  exact ⟨rfl, ext_trans x1 (ext_trans x2 (ext_trans x3 x4))⟩

end Go.Proofs.Ytmofipijjokjfaa
namespace Go.Proofs.Ytmofipijjokjfaa
open Go.ChangeShapes Go.WideShapes Go.ChangeAt Go.RowKit
set_option linter.unusedVariables false
def sameB (P Q : PosM) : Bool := decide (P.cells = Q.cells) && (decide (P.hand0 = Q.hand0) && (decide (P.hand1 = Q.hand1) && decide (P.turn = Q.turn)))
theorem sameB_self (P : PosM) : sameB P P = true := by simp [sameB]
set_option maxHeartbeats 2000000 in
set_option maxRecDepth 100000 in
theorem PSame_any (P Q : PosM) (v u : Value) (w : World) (hP : PosAt w v P) (hQ : PosAt w u Q) (h0 : P.cells.length ≤ 100000) (h1 : P.hand0.length ≤ 100000) (h2 : P.hand1.length ≤ 100000) (g0 : Q.cells.length ≤ 100000) (g1 : Q.hand0.length ≤ 100000) (g2 : Q.hand1.length ≤ 100000) :
    Calls Try.prog 71 #[v, u] w fun e w' => e = .returned (.bool (sameB P Q)) ∧ Ext w w' := by
  obtain ⟨cA, cc, aA, ac, bA, bc, rfl, hcA, haA, hbA, -⟩ := hP
  obtain ⟨dA, dc, eA, ec, fA, fc, rfl, hdA, heA, hfA, -⟩ := hQ
  have E0 := hide (fun W (hW : Ext w W) => eq_ext (EqInts_any cA dA P.cells.length Q.cells.length cc dc P.cells Q.cells W rfl rfl (by omega) (by omega) (hcA.ext hW) (hdA.ext hW)))
  have E1 := hide (fun W (hW : Ext w W) => eq_ext (EqInts_any aA eA P.hand0.length Q.hand0.length ac ec P.hand0 Q.hand0 W rfl rfl (by omega) (by omega) (haA.ext hW) (heA.ext hW)))
  have E2 := hide (fun W (hW : Ext w W) => eq_ext (EqInts_any bA fA P.hand1.length Q.hand1.length bc fc P.hand1 Q.hand1 W rfl rfl (by omega) (by omega) (hbA.ext hW) (hfA.ext hW)))
  have HSB := hide (show sameB P Q = (decide (P.cells = Q.cells) && (decide (P.hand0 = Q.hand0) && (decide (P.hand1 = Q.hand1) && decide (P.turn = Q.turn)))) from rfl)
  clear hcA haA hbA hdA heA hfA
  obtain ⟨x1, k1, k2⟩ := blks2 w #[.slice cA P.cells.length cc, .slice aA P.hand0.length ac, .slice bA P.hand1.length bc, .int .i64 P.turn, .int .i64 P.quiet] 29 #[.slice dA Q.cells.length dc, .slice eA Q.hand0.length ec, .slice fA Q.hand1.length fc, .int .i64 Q.turn, .int .i64 Q.quiet] 29
  have K1 := hide k1
  have K2 := hide k2
  have X1 := hide x1
  clear x1 k1 k2
  have f1 := K1.out.cell
  have f2 := K2.out.cell
  cases b0 : decide (P.cells = Q.cells)
  · have HV : Hid (sameB P Q = false) := hide (by rw [HSB.out, b0]; rfl)
    rw [b0] at E0
    go_enter Try.func71, Try.ntmps71
    go_wp2_with fail
    refine (E0.out _ X1.out).mono ?_
    rintro e w2 ⟨rfl, x2⟩
    have X2 := hide (ext_trans X1.out x2)
    have K10 := hide (K1.out.ext x2)
    have K20 := hide (K2.out.ext x2)
    clear f1 f2 x2
    have f1 := K10.out.cell
    have f2 := K20.out.cell
    go_wp2
    go_ret
    exact ⟨by rw [HV.out]; first | rfl | simp, X2.out⟩
  · rw [b0] at E0
    cases b1 : decide (P.hand0 = Q.hand0)
    · have HV : Hid (sameB P Q = false) := hide (by rw [HSB.out, b0, b1]; rfl)
      rw [b1] at E1
      go_enter Try.func71, Try.ntmps71
      go_wp2_with fail
      refine (E0.out _ X1.out).mono ?_
      rintro e w2 ⟨rfl, x2⟩
      have X2 := hide (ext_trans X1.out x2)
      have K10 := hide (K1.out.ext x2)
      have K20 := hide (K2.out.ext x2)
      clear f1 f2 x2
      have f1 := K10.out.cell
      have f2 := K20.out.cell
      go_wp2_with fail
      refine (E1.out _ X2.out).mono ?_
      rintro e w3 ⟨rfl, x3⟩
      have X3 := hide (ext_trans X2.out x3)
      have K11 := hide (K10.out.ext x3)
      have K21 := hide (K20.out.ext x3)
      clear f1 f2 x3
      have f1 := K11.out.cell
      have f2 := K21.out.cell
      go_wp2
      go_ret
      exact ⟨by rw [HV.out]; first | rfl | simp, X3.out⟩
    · rw [b1] at E1
      cases b2 : decide (P.hand1 = Q.hand1)
      · have HV : Hid (sameB P Q = false) := hide (by rw [HSB.out, b0, b1, b2]; rfl)
        rw [b2] at E2
        go_enter Try.func71, Try.ntmps71
        go_wp2_with fail
        refine (E0.out _ X1.out).mono ?_
        rintro e w2 ⟨rfl, x2⟩
        have X2 := hide (ext_trans X1.out x2)
        have K10 := hide (K1.out.ext x2)
        have K20 := hide (K2.out.ext x2)
        clear f1 f2 x2
        have f1 := K10.out.cell
        have f2 := K20.out.cell
        go_wp2_with fail
        refine (E1.out _ X2.out).mono ?_
        rintro e w3 ⟨rfl, x3⟩
        have X3 := hide (ext_trans X2.out x3)
        have K11 := hide (K10.out.ext x3)
        have K21 := hide (K20.out.ext x3)
        clear f1 f2 x3
        have f1 := K11.out.cell
        have f2 := K21.out.cell
        go_wp2_with fail
        refine (E2.out _ X3.out).mono ?_
        rintro e w4 ⟨rfl, x4⟩
        have X4 := hide (ext_trans X3.out x4)
        have K12 := hide (K11.out.ext x4)
        have K22 := hide (K21.out.ext x4)
        clear f1 f2 x4
        have f1 := K12.out.cell
        have f2 := K22.out.cell
        go_wp2
        go_ret
        exact ⟨by rw [HV.out]; first | rfl | simp, X4.out⟩
      · rw [b2] at E2
        by_cases h3 : P.turn = Q.turn
        · have HV : Hid (sameB P Q = true) := hide (by rw [HSB.out, b0, b1, b2]; simp [h3])
          have t3 : (P.turn == Q.turn) = true := by simpa using h3
          clear h3
          go_enter Try.func71, Try.ntmps71
          go_wp2_with fail
          refine (E0.out _ X1.out).mono ?_
          rintro e w2 ⟨rfl, x2⟩
          have X2 := hide (ext_trans X1.out x2)
          have K10 := hide (K1.out.ext x2)
          have K20 := hide (K2.out.ext x2)
          clear f1 f2 x2
          have f1 := K10.out.cell
          have f2 := K20.out.cell
          go_wp2_with fail
          refine (E1.out _ X2.out).mono ?_
          rintro e w3 ⟨rfl, x3⟩
          have X3 := hide (ext_trans X2.out x3)
          have K11 := hide (K10.out.ext x3)
          have K21 := hide (K20.out.ext x3)
          clear f1 f2 x3
          have f1 := K11.out.cell
          have f2 := K21.out.cell
          go_wp2_with fail
          refine (E2.out _ X3.out).mono ?_
          rintro e w4 ⟨rfl, x4⟩
          have X4 := hide (ext_trans X3.out x4)
          have K12 := hide (K11.out.ext x4)
          have K22 := hide (K21.out.ext x4)
          clear f1 f2 x4
          have f1 := K12.out.cell
          have f2 := K22.out.cell
          go_wp2
          go_ret
          exact ⟨by rw [HV.out]; first | rfl | simp, X4.out⟩
        · have HV : Hid (sameB P Q = false) := hide (by rw [HSB.out, b0, b1, b2]; simp [h3])
          have t3 : (P.turn == Q.turn) = false := by simpa using h3
          clear h3
          go_enter Try.func71, Try.ntmps71
          go_wp2_with fail
          refine (E0.out _ X1.out).mono ?_
          rintro e w2 ⟨rfl, x2⟩
          have X2 := hide (ext_trans X1.out x2)
          have K10 := hide (K1.out.ext x2)
          have K20 := hide (K2.out.ext x2)
          clear f1 f2 x2
          have f1 := K10.out.cell
          have f2 := K20.out.cell
          go_wp2_with fail
          refine (E1.out _ X2.out).mono ?_
          rintro e w3 ⟨rfl, x3⟩
          have X3 := hide (ext_trans X2.out x3)
          have K11 := hide (K10.out.ext x3)
          have K21 := hide (K20.out.ext x3)
          clear f1 f2 x3
          have f1 := K11.out.cell
          have f2 := K21.out.cell
          go_wp2_with fail
          refine (E2.out _ X3.out).mono ?_
          rintro e w4 ⟨rfl, x4⟩
          have X4 := hide (ext_trans X3.out x4)
          have K12 := hide (K11.out.ext x4)
          have K22 := hide (K21.out.ext x4)
          clear f1 f2 x4
          have f1 := K12.out.cell
          have f2 := K22.out.cell
          go_wp2
          go_ret
          exact ⟨by rw [HV.out]; first | rfl | simp, X4.out⟩
end Go.Proofs.Ytmofipijjokjfaa
namespace Go.Proofs.Ytmofipijjokjfaa
open Go.ChangeShapes Go.WideShapes Go.ChangeAt Go.RowKit Go.Shelf
set_option linter.unusedVariables false
set_option linter.unusedSimpArgs false
/-- The types of blocks that a game changes. -/
def tsG : List TypeId := [29, 39, 109]
theorem int_tsG : 3 ∉ tsG := by decide
theorem rules_tsG : rulesT tsG := ⟨by decide, by decide, by decide, by decide⟩
/-- A game at block BG, all of it newer than world w0. -/
def GameAt (w0 W : World) (BG : Nat) (R : RulesM) (ps : List PosM) (ms : List MoveM) : Prop :=
  ∃ pA pc sA sc eA ec base l m, Blk W BG 109 #[.string R.name, .int .i64 R.width, .int .i64 R.height, .slice pA R.pieces.length pc, .slice sA R.start.length sc, .bool R.falls, .bool R.keeps, .slice eA R.ends.length ec, .int .i64 R.blocked, .int .i64 R.quiet, .int .i64 R.rept, l, m] ∧ RulesOwn W base (.agg #[.string R.name, .int .i64 R.width, .int .i64 R.height, .slice pA R.pieces.length pc, .slice sA R.start.length sc, .bool R.falls, .bool R.keeps, .slice eA R.ends.length ec, .int .i64 R.blocked, .int .i64 R.quiet, .int .i64 R.rept]) R ∧ OwnP w0 W l ps ∧ OwnM w0 W m ms ∧ w0.heap.size ≤ BG ∧ Ext w0 W
theorem RulesOwn.ext {w W : World} {base : Nat} {v : Value} {R : RulesM} (h : RulesOwn w base v R) (x : Ext w W) : RulesOwn W base v R := h.tfr rules_tsG (TFr.of_ext x)
theorem GameAt.ext {w0 w W : World} {BG : Nat} {R : RulesM} {ps : List PosM} {ms : List MoveM} (h : GameAt w0 w BG R ps ms) (x : Ext w W) : GameAt w0 W BG R ps ms := by
  obtain ⟨pA, pc, sA, sc, eA, ec, base, l, m, h1, h2, h3, h4, h5, h6⟩ := h
  exact ⟨pA, pc, sA, sc, eA, ec, base, l, m, h1.ext x, h2.ext x, h3.ext x, h4.ext x, h5, ext_trans h6 x⟩
theorem GameAt.old {w0 w : World} {BG : Nat} {R : RulesM} {ps : List PosM} {ms : List MoveM} (h : GameAt w0 w BG R ps ms) : Ext w0 w := by
  obtain ⟨pA, pc, sA, sc, eA, ec, base, l, m, h1, h2, h3, h4, h5, h6⟩ := h
  exact h6
/-- How often a position occurs. -/
def countG (ps : List PosM) (P : PosM) : Nat := (ps.filter fun Q => sameB Q P).length
theorem countG_take {ps : List PosM} {P Q : PosM} {k : Nat} (h : ps[k]? = some Q) : countG (ps.take (k + 1)) P = countG (ps.take k) P + if sameB Q P then 1 else 0 := by
  unfold countG
  rw [List.take_add_one, h, List.filter_append, List.length_append]
  congr 1
  cases hs : sameB Q P <;> simp [hs]
theorem countG_le (ps : List PosM) (P : PosM) : countG ps P ≤ ps.length := List.length_filter_le _ _
/-- The result of a game whose positions are ps, the last of them P. -/
def resultG (R : RulesM) (ps : List PosM) (P : PosM) : Int := if resultM R P = 0 ∧ R.rept ≠ 0 ∧ R.rept ≤ (countG ps P : Int) then 3 else resultM R P
def NowPost (W : World) (P : PosM) (e : Ending) (w' : World) : Prop := ∃ v, e = .returned v ∧ PosI w' v P ∧ Ext W w'
set_option maxHeartbeats 2000000 in
set_option maxRecDepth 100000 in
theorem now_any {w0 W : World} {BG : Nat} {R : RulesM} {ps : List PosM} {ms : List MoveM} (hG : GameAt w0 W BG R ps ms) (hl : ps.length ≤ 1000000) {P : PosM} (hP : ps.getLast? = some P) :
    Calls Try.prog 67 #[.pointer (some ⟨BG, 0, none⟩)] W (NowPost W P) := by
  obtain ⟨pA, pc, sA, sc, eA, ec, base, l, m, h1, -, h3, -, -, -⟩ := hG
  have hpos : 1 ≤ ps.length := by
    rcases ps with _ | ⟨x, l⟩
    · simp at hP
    · simp
  obtain ⟨k, hk⟩ : ∃ k, k + 1 = ps.length := ⟨ps.length - 1, by omega⟩
  have hk' : ps[k]? = some P := by
    rw [List.getLast?_eq_getElem?] at hP
    rw [← hP]; congr 1; omega
  obtain ⟨g, cap, c0, c1, c2, c3, c4, rfl, hp, q0, q1, q2, q3, q4⟩ := pos_get h3 hk'
  have HP0 := hide hp
  obtain ⟨g0, d0, g1, d1, g2, d2, e, -⟩ := hp
  simp only [Value.agg.injEq, Array.mk.injEq, List.cons.injEq, and_true] at e
  obtain ⟨rfl, rfl, rfl, rfl, rfl⟩ := e
  obtain ⟨xa, kO⟩ := blks1 W #[.slice none 0 0, .slice none 0 0, .slice none 0 0, .int .i64 0, .int .i64 0] 29
  have KO := hide kO
  have X1 := hide xa
  have f := (h1.ext xa).cell
  replace q0 := xa.cell q0
  replace q1 := xa.cell q1
  replace q2 := xa.cell q2
  replace q3 := xa.cell q3
  replace q4 := xa.cell q4
  have hw : IntKind.i64.wrap ((ps.length : Int) - 1) = (k : Int) := by rw [IntKind.wrap_i64]; omega
  have i0 : (0 : Int) ≤ (k : Int) := by omega
  have i1 : (k : Int) < (ps.length : Int) := by omega
  have hkl : k < ps.length := by omega
  have HLT := hide (Nat.le_refl W.heap.size)
  clear h1 h3 hk' hP hpos kO xa
  go_enter Try.func67, Try.ntmps67
  go_upto_region 1 with fail
  generalize W.alloc (.cells #[.slice none 0 0, .slice none 0 0, .slice none 0 0, .int .i64 0, .int .i64 0] 29) = w1 at *
  generalize hBO : W.heap.size = BO at *
  have HBO := hide hBO
  clear hBO
  have gz := KO.out.frozen
  have gc := KO.out.cell
  go_still_tail 12, (by kernel_rfl)
  go_wp2
  have K9 := Blk.drew (blk_put (i := 4) (u := .int .i64 P.quiet) (blk_put (i := 3) (u := .int .i64 P.turn) (blk_put (i := 2) (u := .slice (some ⟨g2, 0, none⟩) P.hand1.length d2) (blk_put (i := 1) (u := .slice (some ⟨g1, 0, none⟩) P.hand0.length d1) (blk_put (i := 0) (u := .slice (some ⟨g0, 0, none⟩) P.cells.length d0) KO.out rfl) rfl) rfl) rfl) (cs' := #[.slice (some ⟨g0, 0, none⟩) P.cells.length d0, .slice (some ⟨g1, 0, none⟩) P.hand0.length d1, .slice (some ⟨g2, 0, none⟩) P.hand1.length d2, .int .i64 P.turn, .int .i64 P.quiet]) rfl)
  have X9 := Below.drew ((ext_set (ext_set (ext_set (ext_set (ext_set X1.out (p := ⟨BO, 0, none⟩) (Nat.le_of_eq HBO.out) (.slice (some ⟨g0, 0, none⟩) P.cells.length d0)) (p := ⟨BO, 1, none⟩) (Nat.le_of_eq HBO.out) (.slice (some ⟨g1, 0, none⟩) P.hand0.length d1)) (p := ⟨BO, 2, none⟩) (Nat.le_of_eq HBO.out) (.slice (some ⟨g2, 0, none⟩) P.hand1.length d2)) (p := ⟨BO, 3, none⟩) (Nat.le_of_eq HBO.out) (.int .i64 P.turn)) (p := ⟨BO, 4, none⟩) (Nat.le_of_eq HBO.out) (.int .i64 P.quiet)))
  generalize (((((w1.setCell ⟨BO, 0, none⟩ (.slice (some ⟨g0, 0, none⟩) P.cells.length d0)).setCell ⟨BO, 1, none⟩ (.slice (some ⟨g1, 0, none⟩) P.hand0.length d1)).setCell ⟨BO, 2, none⟩ (.slice (some ⟨g2, 0, none⟩) P.hand1.length d2)).setCell ⟨BO, 3, none⟩ (.int .i64 P.turn)).setCell ⟨BO, 4, none⟩ (.int .i64 P.quiet)).drew = Wf at *
  clear gz gc
  have rr0 : Wf.cell? ⟨BO, 0, none⟩ = some (.slice (some ⟨g0, 0, none⟩) P.cells.length d0) := K9.cell 0
  have rr1 : Wf.cell? ⟨BO, 1, none⟩ = some (.slice (some ⟨g1, 0, none⟩) P.hand0.length d1) := K9.cell 1
  have rr2 : Wf.cell? ⟨BO, 2, none⟩ = some (.slice (some ⟨g2, 0, none⟩) P.hand1.length d2) := K9.cell 2
  have rr3 : Wf.cell? ⟨BO, 3, none⟩ = some (.int .i64 P.turn) := K9.cell 3
  have rr4 : Wf.cell? ⟨BO, 4, none⟩ = some (.int .i64 P.quiet) := K9.cell 4
  refine bodyPost_ret (v := .agg #[.slice (some ⟨g0, 0, none⟩) P.cells.length d0, .slice (some ⟨g1, 0, none⟩) P.hand0.length d1, .slice (some ⟨g2, 0, none⟩) P.hand1.length d2, .int .i64 P.turn, .int .i64 P.quiet]) ?_ rfl ?_
  · simp [results, Try.results67, go_sem, rr0, rr1, rr2, rr3, rr4]
  · exact ⟨_, rfl, HP0.out.ext X9, X9⟩
end Go.Proofs.Ytmofipijjokjfaa
namespace Go.Proofs.Ytmofipijjokjfaa
open Go.ChangeShapes Go.WideShapes Go.ChangeAt Go.RowKit Go.Shelf
set_option linter.unusedVariables false
set_option linter.unusedSimpArgs false
/-- What the positions of a game have. -/
def Fit (ps : List PosM) : Prop := ∀ Q ∈ ps, 1 ≤ Q.cells.length ∧ 1 ≤ Q.hand0.length ∧ 1 ≤ Q.hand1.length ∧ Q.cells.length ≤ 100000 ∧ Q.hand0.length ≤ 100000 ∧ Q.hand1.length ≤ 100000
theorem PosI.far5 {w : World} {B : Nat} {cs : Array Value} {v : Value} {P : PosM} {u0 u1 u2 u3 u4 : Value} (h : PosI w v P) (k : Blk w B 29 cs) :
    PosI (((((w.setCell ⟨B, 0, none⟩ u0).setCell ⟨B, 1, none⟩ u1).setCell ⟨B, 2, none⟩ u2).setCell ⟨B, 3, none⟩ u3).setCell ⟨B, 4, none⟩ u4) v P := by
  have k0 := k.set_ 0 u0
  have k1 := k0.set_ 1 u1
  have k2 := k1.set_ 2 u2
  have k3 := k2.set_ 3 u3
  have m := List.mem_singleton.2 (rfl : 29 = 29)
  exact h.tfr (ts := [29]) (by decide) (((((TFr.set k m 0 u0).trans (TFr.set k0 m 1 u1)).trans (TFr.set k1 m 2 u2)).trans (TFr.set k2 m 3 u3)).trans (TFr.set k3 m 4 u4))
theorem last_mem {ps : List PosM} {P : PosM} (h : ps.getLast? = some P) : P ∈ ps := List.mem_of_getLast? h
theorem fit_of {R : RulesM} {ps : List PosM} (hV : Valid R) (hS : ∀ Q ∈ ps, Sound R Q) : Fit ps := fun Q hQ => by
  have h := hS Q hQ
  have har := area_bd _ _ hV.side
  have ha := h.area
  have hp0 := hV.pieces0
  have hp6 := hV.pieces6
  have h0 := h.len0
  have h1 := h.len1
  omega
set_option maxHeartbeats 2000000 in
set_option maxRecDepth 100000 in
theorem GPosition_any {w0 W : World} {BG : Nat} {R : RulesM} {ps : List PosM} {ms : List MoveM} (hG : GameAt w0 W BG R ps ms) (hl : ps.length ≤ 1000000) (hF : Fit ps) {P : PosM} (hP : ps.getLast? = some P) :
    Calls Try.prog 40 #[.pointer (some ⟨BG, 0, none⟩)] W (NowPost W P) := by
  have HNW := hide (fun W' (x : Ext W W') => now_any (hG.ext x) hl hP)
  obtain ⟨f0, f1, f2, f3, f4, f5⟩ := hF P (last_mem hP)
  have HCP := hide (fun W' (v : Value) (h : PosI W' v P) => PCopy_any P v W' h.at_ f0 f1 f2 f3 f4 f5)
  clear hG hl hF hP f0 f1 f2 f3 f4 f5
  obtain ⟨xa, kO⟩ := blks1 W #[.slice none 0 0, .slice none 0 0, .slice none 0 0, .int .i64 0, .int .i64 0] 29
  have KO := hide kO
  have X1 := hide xa
  have HLT := hide (Nat.le_refl W.heap.size)
  clear kO xa
  go_enter Try.func40, Try.ntmps40
  go_wp2_with fail
  refine (HNW.out _ X1.out).mono ?_
  rintro e w2 ⟨v2, rfl, p2, x2⟩
  have P2 := hide p2
  have X2 := hide (ext_trans X1.out x2)
  have KO2 := hide (KO.out.ext x2)
  clear p2 x2 KO X1 HNW
  generalize hBO : W.heap.size = BO at *
  have HBO := hide hBO
  clear hBO
  go_wp2_with fail
  refine (HCP.out _ _ P2.out).mono ?_
  rintro e w3 ⟨v3, rfl, p3, x3⟩
  have HP0 := hide p3.toI
  have hp := p3.toI
  obtain ⟨g0, d0, g1, d1, g2, d2, rfl, -⟩ := hp
  have X3 := hide (ext_trans X2.out x3)
  have KO3 := hide (KO2.out.ext x3)
  clear p3 x3 KO2 X2 P2 HCP
  have gz := KO3.out.frozen
  have gc := KO3.out.cell
  go_wp2
  have K9 := blk_put (i := 4) (u := .int .i64 P.quiet) (blk_put (i := 3) (u := .int .i64 P.turn) (blk_put (i := 2) (u := .slice (some ⟨g2, 0, none⟩) P.hand1.length d2) (blk_put (i := 1) (u := .slice (some ⟨g1, 0, none⟩) P.hand0.length d1) (blk_put (i := 0) (u := .slice (some ⟨g0, 0, none⟩) P.cells.length d0) KO3.out rfl) rfl) rfl) rfl) (cs' := #[.slice (some ⟨g0, 0, none⟩) P.cells.length d0, .slice (some ⟨g1, 0, none⟩) P.hand0.length d1, .slice (some ⟨g2, 0, none⟩) P.hand1.length d2, .int .i64 P.turn, .int .i64 P.quiet]) rfl
  have X9 := (ext_set (ext_set (ext_set (ext_set (ext_set X3.out (p := ⟨BO, 0, none⟩) (Nat.le_of_eq HBO.out) (.slice (some ⟨g0, 0, none⟩) P.cells.length d0)) (p := ⟨BO, 1, none⟩) (Nat.le_of_eq HBO.out) (.slice (some ⟨g1, 0, none⟩) P.hand0.length d1)) (p := ⟨BO, 2, none⟩) (Nat.le_of_eq HBO.out) (.slice (some ⟨g2, 0, none⟩) P.hand1.length d2)) (p := ⟨BO, 3, none⟩) (Nat.le_of_eq HBO.out) (.int .i64 P.turn)) (p := ⟨BO, 4, none⟩) (Nat.le_of_eq HBO.out) (.int .i64 P.quiet))
  have P9 := PosI.far5 (u0 := .slice (some ⟨g0, 0, none⟩) P.cells.length d0) (u1 := .slice (some ⟨g1, 0, none⟩) P.hand0.length d1) (u2 := .slice (some ⟨g2, 0, none⟩) P.hand1.length d2) (u3 := .int .i64 P.turn) (u4 := .int .i64 P.quiet) HP0.out KO3.out
  generalize (((((w3.setCell ⟨BO, 0, none⟩ (.slice (some ⟨g0, 0, none⟩) P.cells.length d0)).setCell ⟨BO, 1, none⟩ (.slice (some ⟨g1, 0, none⟩) P.hand0.length d1)).setCell ⟨BO, 2, none⟩ (.slice (some ⟨g2, 0, none⟩) P.hand1.length d2)).setCell ⟨BO, 3, none⟩ (.int .i64 P.turn)).setCell ⟨BO, 4, none⟩ (.int .i64 P.quiet)) = Wf at *
  clear gz gc
  have rr0 : Wf.cell? ⟨BO, 0, none⟩ = some (.slice (some ⟨g0, 0, none⟩) P.cells.length d0) := K9.cell 0
  have rr1 : Wf.cell? ⟨BO, 1, none⟩ = some (.slice (some ⟨g1, 0, none⟩) P.hand0.length d1) := K9.cell 1
  have rr2 : Wf.cell? ⟨BO, 2, none⟩ = some (.slice (some ⟨g2, 0, none⟩) P.hand1.length d2) := K9.cell 2
  have rr3 : Wf.cell? ⟨BO, 3, none⟩ = some (.int .i64 P.turn) := K9.cell 3
  have rr4 : Wf.cell? ⟨BO, 4, none⟩ = some (.int .i64 P.quiet) := K9.cell 4
  refine bodyPost_ret (v := .agg #[.slice (some ⟨g0, 0, none⟩) P.cells.length d0, .slice (some ⟨g1, 0, none⟩) P.hand0.length d1, .slice (some ⟨g2, 0, none⟩) P.hand1.length d2, .int .i64 P.turn, .int .i64 P.quiet]) ?_ rfl ?_
  · simp [results, Try.results40, go_sem, rr0, rr1, rr2, rr3, rr4]
  · exact ⟨_, rfl, P9, X9⟩
set_option maxHeartbeats 2000000 in
set_option maxRecDepth 100000 in
theorem GCount_any {w0 W : World} {BG : Nat} {R : RulesM} {ps : List PosM} {ms : List MoveM} (hG : GameAt w0 W BG R ps ms) (hl : ps.length ≤ 1000000) (hF : Fit ps) {P : PosM} (hP : ps.getLast? = some P) :
    Calls Try.prog 47 #[.pointer (some ⟨BG, 0, none⟩)] W fun e w' => e = .returned (.int .i64 (countG ps P : Int)) ∧ Ext W w' := by
  have HNW := hide (fun W' (x : Ext W W') => now_any (hG.ext x) hl hP)
  have HFT := hide hF
  have HPF := hide (hF P (last_mem hP))
  have HLL := hide hl
  obtain ⟨pA, pc, sA, sc, eA, ec, base, l, m, h1, -, h3, -, -, -⟩ := hG
  have HOP := hide h3
  have hpos : 0 < ps.length := by
    rcases ps with _ | ⟨x, l⟩
    · simp at hP
    · simp
  have h0 : ps[0]? = some ps[0] := List.getElem?_eq_getElem hpos
  obtain ⟨g, cap, -, -, -, -, -, rfl, -⟩ := pos_get h3 h0
  have f := h1.cell
  have HKG := hide h1
  clear h1 h3 hP hF h0 hpos
  go_enter Try.func47, Try.ntmps47
  go_wp2
  go_loopw [3, 11] (fun n i wr => ∃ k : Nat, k ≤ ps.length ∧ i = .int .i64 k ∧ n = .int .i64 (countG (ps.take k) P : Int) ∧ Ext W wr) (fun _ i _ => ps.length - (intOf i).toNat)
  case atStart => exact ⟨0, Nat.zero_le _, rfl, rfl, Below.refl _ _⟩
  case round =>
    obtain ⟨k, hk, rfl, rfl, xr⟩ := hrel
    by_cases hlt : k < ps.length
    · obtain ⟨Q, hQ⟩ : ∃ Q, ps[k]? = some Q := ⟨ps[k], List.getElem?_eq_getElem _⟩
      obtain ⟨g', cap', c0, c1, c2, c3, c4, e', hp, q0, q1, q2, q3, q4⟩ := pos_get (HOP.out.ext xr) hQ
      simp only [Value.slice.injEq, Option.some.injEq, Addr.mk.injEq, and_true, true_and] at e'
      obtain ⟨rfl, rfl⟩ := e'
      have HPQ := hide hp
      obtain ⟨g0, d0, g1, d1, g2, d2, e, -⟩ := hp
      simp only [Value.agg.injEq, Array.mk.injEq, List.cons.injEq, and_true] at e
      obtain ⟨rfl, rfl, rfl, rfl, rfl⟩ := e
      have HQF := hide (HFT.out Q (List.mem_of_getElem? hQ))
      have HCT := hide (countG_take (P := P) hQ)
      have hcl := countG_le (ps.take k) P
      have HSM := hide (fun W' (v : Value) (x : Ext wr W') (h : PosI W' v P) => PSame_any Q P _ v W' (HPQ.out.ext x).at_ h.at_ HQF.out.2.2.2.1 HQF.out.2.2.2.2.1 HQF.out.2.2.2.2.2 HPF.out.2.2.2.1 HPF.out.2.2.2.2.1 HPF.out.2.2.2.2.2)
      have HXR := hide xr
      have HNW2 := hide (fun W' (x : Ext wr W') => HNW.out W' (ext_trans HXR.out x))
      rw [List.length_take] at hcl
      clear hQ xr f
      go_upto_region 5 with fail
      obtain ⟨x5, kV⟩ := blks1 wr #[.slice (some ⟨g0, 0, none⟩) Q.cells.length d0, .slice (some ⟨g1, 0, none⟩) Q.hand0.length d1, .slice (some ⟨g2, 0, none⟩) Q.hand1.length d2, .int .i64 Q.turn, .int .i64 Q.quiet] 29
      have KV := hide kV
      have X5 := hide x5
      clear x5 kV q0 q1 q2 q3 q4
      generalize wr.alloc (.cells #[.slice (some ⟨g0, 0, none⟩) Q.cells.length d0, .slice (some ⟨g1, 0, none⟩) Q.hand0.length d1, .slice (some ⟨g2, 0, none⟩) Q.hand1.length d2, .int .i64 Q.turn, .int .i64 Q.quiet] 29) = w5 at *
      generalize wr.heap.size = BV at *
      have keepK := hide (fun W (h : Ext w5 W) => (show (fun W => W.cell? ⟨BV, 0, none⟩ = some (.slice (some ⟨g0, 0, none⟩) Q.cells.length d0) ∧ W.cell? ⟨BV, 1, none⟩ = some (.slice (some ⟨g1, 0, none⟩) Q.hand0.length d1) ∧ W.cell? ⟨BV, 2, none⟩ = some (.slice (some ⟨g2, 0, none⟩) Q.hand1.length d2) ∧ W.cell? ⟨BV, 3, none⟩ = some (.int .i64 Q.turn) ∧ W.cell? ⟨BV, 4, none⟩ = some (.int .i64 Q.quiet) ∧ Ext w5 W) W from ⟨(KV.out.ext h).cell 0, (KV.out.ext h).cell 1, (KV.out.ext h).cell 2, (KV.out.ext h).cell 3, (KV.out.ext h).cell 4, h⟩))
      have yy : Ext w5 w5.drew := Below.drew (Below.refl _ _)
      refine region_K (fun W => W.cell? ⟨BV, 0, none⟩ = some (.slice (some ⟨g0, 0, none⟩) Q.cells.length d0) ∧ W.cell? ⟨BV, 1, none⟩ = some (.slice (some ⟨g1, 0, none⟩) Q.hand0.length d1) ∧ W.cell? ⟨BV, 2, none⟩ = some (.slice (some ⟨g2, 0, none⟩) Q.hand1.length d2) ∧ W.cell? ⟨BV, 3, none⟩ = some (.int .i64 Q.turn) ∧ W.cell? ⟨BV, 4, none⟩ = some (.int .i64 Q.quiet) ∧ Ext w5 W) (fun _ => True) [] (by kernel_rfl) ?_
      have hT0 := keepK.out _ yy
      refine anyK_take 0 (oi := ?oo1) ?ho1 (by kernel_rfl) (by kernel_rfl) (by kernel_rfl) (by kernel_rfl) ?hq1 ?hw1 hT0 (fun _ => trivial) (v := ?vv1) ?hy1 ?hk1
      case ho1 => (simp only [List.getElem?_toArray, List.getElem?_cons_succ, List.getElem?_cons_zero]; rfl)
      case hq1 => exact fun _ _ _ h => h
      case hw1 => rfl
      case hy1 =>
        intro W hW
        obtain ⟨z0, z1, z2, z3, z4, z5⟩ := hW
        go_simp
        first | done | with_reducible rfl
      case hk1 =>
      try simp only [Act.put, List.setIfInBounds_toArray, List.set_cons_zero, List.set_cons_succ]
      refine anyK_take 1 (oi := ?oo2) ?ho2 (by kernel_rfl) (by kernel_rfl) (by kernel_rfl) (by kernel_rfl) ?hq2 ?hw2 hT0 (fun _ => trivial) (v := ?vv2) ?hy2 ?hk2
      case ho2 => (simp only [List.getElem?_toArray, List.getElem?_cons_succ, List.getElem?_cons_zero]; rfl)
      case hq2 => exact fun _ _ _ h => h
      case hw2 => rfl
      case hy2 =>
        intro W hW
        go_simp
        first | done | with_reducible rfl
      case hk2 =>
      try simp only [Act.put, List.setIfInBounds_toArray, List.set_cons_zero, List.set_cons_succ]
      refine anyK_on1 2 (by kernel_rfl) ?_
      refine anyK_one 2 (o := ?oo3) ?ho3 ?hk3
      case ho3 => (simp only [List.getElem?_toArray, List.getElem?_cons_succ, List.getElem?_cons_zero]; rfl)
      case hk3 =>
      intro K hK
      go_simp
      refine (HNW2.out _ (ext_trans X5.out yy)).mono ?_
      rintro e wk ⟨v6, rfl, hp6, xx⟩
      try go_wp2_with fail
      replace yy := ext_trans yy xx
      have HP6 := hide hp6
      clear hp6
      have hT1 := keepK.out _ yy
      refine hK.out _ _ hT1 (fun _ => trivial) ?_
      clear hK K
      try simp only [Act.put, List.setIfInBounds_toArray, List.set_cons_zero, List.set_cons_succ]
      refine anyK_on1 3 (by kernel_rfl) ?_
      refine anyK_one 3 (o := ?oo4) ?ho4 ?hk4
      case ho4 => (simp only [List.getElem?_toArray, List.getElem?_cons_succ, List.getElem?_cons_zero]; rfl)
      case hk4 =>
      intro K hK
      go_simp
      refine (HSM.out _ _ (ext_trans X5.out yy) HP6.out).mono ?_
      rintro e wz ⟨rfl, xx⟩
      try go_wp2_with fail
      replace yy := ext_trans yy xx
      have hT2 := keepK.out _ yy
      refine hK.out _ _ hT2 (fun _ => trivial) ?_
      clear hK K
      try simp only [Act.put, List.setIfInBounds_toArray, List.set_cons_zero, List.set_cons_succ]
      refine anyK_done (by kernel_rfl) ?_ _
      clear keepK hT0 hT1 hT2
      have XF := hide (ext_trans HXR.out (ext_trans X5.out yy))
      clear yy KV X5 xx
      generalize countG (ps.take k) P = c at *
      cases hs : sameB Q P
      · have HC2 : Hid (countG (ps.take (k + 1)) P = c) := hide (by rw [HCT.out, hs]; rfl)
        clear hs HCT
        go_wp2
        go_roundw
        case rel => exact ⟨k + 1, by omega, by go_num, by rw [HC2.out], XF.out⟩
        case measure => simp [intOf]; omega
      · have HC2 : Hid (countG (ps.take (k + 1)) P = c + 1) := hide (by rw [HCT.out, hs]; rfl)
        have hwc : IntKind.i64.wrap ((c : Int) + 1) = (c : Int) + 1 := by rw [IntKind.wrap_i64]; omega
        clear hs HCT
        go_wp2
        go_roundw
        case rel => exact ⟨k + 1, by omega, by go_num, by rw [HC2.out]; push_cast; rfl, XF.out⟩
        case measure => simp [intOf]; omega
    · obtain rfl : k = ps.length := by omega
      have HXR := hide xr
      rw [List.take_length]
      clear xr f
      go_wp2
      go_ret
      exact ⟨rfl, HXR.out⟩
end Go.Proofs.Ytmofipijjokjfaa
namespace Go.Proofs.Ytmofipijjokjfaa
open Go.ChangeShapes Go.WideShapes Go.ChangeAt Go.RowKit Go.Shelf
set_option linter.unusedVariables false
set_option linter.unusedSimpArgs false
set_option maxHeartbeats 4000000 in
set_option maxRecDepth 100000 in
theorem GResult_any {w0 wa : World} {BG : Nat} {R : RulesM} {ps : List PosM} {ms : List MoveM} (hG : GameAt w0 wa BG R ps ms) (hl : ps.length ≤ 1000000) (hV : Valid R) (hS : ∀ Q ∈ ps, Sound R Q) {P : PosM} (hP : ps.getLast? = some P) :
    Calls Try.prog 41 #[.pointer (some ⟨BG, 0, none⟩)] wa fun e w' => e = .returned (.int .i64 (resultG R ps P)) ∧ Ext wa w' := by
  have HNW := hide (fun W' (x : Ext wa W') => now_any (hG.ext x) hl hP)
  have HCT := hide (fun W' (x : Ext wa W') => GCount_any (hG.ext x) hl (fit_of hV hS) hP)
  have HRG := hide (show resultG R ps P = if resultM R P = 0 ∧ R.rept ≠ 0 ∧ R.rept ≤ (countG ps P : Int) then 3 else resultM R P from rfl)
  have hSP := hS P (last_mem hP)
  obtain ⟨pA, pc, sA, sc, eA, ec, base, l, m, h1, h2, -, -, -, -⟩ := hG
  have HRS := hide (fun W' (v : Value) (x : Ext wa W') (h : PosI W' v P) => Result_any R P _ v W' (h2.ext x).at_ h.at_ hV hSP)
  have KG := hide h1
  clear hS hP hl h1 h2 hV hSP
  generalize resultG R ps P = G at *
  generalize countG ps P = c at *
  generalize resultM R P = z at *
  go_enter Try.func41, Try.ntmps41
  go_upto_region 1 with fail
  have keepK := hide (fun W (h : Ext wa W) => (show (fun W => W.cell? ⟨BG, 0, none⟩ = some (.string R.name) ∧ W.cell? ⟨BG, 1, none⟩ = some (.int .i64 R.width) ∧ W.cell? ⟨BG, 2, none⟩ = some (.int .i64 R.height) ∧ W.cell? ⟨BG, 3, none⟩ = some (.slice pA R.pieces.length pc) ∧ W.cell? ⟨BG, 4, none⟩ = some (.slice sA R.start.length sc) ∧ W.cell? ⟨BG, 5, none⟩ = some (.bool R.falls) ∧ W.cell? ⟨BG, 6, none⟩ = some (.bool R.keeps) ∧ W.cell? ⟨BG, 7, none⟩ = some (.slice eA R.ends.length ec) ∧ W.cell? ⟨BG, 8, none⟩ = some (.int .i64 R.blocked) ∧ W.cell? ⟨BG, 9, none⟩ = some (.int .i64 R.quiet) ∧ W.cell? ⟨BG, 10, none⟩ = some (.int .i64 R.rept) ∧ W.cell? ⟨BG, 11, none⟩ = some (l) ∧ W.cell? ⟨BG, 12, none⟩ = some (m) ∧ Ext wa W) W from ⟨(KG.out.ext h).cell 0, (KG.out.ext h).cell 1, (KG.out.ext h).cell 2, (KG.out.ext h).cell 3, (KG.out.ext h).cell 4, (KG.out.ext h).cell 5, (KG.out.ext h).cell 6, (KG.out.ext h).cell 7, (KG.out.ext h).cell 8, (KG.out.ext h).cell 9, (KG.out.ext h).cell 10, (KG.out.ext h).cell 11, (KG.out.ext h).cell 12, h⟩))
  have yy : Ext wa wa.drew := Below.drew (Below.refl _ _)
  refine region_K (fun W => W.cell? ⟨BG, 0, none⟩ = some (.string R.name) ∧ W.cell? ⟨BG, 1, none⟩ = some (.int .i64 R.width) ∧ W.cell? ⟨BG, 2, none⟩ = some (.int .i64 R.height) ∧ W.cell? ⟨BG, 3, none⟩ = some (.slice pA R.pieces.length pc) ∧ W.cell? ⟨BG, 4, none⟩ = some (.slice sA R.start.length sc) ∧ W.cell? ⟨BG, 5, none⟩ = some (.bool R.falls) ∧ W.cell? ⟨BG, 6, none⟩ = some (.bool R.keeps) ∧ W.cell? ⟨BG, 7, none⟩ = some (.slice eA R.ends.length ec) ∧ W.cell? ⟨BG, 8, none⟩ = some (.int .i64 R.blocked) ∧ W.cell? ⟨BG, 9, none⟩ = some (.int .i64 R.quiet) ∧ W.cell? ⟨BG, 10, none⟩ = some (.int .i64 R.rept) ∧ W.cell? ⟨BG, 11, none⟩ = some (l) ∧ W.cell? ⟨BG, 12, none⟩ = some (m) ∧ Ext wa W) (fun _ => True) [] (by kernel_rfl) ?_
  have hT0 := keepK.out _ yy
  refine anyK_take 0 (oi := ?oo1) ?ho1 (by kernel_rfl) (by kernel_rfl) (by kernel_rfl) (by kernel_rfl) ?hq1 ?hw1 hT0 (fun _ => trivial) (v := ?vv1) ?hy1 ?hk1
  case ho1 => (simp only [List.getElem?_toArray, List.getElem?_cons_succ, List.getElem?_cons_zero]; rfl)
  case hq1 => exact fun _ _ _ h => h
  case hw1 => rfl
  case hy1 =>
    intro W hW
    go_simp
    first | done | with_reducible rfl
  case hk1 =>
  try simp only [Act.put, List.setIfInBounds_toArray, List.set_cons_zero, List.set_cons_succ]
  refine anyK_take 1 (oi := ?oo2) ?ho2 (by kernel_rfl) (by kernel_rfl) (by kernel_rfl) (by kernel_rfl) ?hq2 ?hw2 hT0 (fun _ => trivial) (v := ?vv2) ?hy2 ?hk2
  case ho2 => (simp only [List.getElem?_toArray, List.getElem?_cons_succ, List.getElem?_cons_zero]; rfl)
  case hq2 => exact fun _ _ _ h => h
  case hw2 => rfl
  case hy2 =>
    intro W hW
    go_simp
    first | done | with_reducible rfl
  case hk2 =>
  try simp only [Act.put, List.setIfInBounds_toArray, List.set_cons_zero, List.set_cons_succ]
  refine anyK_take 2 (oi := ?oo3) ?ho3 (by kernel_rfl) (by kernel_rfl) (by kernel_rfl) (by kernel_rfl) ?hq3 ?hw3 hT0 (fun _ => trivial) (v := ?vv3) ?hy3 ?hk3
  case ho3 => (simp only [List.getElem?_toArray, List.getElem?_cons_succ, List.getElem?_cons_zero]; rfl)
  case hq3 => exact fun _ _ _ h => h
  case hw3 => rfl
  case hy3 =>
    intro W hW
    go_simp
    first | done | with_reducible rfl
  case hk3 =>
  try simp only [Act.put, List.setIfInBounds_toArray, List.set_cons_zero, List.set_cons_succ]
  refine anyK_take 3 (oi := ?oo4) ?ho4 (by kernel_rfl) (by kernel_rfl) (by kernel_rfl) (by kernel_rfl) ?hq4 ?hw4 hT0 (fun _ => trivial) (v := ?vv4) ?hy4 ?hk4
  case ho4 => (simp only [List.getElem?_toArray, List.getElem?_cons_succ, List.getElem?_cons_zero]; rfl)
  case hq4 => exact fun _ _ _ h => h
  case hw4 => rfl
  case hy4 =>
    intro W hW
    obtain ⟨z0, z1, z2, z3, z4, z5, z6, z7, z8, z9, z10, z11, z12, z13⟩ := hW
    go_simp
    first | done | with_reducible rfl
  case hk4 =>
  try simp only [Act.put, List.setIfInBounds_toArray, List.set_cons_zero, List.set_cons_succ]
  refine anyK_take 4 (oi := ?oo5) ?ho5 (by kernel_rfl) (by kernel_rfl) (by kernel_rfl) (by kernel_rfl) ?hq5 ?hw5 hT0 (fun _ => trivial) (v := ?vv5) ?hy5 ?hk5
  case ho5 => (simp only [List.getElem?_toArray, List.getElem?_cons_succ, List.getElem?_cons_zero]; rfl)
  case hq5 => exact fun _ _ _ h => h
  case hw5 => rfl
  case hy5 =>
    intro W hW
    go_simp
    first | done | with_reducible rfl
  case hk5 =>
  try simp only [Act.put, List.setIfInBounds_toArray, List.set_cons_zero, List.set_cons_succ]
  refine anyK_on1 5 (by kernel_rfl) ?_
  refine anyK_one 5 (o := ?oo6) ?ho6 ?hk6
  case ho6 => (simp only [List.getElem?_toArray, List.getElem?_cons_succ, List.getElem?_cons_zero]; rfl)
  case hk6 =>
  intro K hK
  go_simp
  refine (HNW.out _ yy).mono ?_
  rintro e wk ⟨v6, rfl, hp6, xx⟩
  try go_wp2_with fail
  replace yy := ext_trans yy xx
  have HP6 := hide hp6
  clear hp6
  have hT1 := keepK.out _ yy
  refine hK.out _ _ hT1 (fun _ => trivial) ?_
  clear hK K
  try simp only [Act.put, List.setIfInBounds_toArray, List.set_cons_zero, List.set_cons_succ]
  refine anyK_on1 6 (by kernel_rfl) ?_
  refine anyK_one 6 (o := ?oo7) ?ho7 ?hk7
  case ho7 => (simp only [List.getElem?_toArray, List.getElem?_cons_succ, List.getElem?_cons_zero]; rfl)
  case hk7 =>
  intro K hK
  go_simp
  refine (HRS.out _ _ yy HP6.out).mono ?_
  rintro e wz ⟨rfl, xx⟩
  try go_wp2_with fail
  replace yy := ext_trans yy xx
  have hT2 := keepK.out _ yy
  refine hK.out _ _ hT2 (fun _ => trivial) ?_
  clear hK K
  try simp only [Act.put, List.setIfInBounds_toArray, List.set_cons_zero, List.set_cons_succ]
  refine anyK_take 7 (oi := ?oo8) ?ho8 (by kernel_rfl) (by kernel_rfl) (by kernel_rfl) (by kernel_rfl) ?hq8 ?hw8 hT2 (fun _ => trivial) (v := ?vv8) ?hy8 ?hk8
  case ho8 => (simp only [List.getElem?_toArray, List.getElem?_cons_succ, List.getElem?_cons_zero]; rfl)
  case hq8 => exact fun _ _ _ h => h
  case hw8 => rfl
  case hy8 =>
    intro W hW
    go_simp
    first | done | with_reducible rfl
  case hk8 =>
  try simp only [Act.put, List.setIfInBounds_toArray, List.set_cons_zero, List.set_cons_succ]
  refine anyK_done (by kernel_rfl) ?_ _
  clear keepK hT0 hT1 hT2
  have X2 := hide yy
  have KG2 := hide (KG.out.ext yy)
  clear yy xx HNW HRS KG HP6
  go_upto_region 2 with fail
  by_cases hz : z = 0
  · subst hz
    by_cases hr : R.rept = 0
    · have HG2 : Hid (G = 0) := hide (by rw [HRG.out, if_neg (fun h => h.2.1 hr)])
      have t1 : (R.rept != 0) = false := by simpa using hr
      clear hr HRG
      have keepK := hide (fun W (h : Ext wz W) => (show (fun W => W.cell? ⟨BG, 0, none⟩ = some (.string R.name) ∧ W.cell? ⟨BG, 1, none⟩ = some (.int .i64 R.width) ∧ W.cell? ⟨BG, 2, none⟩ = some (.int .i64 R.height) ∧ W.cell? ⟨BG, 3, none⟩ = some (.slice pA R.pieces.length pc) ∧ W.cell? ⟨BG, 4, none⟩ = some (.slice sA R.start.length sc) ∧ W.cell? ⟨BG, 5, none⟩ = some (.bool R.falls) ∧ W.cell? ⟨BG, 6, none⟩ = some (.bool R.keeps) ∧ W.cell? ⟨BG, 7, none⟩ = some (.slice eA R.ends.length ec) ∧ W.cell? ⟨BG, 8, none⟩ = some (.int .i64 R.blocked) ∧ W.cell? ⟨BG, 9, none⟩ = some (.int .i64 R.quiet) ∧ W.cell? ⟨BG, 10, none⟩ = some (.int .i64 R.rept) ∧ W.cell? ⟨BG, 11, none⟩ = some (l) ∧ W.cell? ⟨BG, 12, none⟩ = some (m) ∧ Ext wz W) W from ⟨(KG2.out.ext h).cell 0, (KG2.out.ext h).cell 1, (KG2.out.ext h).cell 2, (KG2.out.ext h).cell 3, (KG2.out.ext h).cell 4, (KG2.out.ext h).cell 5, (KG2.out.ext h).cell 6, (KG2.out.ext h).cell 7, (KG2.out.ext h).cell 8, (KG2.out.ext h).cell 9, (KG2.out.ext h).cell 10, (KG2.out.ext h).cell 11, (KG2.out.ext h).cell 12, h⟩))
      have yy : Ext wz wz.drew := Below.drew (Below.refl _ _)
      refine region_K (fun W => W.cell? ⟨BG, 0, none⟩ = some (.string R.name) ∧ W.cell? ⟨BG, 1, none⟩ = some (.int .i64 R.width) ∧ W.cell? ⟨BG, 2, none⟩ = some (.int .i64 R.height) ∧ W.cell? ⟨BG, 3, none⟩ = some (.slice pA R.pieces.length pc) ∧ W.cell? ⟨BG, 4, none⟩ = some (.slice sA R.start.length sc) ∧ W.cell? ⟨BG, 5, none⟩ = some (.bool R.falls) ∧ W.cell? ⟨BG, 6, none⟩ = some (.bool R.keeps) ∧ W.cell? ⟨BG, 7, none⟩ = some (.slice eA R.ends.length ec) ∧ W.cell? ⟨BG, 8, none⟩ = some (.int .i64 R.blocked) ∧ W.cell? ⟨BG, 9, none⟩ = some (.int .i64 R.quiet) ∧ W.cell? ⟨BG, 10, none⟩ = some (.int .i64 R.rept) ∧ W.cell? ⟨BG, 11, none⟩ = some (l) ∧ W.cell? ⟨BG, 12, none⟩ = some (m) ∧ Ext wz W) (fun _ => True) [] (by kernel_rfl) ?_
      have hT0 := keepK.out _ yy
      refine anyK_take 0 (oi := ?oo9) ?ho9 (by kernel_rfl) (by kernel_rfl) (by kernel_rfl) (by kernel_rfl) ?hq9 ?hw9 hT0 (fun _ => trivial) (v := ?vv9) ?hy9 ?hk9
      case ho9 => (simp only [List.getElem?_toArray, List.getElem?_cons_succ, List.getElem?_cons_zero]; rfl)
      case hq9 => exact fun _ _ _ h => h
      case hw9 => rfl
      case hy9 =>
        intro W hW
        go_simp
        first | done | with_reducible rfl
      case hk9 =>
      try simp only [Act.put, List.setIfInBounds_toArray, List.set_cons_zero, List.set_cons_succ]
      refine anyK_take 1 (oi := ?oo10) ?ho10 (by kernel_rfl) (by kernel_rfl) (by kernel_rfl) (by kernel_rfl) ?hq10 ?hw10 hT0 (fun _ => trivial) (v := ?vv10) ?hy10 ?hk10
      case ho10 => (simp only [List.getElem?_toArray, List.getElem?_cons_succ, List.getElem?_cons_zero]; rfl)
      case hq10 => exact fun _ _ _ h => h
      case hw10 => rfl
      case hy10 =>
        intro W hW
        go_simp
        first | done | with_reducible rfl
      case hk10 =>
      try simp only [Act.put, List.setIfInBounds_toArray, List.set_cons_zero, List.set_cons_succ]
      refine anyK_take 2 (oi := ?oo11) ?ho11 (by kernel_rfl) (by kernel_rfl) (by kernel_rfl) (by kernel_rfl) ?hq11 ?hw11 hT0 (fun _ => trivial) (v := ?vv11) ?hy11 ?hk11
      case ho11 => (simp only [List.getElem?_toArray, List.getElem?_cons_succ, List.getElem?_cons_zero]; rfl)
      case hq11 => exact fun _ _ _ h => h
      case hw11 => rfl
      case hy11 =>
        intro W hW
        go_simp
        first | done | with_reducible rfl
      case hk11 =>
      try simp only [Act.put, List.setIfInBounds_toArray, List.set_cons_zero, List.set_cons_succ]
      refine anyK_take 3 (oi := ?oo12) ?ho12 (by kernel_rfl) (by kernel_rfl) (by kernel_rfl) (by kernel_rfl) ?hq12 ?hw12 hT0 (fun _ => trivial) (v := ?vv12) ?hy12 ?hk12
      case ho12 => (simp only [List.getElem?_toArray, List.getElem?_cons_succ, List.getElem?_cons_zero]; rfl)
      case hq12 => exact fun _ _ _ h => h
      case hw12 => rfl
      case hy12 =>
        intro W hW
        go_simp
        first | done | with_reducible rfl
      case hk12 =>
      try simp only [Act.put, List.setIfInBounds_toArray, List.set_cons_zero, List.set_cons_succ]
      refine anyK_take 4 (oi := ?oo13) ?ho13 (by kernel_rfl) (by kernel_rfl) (by kernel_rfl) (by kernel_rfl) ?hq13 ?hw13 hT0 (fun _ => trivial) (v := ?vv13) ?hy13 ?hk13
      case ho13 => (simp only [List.getElem?_toArray, List.getElem?_cons_succ, List.getElem?_cons_zero]; rfl)
      case hq13 => exact fun _ _ _ h => h
      case hw13 => rfl
      case hy13 =>
        intro W hW
        go_simp
        first | done | with_reducible rfl
      case hk13 =>
      try simp only [Act.put, List.setIfInBounds_toArray, List.set_cons_zero, List.set_cons_succ]
      refine anyK_take 5 (oi := ?oo14) ?ho14 (by kernel_rfl) (by kernel_rfl) (by kernel_rfl) (by kernel_rfl) ?hq14 ?hw14 hT0 (fun _ => trivial) (v := ?vv14) ?hy14 ?hk14
      case ho14 => (simp only [List.getElem?_toArray, List.getElem?_cons_succ, List.getElem?_cons_zero]; rfl)
      case hq14 => exact fun _ _ _ h => h
      case hw14 => rfl
      case hy14 =>
        intro W hW
        go_simp
        first | done | with_reducible rfl
      case hk14 =>
      try simp only [Act.put, List.setIfInBounds_toArray, List.set_cons_zero, List.set_cons_succ]
      refine anyK_take 6 (oi := ?oo15) ?ho15 (by kernel_rfl) (by kernel_rfl) (by kernel_rfl) (by kernel_rfl) ?hq15 ?hw15 hT0 (fun _ => trivial) (v := ?vv15) ?hy15 ?hk15
      case ho15 => (simp only [List.getElem?_toArray, List.getElem?_cons_succ, List.getElem?_cons_zero]; rfl)
      case hq15 => exact fun _ _ _ h => h
      case hw15 => rfl
      case hy15 =>
        intro W hW
        go_simp
        first | done | with_reducible rfl
      case hk15 =>
      try simp only [Act.put, List.setIfInBounds_toArray, List.set_cons_zero, List.set_cons_succ]
      refine anyK_take 7 (oi := ?oo16) ?ho16 (by kernel_rfl) (by kernel_rfl) (by kernel_rfl) (by kernel_rfl) ?hq16 ?hw16 hT0 (fun _ => trivial) (v := ?vv16) ?hy16 ?hk16
      case ho16 => (simp only [List.getElem?_toArray, List.getElem?_cons_succ, List.getElem?_cons_zero]; rfl)
      case hq16 => exact fun _ _ _ h => h
      case hw16 => rfl
      case hy16 =>
        intro W hW
        obtain ⟨z0, z1, z2, z3, z4, z5, z6, z7, z8, z9, z10, z11, z12, z13⟩ := hW
        go_simp
        first | done | with_reducible rfl
      case hk16 =>
      try simp only [Act.put, List.setIfInBounds_toArray, List.set_cons_zero, List.set_cons_succ]
      refine anyK_take 8 (oi := ?oo17) ?ho17 (by kernel_rfl) (by kernel_rfl) (by kernel_rfl) (by kernel_rfl) ?hq17 ?hw17 hT0 (fun _ => trivial) (v := ?vv17) ?hy17 ?hk17
      case ho17 => (simp only [List.getElem?_toArray, List.getElem?_cons_succ, List.getElem?_cons_zero]; rfl)
      case hq17 => exact fun _ _ _ h => h
      case hw17 => rfl
      case hy17 =>
        intro W hW
        go_simp
        first | done | with_reducible rfl
      case hk17 =>
      try simp only [Act.put, List.setIfInBounds_toArray, List.set_cons_zero, List.set_cons_succ]
      refine anyK_take 9 (oi := ?oo18) ?ho18 (by kernel_rfl) (by kernel_rfl) (by kernel_rfl) (by kernel_rfl) ?hq18 ?hw18 hT0 (fun _ => trivial) (v := ?vv18) ?hy18 ?hk18
      case ho18 => (simp only [List.getElem?_toArray, List.getElem?_cons_succ, List.getElem?_cons_zero]; rfl)
      case hq18 => exact fun _ _ _ h => h
      case hw18 => rfl
      case hy18 =>
        intro W hW
        go_simp
        first | done | with_reducible rfl
      case hk18 =>
      try simp only [Act.put, List.setIfInBounds_toArray, List.set_cons_zero, List.set_cons_succ]
      refine anyK_take 10 (oi := ?oo19) ?ho19 (by kernel_rfl) (by kernel_rfl) (by kernel_rfl) (by kernel_rfl) ?hq19 ?hw19 hT0 (fun _ => trivial) (v := ?vv19) ?hy19 ?hk19
      case ho19 => (simp only [List.getElem?_toArray, List.getElem?_cons_succ, List.getElem?_cons_zero]; rfl)
      case hq19 => exact fun _ _ _ h => h
      case hw19 => rfl
      case hy19 =>
        intro W hW
        go_simp
        first | done | with_reducible rfl
      case hk19 =>
      try simp only [Act.put, List.setIfInBounds_toArray, List.set_cons_zero, List.set_cons_succ]
      refine anyK_skip 11 (oi := ?oo20) ?ho20 (by kernel_rfl) (by kernel_rfl) (by kernel_rfl) (by kernel_rfl) ?hq20 ?hw20 hT0 (fun _ => trivial) ?hk20
      case ho20 => (simp only [List.getElem?_toArray, List.getElem?_cons_succ, List.getElem?_cons_zero]; rfl)
      case hq20 => exact fun _ _ _ h => h
      case hw20 => rfl
      case hk20 =>
      try simp only [Act.put, List.setIfInBounds_toArray, List.set_cons_zero, List.set_cons_succ]
      refine anyK_skip 12 (oi := ?oo21) ?ho21 (by kernel_rfl) (by kernel_rfl) (by kernel_rfl) (by kernel_rfl) ?hq21 ?hw21 hT0 (fun _ => trivial) ?hk21
      case ho21 => (simp only [List.getElem?_toArray, List.getElem?_cons_succ, List.getElem?_cons_zero]; rfl)
      case hq21 => exact fun _ _ _ h => h
      case hw21 => rfl
      case hk21 =>
      try simp only [Act.put, List.setIfInBounds_toArray, List.set_cons_zero, List.set_cons_succ]
      refine anyK_skip 13 (oi := ?oo22) ?ho22 (by kernel_rfl) (by kernel_rfl) (by kernel_rfl) (by kernel_rfl) ?hq22 ?hw22 hT0 (fun _ => trivial) ?hk22
      case ho22 => (simp only [List.getElem?_toArray, List.getElem?_cons_succ, List.getElem?_cons_zero]; rfl)
      case hq22 => exact fun _ _ _ h => h
      case hw22 => rfl
      case hk22 =>
      try simp only [Act.put, List.setIfInBounds_toArray, List.set_cons_zero, List.set_cons_succ]
      refine anyK_skip 14 (oi := ?oo23) ?ho23 (by kernel_rfl) (by kernel_rfl) (by kernel_rfl) (by kernel_rfl) ?hq23 ?hw23 hT0 (fun _ => trivial) ?hk23
      case ho23 => (simp only [List.getElem?_toArray, List.getElem?_cons_succ, List.getElem?_cons_zero]; rfl)
      case hq23 => exact fun _ _ _ h => h
      case hw23 => rfl
      case hk23 =>
      try simp only [Act.put, List.setIfInBounds_toArray, List.set_cons_zero, List.set_cons_succ]
      refine anyK_skip 15 (oi := ?oo24) ?ho24 (by kernel_rfl) (by kernel_rfl) (by kernel_rfl) (by kernel_rfl) ?hq24 ?hw24 hT0 (fun _ => trivial) ?hk24
      case ho24 => (simp only [List.getElem?_toArray, List.getElem?_cons_succ, List.getElem?_cons_zero]; rfl)
      case hq24 => exact fun _ _ _ h => h
      case hw24 => rfl
      case hk24 =>
      try simp only [Act.put, List.setIfInBounds_toArray, List.set_cons_zero, List.set_cons_succ]
      refine anyK_skip 16 (oi := ?oo25) ?ho25 (by kernel_rfl) (by kernel_rfl) (by kernel_rfl) (by kernel_rfl) ?hq25 ?hw25 hT0 (fun _ => trivial) ?hk25
      case ho25 => (simp only [List.getElem?_toArray, List.getElem?_cons_succ, List.getElem?_cons_zero]; rfl)
      case hq25 => exact fun _ _ _ h => h
      case hw25 => rfl
      case hk25 =>
      try simp only [Act.put, List.setIfInBounds_toArray, List.set_cons_zero, List.set_cons_succ]
      refine anyK_skip 17 (oi := ?oo26) ?ho26 (by kernel_rfl) (by kernel_rfl) (by kernel_rfl) (by kernel_rfl) ?hq26 ?hw26 hT0 (fun _ => trivial) ?hk26
      case ho26 => (simp only [List.getElem?_toArray, List.getElem?_cons_succ, List.getElem?_cons_zero]; rfl)
      case hq26 => exact fun _ _ _ h => h
      case hw26 => rfl
      case hk26 =>
      try simp only [Act.put, List.setIfInBounds_toArray, List.set_cons_zero, List.set_cons_succ]
      refine anyK_skip 18 (oi := ?oo27) ?ho27 (by kernel_rfl) (by kernel_rfl) (by kernel_rfl) (by kernel_rfl) ?hq27 ?hw27 hT0 (fun _ => trivial) ?hk27
      case ho27 => (simp only [List.getElem?_toArray, List.getElem?_cons_succ, List.getElem?_cons_zero]; rfl)
      case hq27 => exact fun _ _ _ h => h
      case hw27 => rfl
      case hk27 =>
      try simp only [Act.put, List.setIfInBounds_toArray, List.set_cons_zero, List.set_cons_succ]
      refine anyK_take 19 (oi := ?oo28) ?ho28 (by kernel_rfl) (by kernel_rfl) (by kernel_rfl) (by kernel_rfl) ?hq28 ?hw28 hT0 (fun _ => trivial) (v := ?vv28) ?hy28 ?hk28
      case ho28 => (simp only [List.getElem?_toArray, List.getElem?_cons_succ, List.getElem?_cons_zero]; rfl)
      case hq28 => exact fun _ _ _ h => h
      case hw28 => rfl
      case hy28 =>
        intro W hW
        go_simp
        first | done | with_reducible rfl
      case hk28 =>
      try simp only [Act.put, List.setIfInBounds_toArray, List.set_cons_zero, List.set_cons_succ]
      refine anyK_done (by kernel_rfl) ?_ _
      clear keepK hT0
      go_wp2
      go_ret
      exact ⟨by rw [HG2.out]; rfl, ext_trans X2.out yy⟩
    · have t1 : (R.rept != 0) = true := by simpa using hr
      by_cases hc : R.rept ≤ (c : Int)
      · have HG2 : Hid (G = 3) := hide (by rw [HRG.out, if_pos ⟨rfl, hr, hc⟩])
        have t2 : decide (R.rept ≤ (c : Int)) = true := by simpa using hc
        clear hr hc HRG
        have keepK := hide (fun W (h : Ext wz W) => (show (fun W => W.cell? ⟨BG, 0, none⟩ = some (.string R.name) ∧ W.cell? ⟨BG, 1, none⟩ = some (.int .i64 R.width) ∧ W.cell? ⟨BG, 2, none⟩ = some (.int .i64 R.height) ∧ W.cell? ⟨BG, 3, none⟩ = some (.slice pA R.pieces.length pc) ∧ W.cell? ⟨BG, 4, none⟩ = some (.slice sA R.start.length sc) ∧ W.cell? ⟨BG, 5, none⟩ = some (.bool R.falls) ∧ W.cell? ⟨BG, 6, none⟩ = some (.bool R.keeps) ∧ W.cell? ⟨BG, 7, none⟩ = some (.slice eA R.ends.length ec) ∧ W.cell? ⟨BG, 8, none⟩ = some (.int .i64 R.blocked) ∧ W.cell? ⟨BG, 9, none⟩ = some (.int .i64 R.quiet) ∧ W.cell? ⟨BG, 10, none⟩ = some (.int .i64 R.rept) ∧ W.cell? ⟨BG, 11, none⟩ = some (l) ∧ W.cell? ⟨BG, 12, none⟩ = some (m) ∧ Ext wz W) W from ⟨(KG2.out.ext h).cell 0, (KG2.out.ext h).cell 1, (KG2.out.ext h).cell 2, (KG2.out.ext h).cell 3, (KG2.out.ext h).cell 4, (KG2.out.ext h).cell 5, (KG2.out.ext h).cell 6, (KG2.out.ext h).cell 7, (KG2.out.ext h).cell 8, (KG2.out.ext h).cell 9, (KG2.out.ext h).cell 10, (KG2.out.ext h).cell 11, (KG2.out.ext h).cell 12, h⟩))
        have yy : Ext wz wz.drew := Below.drew (Below.refl _ _)
        refine region_K (fun W => W.cell? ⟨BG, 0, none⟩ = some (.string R.name) ∧ W.cell? ⟨BG, 1, none⟩ = some (.int .i64 R.width) ∧ W.cell? ⟨BG, 2, none⟩ = some (.int .i64 R.height) ∧ W.cell? ⟨BG, 3, none⟩ = some (.slice pA R.pieces.length pc) ∧ W.cell? ⟨BG, 4, none⟩ = some (.slice sA R.start.length sc) ∧ W.cell? ⟨BG, 5, none⟩ = some (.bool R.falls) ∧ W.cell? ⟨BG, 6, none⟩ = some (.bool R.keeps) ∧ W.cell? ⟨BG, 7, none⟩ = some (.slice eA R.ends.length ec) ∧ W.cell? ⟨BG, 8, none⟩ = some (.int .i64 R.blocked) ∧ W.cell? ⟨BG, 9, none⟩ = some (.int .i64 R.quiet) ∧ W.cell? ⟨BG, 10, none⟩ = some (.int .i64 R.rept) ∧ W.cell? ⟨BG, 11, none⟩ = some (l) ∧ W.cell? ⟨BG, 12, none⟩ = some (m) ∧ Ext wz W) (fun _ => True) [] (by kernel_rfl) ?_
        have hT0 := keepK.out _ yy
        refine anyK_take 0 (oi := ?oo29) ?ho29 (by kernel_rfl) (by kernel_rfl) (by kernel_rfl) (by kernel_rfl) ?hq29 ?hw29 hT0 (fun _ => trivial) (v := ?vv29) ?hy29 ?hk29
        case ho29 => (simp only [List.getElem?_toArray, List.getElem?_cons_succ, List.getElem?_cons_zero]; rfl)
        case hq29 => exact fun _ _ _ h => h
        case hw29 => rfl
        case hy29 =>
          intro W hW
          go_simp
          first | done | with_reducible rfl
        case hk29 =>
        try simp only [Act.put, List.setIfInBounds_toArray, List.set_cons_zero, List.set_cons_succ]
        refine anyK_take 1 (oi := ?oo30) ?ho30 (by kernel_rfl) (by kernel_rfl) (by kernel_rfl) (by kernel_rfl) ?hq30 ?hw30 hT0 (fun _ => trivial) (v := ?vv30) ?hy30 ?hk30
        case ho30 => (simp only [List.getElem?_toArray, List.getElem?_cons_succ, List.getElem?_cons_zero]; rfl)
        case hq30 => exact fun _ _ _ h => h
        case hw30 => rfl
        case hy30 =>
          intro W hW
          go_simp
          first | done | with_reducible rfl
        case hk30 =>
        try simp only [Act.put, List.setIfInBounds_toArray, List.set_cons_zero, List.set_cons_succ]
        refine anyK_take 2 (oi := ?oo31) ?ho31 (by kernel_rfl) (by kernel_rfl) (by kernel_rfl) (by kernel_rfl) ?hq31 ?hw31 hT0 (fun _ => trivial) (v := ?vv31) ?hy31 ?hk31
        case ho31 => (simp only [List.getElem?_toArray, List.getElem?_cons_succ, List.getElem?_cons_zero]; rfl)
        case hq31 => exact fun _ _ _ h => h
        case hw31 => rfl
        case hy31 =>
          intro W hW
          go_simp
          first | done | with_reducible rfl
        case hk31 =>
        try simp only [Act.put, List.setIfInBounds_toArray, List.set_cons_zero, List.set_cons_succ]
        refine anyK_take 3 (oi := ?oo32) ?ho32 (by kernel_rfl) (by kernel_rfl) (by kernel_rfl) (by kernel_rfl) ?hq32 ?hw32 hT0 (fun _ => trivial) (v := ?vv32) ?hy32 ?hk32
        case ho32 => (simp only [List.getElem?_toArray, List.getElem?_cons_succ, List.getElem?_cons_zero]; rfl)
        case hq32 => exact fun _ _ _ h => h
        case hw32 => rfl
        case hy32 =>
          intro W hW
          go_simp
          first | done | with_reducible rfl
        case hk32 =>
        try simp only [Act.put, List.setIfInBounds_toArray, List.set_cons_zero, List.set_cons_succ]
        refine anyK_take 4 (oi := ?oo33) ?ho33 (by kernel_rfl) (by kernel_rfl) (by kernel_rfl) (by kernel_rfl) ?hq33 ?hw33 hT0 (fun _ => trivial) (v := ?vv33) ?hy33 ?hk33
        case ho33 => (simp only [List.getElem?_toArray, List.getElem?_cons_succ, List.getElem?_cons_zero]; rfl)
        case hq33 => exact fun _ _ _ h => h
        case hw33 => rfl
        case hy33 =>
          intro W hW
          go_simp
          first | done | with_reducible rfl
        case hk33 =>
        try simp only [Act.put, List.setIfInBounds_toArray, List.set_cons_zero, List.set_cons_succ]
        refine anyK_take 5 (oi := ?oo34) ?ho34 (by kernel_rfl) (by kernel_rfl) (by kernel_rfl) (by kernel_rfl) ?hq34 ?hw34 hT0 (fun _ => trivial) (v := ?vv34) ?hy34 ?hk34
        case ho34 => (simp only [List.getElem?_toArray, List.getElem?_cons_succ, List.getElem?_cons_zero]; rfl)
        case hq34 => exact fun _ _ _ h => h
        case hw34 => rfl
        case hy34 =>
          intro W hW
          go_simp
          first | done | with_reducible rfl
        case hk34 =>
        try simp only [Act.put, List.setIfInBounds_toArray, List.set_cons_zero, List.set_cons_succ]
        refine anyK_take 6 (oi := ?oo35) ?ho35 (by kernel_rfl) (by kernel_rfl) (by kernel_rfl) (by kernel_rfl) ?hq35 ?hw35 hT0 (fun _ => trivial) (v := ?vv35) ?hy35 ?hk35
        case ho35 => (simp only [List.getElem?_toArray, List.getElem?_cons_succ, List.getElem?_cons_zero]; rfl)
        case hq35 => exact fun _ _ _ h => h
        case hw35 => rfl
        case hy35 =>
          intro W hW
          go_simp
          first | done | with_reducible rfl
        case hk35 =>
        try simp only [Act.put, List.setIfInBounds_toArray, List.set_cons_zero, List.set_cons_succ]
        refine anyK_take 7 (oi := ?oo36) ?ho36 (by kernel_rfl) (by kernel_rfl) (by kernel_rfl) (by kernel_rfl) ?hq36 ?hw36 hT0 (fun _ => trivial) (v := ?vv36) ?hy36 ?hk36
        case ho36 => (simp only [List.getElem?_toArray, List.getElem?_cons_succ, List.getElem?_cons_zero]; rfl)
        case hq36 => exact fun _ _ _ h => h
        case hw36 => rfl
        case hy36 =>
          intro W hW
          obtain ⟨z0, z1, z2, z3, z4, z5, z6, z7, z8, z9, z10, z11, z12, z13⟩ := hW
          go_simp
          first | done | with_reducible rfl
        case hk36 =>
        try simp only [Act.put, List.setIfInBounds_toArray, List.set_cons_zero, List.set_cons_succ]
        refine anyK_take 8 (oi := ?oo37) ?ho37 (by kernel_rfl) (by kernel_rfl) (by kernel_rfl) (by kernel_rfl) ?hq37 ?hw37 hT0 (fun _ => trivial) (v := ?vv37) ?hy37 ?hk37
        case ho37 => (simp only [List.getElem?_toArray, List.getElem?_cons_succ, List.getElem?_cons_zero]; rfl)
        case hq37 => exact fun _ _ _ h => h
        case hw37 => rfl
        case hy37 =>
          intro W hW
          go_simp
          first | done | with_reducible rfl
        case hk37 =>
        try simp only [Act.put, List.setIfInBounds_toArray, List.set_cons_zero, List.set_cons_succ]
        refine anyK_take 9 (oi := ?oo38) ?ho38 (by kernel_rfl) (by kernel_rfl) (by kernel_rfl) (by kernel_rfl) ?hq38 ?hw38 hT0 (fun _ => trivial) (v := ?vv38) ?hy38 ?hk38
        case ho38 => (simp only [List.getElem?_toArray, List.getElem?_cons_succ, List.getElem?_cons_zero]; rfl)
        case hq38 => exact fun _ _ _ h => h
        case hw38 => rfl
        case hy38 =>
          intro W hW
          go_simp
          first | done | with_reducible rfl
        case hk38 =>
        try simp only [Act.put, List.setIfInBounds_toArray, List.set_cons_zero, List.set_cons_succ]
        refine anyK_take 10 (oi := ?oo39) ?ho39 (by kernel_rfl) (by kernel_rfl) (by kernel_rfl) (by kernel_rfl) ?hq39 ?hw39 hT0 (fun _ => trivial) (v := ?vv39) ?hy39 ?hk39
        case ho39 => (simp only [List.getElem?_toArray, List.getElem?_cons_succ, List.getElem?_cons_zero]; rfl)
        case hq39 => exact fun _ _ _ h => h
        case hw39 => rfl
        case hy39 =>
          intro W hW
          go_simp
          first | done | with_reducible rfl
        case hk39 =>
        try simp only [Act.put, List.setIfInBounds_toArray, List.set_cons_zero, List.set_cons_succ]
        refine anyK_take 11 (oi := ?oo40) ?ho40 (by kernel_rfl) (by kernel_rfl) (by kernel_rfl) (by kernel_rfl) ?hq40 ?hw40 hT0 (fun _ => trivial) (v := ?vv40) ?hy40 ?hk40
        case ho40 => (simp only [List.getElem?_toArray, List.getElem?_cons_succ, List.getElem?_cons_zero]; rfl)
        case hq40 => exact fun _ _ _ h => h
        case hw40 => rfl
        case hy40 =>
          intro W hW
          go_simp
          first | done | with_reducible rfl
        case hk40 =>
        try simp only [Act.put, List.setIfInBounds_toArray, List.set_cons_zero, List.set_cons_succ]
        refine anyK_take 13 (oi := ?oo41) ?ho41 (by kernel_rfl) (by kernel_rfl) (by kernel_rfl) (by kernel_rfl) ?hq41 ?hw41 hT0 (fun _ => trivial) (v := ?vv41) ?hy41 ?hk41
        case ho41 => (simp only [List.getElem?_toArray, List.getElem?_cons_succ, List.getElem?_cons_zero]; rfl)
        case hq41 => exact fun _ _ _ h => h
        case hw41 => rfl
        case hy41 =>
          intro W hW
          go_simp
          first | done | with_reducible rfl
        case hk41 =>
        try simp only [Act.put, List.setIfInBounds_toArray, List.set_cons_zero, List.set_cons_succ]
        refine anyK_take 14 (oi := ?oo42) ?ho42 (by kernel_rfl) (by kernel_rfl) (by kernel_rfl) (by kernel_rfl) ?hq42 ?hw42 hT0 (fun _ => trivial) (v := ?vv42) ?hy42 ?hk42
        case ho42 => (simp only [List.getElem?_toArray, List.getElem?_cons_succ, List.getElem?_cons_zero]; rfl)
        case hq42 => exact fun _ _ _ h => h
        case hw42 => rfl
        case hy42 =>
          intro W hW
          go_simp
          first | done | with_reducible rfl
        case hk42 =>
        try simp only [Act.put, List.setIfInBounds_toArray, List.set_cons_zero, List.set_cons_succ]
        refine anyK_take 15 (oi := ?oo43) ?ho43 (by kernel_rfl) (by kernel_rfl) (by kernel_rfl) (by kernel_rfl) ?hq43 ?hw43 hT0 (fun _ => trivial) (v := ?vv43) ?hy43 ?hk43
        case ho43 => (simp only [List.getElem?_toArray, List.getElem?_cons_succ, List.getElem?_cons_zero]; rfl)
        case hq43 => exact fun _ _ _ h => h
        case hw43 => rfl
        case hy43 =>
          intro W hW
          go_simp
          first | done | with_reducible rfl
        case hk43 =>
        try simp only [Act.put, List.setIfInBounds_toArray, List.set_cons_zero, List.set_cons_succ]
        refine anyK_take 16 (oi := ?oo44) ?ho44 (by kernel_rfl) (by kernel_rfl) (by kernel_rfl) (by kernel_rfl) ?hq44 ?hw44 hT0 (fun _ => trivial) (v := ?vv44) ?hy44 ?hk44
        case ho44 => (simp only [List.getElem?_toArray, List.getElem?_cons_succ, List.getElem?_cons_zero]; rfl)
        case hq44 => exact fun _ _ _ h => h
        case hw44 => rfl
        case hy44 =>
          intro W hW
          go_simp
          first | done | with_reducible rfl
        case hk44 =>
        try simp only [Act.put, List.setIfInBounds_toArray, List.set_cons_zero, List.set_cons_succ]
        refine anyK_take 17 (oi := ?oo45) ?ho45 (by kernel_rfl) (by kernel_rfl) (by kernel_rfl) (by kernel_rfl) ?hq45 ?hw45 hT0 (fun _ => trivial) (v := ?vv45) ?hy45 ?hk45
        case ho45 => (simp only [List.getElem?_toArray, List.getElem?_cons_succ, List.getElem?_cons_zero]; rfl)
        case hq45 => exact fun _ _ _ h => h
        case hw45 => rfl
        case hy45 =>
          intro W hW
          obtain ⟨z0, z1, z2, z3, z4, z5, z6, z7, z8, z9, z10, z11, z12, z13⟩ := hW
          go_simp
          first | done | with_reducible rfl
        case hk45 =>
        try simp only [Act.put, List.setIfInBounds_toArray, List.set_cons_zero, List.set_cons_succ]
        refine anyK_on1 12 (by kernel_rfl) ?_
        refine anyK_one 12 (o := ?oo46) ?ho46 ?hk46
        case ho46 => (simp only [List.getElem?_toArray, List.getElem?_cons_succ, List.getElem?_cons_zero]; rfl)
        case hk46 =>
        intro K hK
        go_simp
        refine (HCT.out _ (ext_trans X2.out yy)).mono ?_
        rintro e wk ⟨rfl, xx⟩
        try go_wp2_with fail
        replace yy := ext_trans yy xx
        have hT1 := keepK.out _ yy
        refine hK.out _ _ hT1 (fun _ => trivial) ?_
        clear hK K
        try simp only [Act.put, List.setIfInBounds_toArray, List.set_cons_zero, List.set_cons_succ]
        refine anyK_take 18 (oi := ?oo47) ?ho47 (by kernel_rfl) (by kernel_rfl) (by kernel_rfl) (by kernel_rfl) ?hq47 ?hw47 hT1 (fun _ => trivial) (v := ?vv47) ?hy47 ?hk47
        case ho47 => (simp only [List.getElem?_toArray, List.getElem?_cons_succ, List.getElem?_cons_zero]; rfl)
        case hq47 => exact fun _ _ _ h => h
        case hw47 => rfl
        case hy47 =>
          intro W hW
          go_simp
          first | done | with_reducible rfl
        case hk47 =>
        try simp only [Act.put, List.setIfInBounds_toArray, List.set_cons_zero, List.set_cons_succ]
        refine anyK_take 19 (oi := ?oo48) ?ho48 (by kernel_rfl) (by kernel_rfl) (by kernel_rfl) (by kernel_rfl) ?hq48 ?hw48 hT1 (fun _ => trivial) (v := ?vv48) ?hy48 ?hk48
        case ho48 => (simp only [List.getElem?_toArray, List.getElem?_cons_succ, List.getElem?_cons_zero]; rfl)
        case hq48 => exact fun _ _ _ h => h
        case hw48 => rfl
        case hy48 =>
          intro W hW
          go_simp
          first | done | with_reducible rfl
        case hk48 =>
        try simp only [Act.put, List.setIfInBounds_toArray, List.set_cons_zero, List.set_cons_succ]
        refine anyK_done (by kernel_rfl) ?_ _
        clear keepK hT0 hT1
        go_wp2
        go_ret
        exact ⟨by rw [HG2.out]; rfl, ext_trans X2.out yy⟩
      · have HG2 : Hid (G = 0) := hide (by rw [HRG.out, if_neg (fun h => hc h.2.2)])
        have t2 : decide (R.rept ≤ (c : Int)) = false := by simpa using hc
        clear hr hc HRG
        have keepK := hide (fun W (h : Ext wz W) => (show (fun W => W.cell? ⟨BG, 0, none⟩ = some (.string R.name) ∧ W.cell? ⟨BG, 1, none⟩ = some (.int .i64 R.width) ∧ W.cell? ⟨BG, 2, none⟩ = some (.int .i64 R.height) ∧ W.cell? ⟨BG, 3, none⟩ = some (.slice pA R.pieces.length pc) ∧ W.cell? ⟨BG, 4, none⟩ = some (.slice sA R.start.length sc) ∧ W.cell? ⟨BG, 5, none⟩ = some (.bool R.falls) ∧ W.cell? ⟨BG, 6, none⟩ = some (.bool R.keeps) ∧ W.cell? ⟨BG, 7, none⟩ = some (.slice eA R.ends.length ec) ∧ W.cell? ⟨BG, 8, none⟩ = some (.int .i64 R.blocked) ∧ W.cell? ⟨BG, 9, none⟩ = some (.int .i64 R.quiet) ∧ W.cell? ⟨BG, 10, none⟩ = some (.int .i64 R.rept) ∧ W.cell? ⟨BG, 11, none⟩ = some (l) ∧ W.cell? ⟨BG, 12, none⟩ = some (m) ∧ Ext wz W) W from ⟨(KG2.out.ext h).cell 0, (KG2.out.ext h).cell 1, (KG2.out.ext h).cell 2, (KG2.out.ext h).cell 3, (KG2.out.ext h).cell 4, (KG2.out.ext h).cell 5, (KG2.out.ext h).cell 6, (KG2.out.ext h).cell 7, (KG2.out.ext h).cell 8, (KG2.out.ext h).cell 9, (KG2.out.ext h).cell 10, (KG2.out.ext h).cell 11, (KG2.out.ext h).cell 12, h⟩))
        have yy : Ext wz wz.drew := Below.drew (Below.refl _ _)
        refine region_K (fun W => W.cell? ⟨BG, 0, none⟩ = some (.string R.name) ∧ W.cell? ⟨BG, 1, none⟩ = some (.int .i64 R.width) ∧ W.cell? ⟨BG, 2, none⟩ = some (.int .i64 R.height) ∧ W.cell? ⟨BG, 3, none⟩ = some (.slice pA R.pieces.length pc) ∧ W.cell? ⟨BG, 4, none⟩ = some (.slice sA R.start.length sc) ∧ W.cell? ⟨BG, 5, none⟩ = some (.bool R.falls) ∧ W.cell? ⟨BG, 6, none⟩ = some (.bool R.keeps) ∧ W.cell? ⟨BG, 7, none⟩ = some (.slice eA R.ends.length ec) ∧ W.cell? ⟨BG, 8, none⟩ = some (.int .i64 R.blocked) ∧ W.cell? ⟨BG, 9, none⟩ = some (.int .i64 R.quiet) ∧ W.cell? ⟨BG, 10, none⟩ = some (.int .i64 R.rept) ∧ W.cell? ⟨BG, 11, none⟩ = some (l) ∧ W.cell? ⟨BG, 12, none⟩ = some (m) ∧ Ext wz W) (fun _ => True) [] (by kernel_rfl) ?_
        have hT0 := keepK.out _ yy
        refine anyK_take 0 (oi := ?oo49) ?ho49 (by kernel_rfl) (by kernel_rfl) (by kernel_rfl) (by kernel_rfl) ?hq49 ?hw49 hT0 (fun _ => trivial) (v := ?vv49) ?hy49 ?hk49
        case ho49 => (simp only [List.getElem?_toArray, List.getElem?_cons_succ, List.getElem?_cons_zero]; rfl)
        case hq49 => exact fun _ _ _ h => h
        case hw49 => rfl
        case hy49 =>
          intro W hW
          go_simp
          first | done | with_reducible rfl
        case hk49 =>
        try simp only [Act.put, List.setIfInBounds_toArray, List.set_cons_zero, List.set_cons_succ]
        refine anyK_take 1 (oi := ?oo50) ?ho50 (by kernel_rfl) (by kernel_rfl) (by kernel_rfl) (by kernel_rfl) ?hq50 ?hw50 hT0 (fun _ => trivial) (v := ?vv50) ?hy50 ?hk50
        case ho50 => (simp only [List.getElem?_toArray, List.getElem?_cons_succ, List.getElem?_cons_zero]; rfl)
        case hq50 => exact fun _ _ _ h => h
        case hw50 => rfl
        case hy50 =>
          intro W hW
          go_simp
          first | done | with_reducible rfl
        case hk50 =>
        try simp only [Act.put, List.setIfInBounds_toArray, List.set_cons_zero, List.set_cons_succ]
        refine anyK_take 2 (oi := ?oo51) ?ho51 (by kernel_rfl) (by kernel_rfl) (by kernel_rfl) (by kernel_rfl) ?hq51 ?hw51 hT0 (fun _ => trivial) (v := ?vv51) ?hy51 ?hk51
        case ho51 => (simp only [List.getElem?_toArray, List.getElem?_cons_succ, List.getElem?_cons_zero]; rfl)
        case hq51 => exact fun _ _ _ h => h
        case hw51 => rfl
        case hy51 =>
          intro W hW
          go_simp
          first | done | with_reducible rfl
        case hk51 =>
        try simp only [Act.put, List.setIfInBounds_toArray, List.set_cons_zero, List.set_cons_succ]
        refine anyK_take 3 (oi := ?oo52) ?ho52 (by kernel_rfl) (by kernel_rfl) (by kernel_rfl) (by kernel_rfl) ?hq52 ?hw52 hT0 (fun _ => trivial) (v := ?vv52) ?hy52 ?hk52
        case ho52 => (simp only [List.getElem?_toArray, List.getElem?_cons_succ, List.getElem?_cons_zero]; rfl)
        case hq52 => exact fun _ _ _ h => h
        case hw52 => rfl
        case hy52 =>
          intro W hW
          go_simp
          first | done | with_reducible rfl
        case hk52 =>
        try simp only [Act.put, List.setIfInBounds_toArray, List.set_cons_zero, List.set_cons_succ]
        refine anyK_take 4 (oi := ?oo53) ?ho53 (by kernel_rfl) (by kernel_rfl) (by kernel_rfl) (by kernel_rfl) ?hq53 ?hw53 hT0 (fun _ => trivial) (v := ?vv53) ?hy53 ?hk53
        case ho53 => (simp only [List.getElem?_toArray, List.getElem?_cons_succ, List.getElem?_cons_zero]; rfl)
        case hq53 => exact fun _ _ _ h => h
        case hw53 => rfl
        case hy53 =>
          intro W hW
          go_simp
          first | done | with_reducible rfl
        case hk53 =>
        try simp only [Act.put, List.setIfInBounds_toArray, List.set_cons_zero, List.set_cons_succ]
        refine anyK_take 5 (oi := ?oo54) ?ho54 (by kernel_rfl) (by kernel_rfl) (by kernel_rfl) (by kernel_rfl) ?hq54 ?hw54 hT0 (fun _ => trivial) (v := ?vv54) ?hy54 ?hk54
        case ho54 => (simp only [List.getElem?_toArray, List.getElem?_cons_succ, List.getElem?_cons_zero]; rfl)
        case hq54 => exact fun _ _ _ h => h
        case hw54 => rfl
        case hy54 =>
          intro W hW
          go_simp
          first | done | with_reducible rfl
        case hk54 =>
        try simp only [Act.put, List.setIfInBounds_toArray, List.set_cons_zero, List.set_cons_succ]
        refine anyK_take 6 (oi := ?oo55) ?ho55 (by kernel_rfl) (by kernel_rfl) (by kernel_rfl) (by kernel_rfl) ?hq55 ?hw55 hT0 (fun _ => trivial) (v := ?vv55) ?hy55 ?hk55
        case ho55 => (simp only [List.getElem?_toArray, List.getElem?_cons_succ, List.getElem?_cons_zero]; rfl)
        case hq55 => exact fun _ _ _ h => h
        case hw55 => rfl
        case hy55 =>
          intro W hW
          go_simp
          first | done | with_reducible rfl
        case hk55 =>
        try simp only [Act.put, List.setIfInBounds_toArray, List.set_cons_zero, List.set_cons_succ]
        refine anyK_take 7 (oi := ?oo56) ?ho56 (by kernel_rfl) (by kernel_rfl) (by kernel_rfl) (by kernel_rfl) ?hq56 ?hw56 hT0 (fun _ => trivial) (v := ?vv56) ?hy56 ?hk56
        case ho56 => (simp only [List.getElem?_toArray, List.getElem?_cons_succ, List.getElem?_cons_zero]; rfl)
        case hq56 => exact fun _ _ _ h => h
        case hw56 => rfl
        case hy56 =>
          intro W hW
          obtain ⟨z0, z1, z2, z3, z4, z5, z6, z7, z8, z9, z10, z11, z12, z13⟩ := hW
          go_simp
          first | done | with_reducible rfl
        case hk56 =>
        try simp only [Act.put, List.setIfInBounds_toArray, List.set_cons_zero, List.set_cons_succ]
        refine anyK_take 8 (oi := ?oo57) ?ho57 (by kernel_rfl) (by kernel_rfl) (by kernel_rfl) (by kernel_rfl) ?hq57 ?hw57 hT0 (fun _ => trivial) (v := ?vv57) ?hy57 ?hk57
        case ho57 => (simp only [List.getElem?_toArray, List.getElem?_cons_succ, List.getElem?_cons_zero]; rfl)
        case hq57 => exact fun _ _ _ h => h
        case hw57 => rfl
        case hy57 =>
          intro W hW
          go_simp
          first | done | with_reducible rfl
        case hk57 =>
        try simp only [Act.put, List.setIfInBounds_toArray, List.set_cons_zero, List.set_cons_succ]
        refine anyK_take 9 (oi := ?oo58) ?ho58 (by kernel_rfl) (by kernel_rfl) (by kernel_rfl) (by kernel_rfl) ?hq58 ?hw58 hT0 (fun _ => trivial) (v := ?vv58) ?hy58 ?hk58
        case ho58 => (simp only [List.getElem?_toArray, List.getElem?_cons_succ, List.getElem?_cons_zero]; rfl)
        case hq58 => exact fun _ _ _ h => h
        case hw58 => rfl
        case hy58 =>
          intro W hW
          go_simp
          first | done | with_reducible rfl
        case hk58 =>
        try simp only [Act.put, List.setIfInBounds_toArray, List.set_cons_zero, List.set_cons_succ]
        refine anyK_take 10 (oi := ?oo59) ?ho59 (by kernel_rfl) (by kernel_rfl) (by kernel_rfl) (by kernel_rfl) ?hq59 ?hw59 hT0 (fun _ => trivial) (v := ?vv59) ?hy59 ?hk59
        case ho59 => (simp only [List.getElem?_toArray, List.getElem?_cons_succ, List.getElem?_cons_zero]; rfl)
        case hq59 => exact fun _ _ _ h => h
        case hw59 => rfl
        case hy59 =>
          intro W hW
          go_simp
          first | done | with_reducible rfl
        case hk59 =>
        try simp only [Act.put, List.setIfInBounds_toArray, List.set_cons_zero, List.set_cons_succ]
        refine anyK_take 11 (oi := ?oo60) ?ho60 (by kernel_rfl) (by kernel_rfl) (by kernel_rfl) (by kernel_rfl) ?hq60 ?hw60 hT0 (fun _ => trivial) (v := ?vv60) ?hy60 ?hk60
        case ho60 => (simp only [List.getElem?_toArray, List.getElem?_cons_succ, List.getElem?_cons_zero]; rfl)
        case hq60 => exact fun _ _ _ h => h
        case hw60 => rfl
        case hy60 =>
          intro W hW
          go_simp
          first | done | with_reducible rfl
        case hk60 =>
        try simp only [Act.put, List.setIfInBounds_toArray, List.set_cons_zero, List.set_cons_succ]
        refine anyK_take 13 (oi := ?oo61) ?ho61 (by kernel_rfl) (by kernel_rfl) (by kernel_rfl) (by kernel_rfl) ?hq61 ?hw61 hT0 (fun _ => trivial) (v := ?vv61) ?hy61 ?hk61
        case ho61 => (simp only [List.getElem?_toArray, List.getElem?_cons_succ, List.getElem?_cons_zero]; rfl)
        case hq61 => exact fun _ _ _ h => h
        case hw61 => rfl
        case hy61 =>
          intro W hW
          go_simp
          first | done | with_reducible rfl
        case hk61 =>
        try simp only [Act.put, List.setIfInBounds_toArray, List.set_cons_zero, List.set_cons_succ]
        refine anyK_take 14 (oi := ?oo62) ?ho62 (by kernel_rfl) (by kernel_rfl) (by kernel_rfl) (by kernel_rfl) ?hq62 ?hw62 hT0 (fun _ => trivial) (v := ?vv62) ?hy62 ?hk62
        case ho62 => (simp only [List.getElem?_toArray, List.getElem?_cons_succ, List.getElem?_cons_zero]; rfl)
        case hq62 => exact fun _ _ _ h => h
        case hw62 => rfl
        case hy62 =>
          intro W hW
          go_simp
          first | done | with_reducible rfl
        case hk62 =>
        try simp only [Act.put, List.setIfInBounds_toArray, List.set_cons_zero, List.set_cons_succ]
        refine anyK_take 15 (oi := ?oo63) ?ho63 (by kernel_rfl) (by kernel_rfl) (by kernel_rfl) (by kernel_rfl) ?hq63 ?hw63 hT0 (fun _ => trivial) (v := ?vv63) ?hy63 ?hk63
        case ho63 => (simp only [List.getElem?_toArray, List.getElem?_cons_succ, List.getElem?_cons_zero]; rfl)
        case hq63 => exact fun _ _ _ h => h
        case hw63 => rfl
        case hy63 =>
          intro W hW
          go_simp
          first | done | with_reducible rfl
        case hk63 =>
        try simp only [Act.put, List.setIfInBounds_toArray, List.set_cons_zero, List.set_cons_succ]
        refine anyK_take 16 (oi := ?oo64) ?ho64 (by kernel_rfl) (by kernel_rfl) (by kernel_rfl) (by kernel_rfl) ?hq64 ?hw64 hT0 (fun _ => trivial) (v := ?vv64) ?hy64 ?hk64
        case ho64 => (simp only [List.getElem?_toArray, List.getElem?_cons_succ, List.getElem?_cons_zero]; rfl)
        case hq64 => exact fun _ _ _ h => h
        case hw64 => rfl
        case hy64 =>
          intro W hW
          go_simp
          first | done | with_reducible rfl
        case hk64 =>
        try simp only [Act.put, List.setIfInBounds_toArray, List.set_cons_zero, List.set_cons_succ]
        refine anyK_take 17 (oi := ?oo65) ?ho65 (by kernel_rfl) (by kernel_rfl) (by kernel_rfl) (by kernel_rfl) ?hq65 ?hw65 hT0 (fun _ => trivial) (v := ?vv65) ?hy65 ?hk65
        case ho65 => (simp only [List.getElem?_toArray, List.getElem?_cons_succ, List.getElem?_cons_zero]; rfl)
        case hq65 => exact fun _ _ _ h => h
        case hw65 => rfl
        case hy65 =>
          intro W hW
          obtain ⟨z0, z1, z2, z3, z4, z5, z6, z7, z8, z9, z10, z11, z12, z13⟩ := hW
          go_simp
          first | done | with_reducible rfl
        case hk65 =>
        try simp only [Act.put, List.setIfInBounds_toArray, List.set_cons_zero, List.set_cons_succ]
        refine anyK_on1 12 (by kernel_rfl) ?_
        refine anyK_one 12 (o := ?oo66) ?ho66 ?hk66
        case ho66 => (simp only [List.getElem?_toArray, List.getElem?_cons_succ, List.getElem?_cons_zero]; rfl)
        case hk66 =>
        intro K hK
        go_simp
        refine (HCT.out _ (ext_trans X2.out yy)).mono ?_
        rintro e wk ⟨rfl, xx⟩
        try go_wp2_with fail
        replace yy := ext_trans yy xx
        have hT1 := keepK.out _ yy
        refine hK.out _ _ hT1 (fun _ => trivial) ?_
        clear hK K
        try simp only [Act.put, List.setIfInBounds_toArray, List.set_cons_zero, List.set_cons_succ]
        refine anyK_take 18 (oi := ?oo67) ?ho67 (by kernel_rfl) (by kernel_rfl) (by kernel_rfl) (by kernel_rfl) ?hq67 ?hw67 hT1 (fun _ => trivial) (v := ?vv67) ?hy67 ?hk67
        case ho67 => (simp only [List.getElem?_toArray, List.getElem?_cons_succ, List.getElem?_cons_zero]; rfl)
        case hq67 => exact fun _ _ _ h => h
        case hw67 => rfl
        case hy67 =>
          intro W hW
          go_simp
          first | done | with_reducible rfl
        case hk67 =>
        try simp only [Act.put, List.setIfInBounds_toArray, List.set_cons_zero, List.set_cons_succ]
        refine anyK_take 19 (oi := ?oo68) ?ho68 (by kernel_rfl) (by kernel_rfl) (by kernel_rfl) (by kernel_rfl) ?hq68 ?hw68 hT1 (fun _ => trivial) (v := ?vv68) ?hy68 ?hk68
        case ho68 => (simp only [List.getElem?_toArray, List.getElem?_cons_succ, List.getElem?_cons_zero]; rfl)
        case hq68 => exact fun _ _ _ h => h
        case hw68 => rfl
        case hy68 =>
          intro W hW
          go_simp
          first | done | with_reducible rfl
        case hk68 =>
        try simp only [Act.put, List.setIfInBounds_toArray, List.set_cons_zero, List.set_cons_succ]
        refine anyK_done (by kernel_rfl) ?_ _
        clear keepK hT0 hT1
        go_wp2
        go_ret
        exact ⟨by rw [HG2.out]; rfl, ext_trans X2.out yy⟩
  · have HG2 : Hid (G = z) := hide (by rw [HRG.out, if_neg (fun h => hz h.1)])
    have t0 : (z == 0) = false := by simpa using hz
    clear hz HRG
    have keepK := hide (fun W (h : Ext wz W) => (show (fun W => W.cell? ⟨BG, 0, none⟩ = some (.string R.name) ∧ W.cell? ⟨BG, 1, none⟩ = some (.int .i64 R.width) ∧ W.cell? ⟨BG, 2, none⟩ = some (.int .i64 R.height) ∧ W.cell? ⟨BG, 3, none⟩ = some (.slice pA R.pieces.length pc) ∧ W.cell? ⟨BG, 4, none⟩ = some (.slice sA R.start.length sc) ∧ W.cell? ⟨BG, 5, none⟩ = some (.bool R.falls) ∧ W.cell? ⟨BG, 6, none⟩ = some (.bool R.keeps) ∧ W.cell? ⟨BG, 7, none⟩ = some (.slice eA R.ends.length ec) ∧ W.cell? ⟨BG, 8, none⟩ = some (.int .i64 R.blocked) ∧ W.cell? ⟨BG, 9, none⟩ = some (.int .i64 R.quiet) ∧ W.cell? ⟨BG, 10, none⟩ = some (.int .i64 R.rept) ∧ W.cell? ⟨BG, 11, none⟩ = some (l) ∧ W.cell? ⟨BG, 12, none⟩ = some (m) ∧ Ext wz W) W from ⟨(KG2.out.ext h).cell 0, (KG2.out.ext h).cell 1, (KG2.out.ext h).cell 2, (KG2.out.ext h).cell 3, (KG2.out.ext h).cell 4, (KG2.out.ext h).cell 5, (KG2.out.ext h).cell 6, (KG2.out.ext h).cell 7, (KG2.out.ext h).cell 8, (KG2.out.ext h).cell 9, (KG2.out.ext h).cell 10, (KG2.out.ext h).cell 11, (KG2.out.ext h).cell 12, h⟩))
    have yy : Ext wz wz.drew := Below.drew (Below.refl _ _)
    refine region_K (fun W => W.cell? ⟨BG, 0, none⟩ = some (.string R.name) ∧ W.cell? ⟨BG, 1, none⟩ = some (.int .i64 R.width) ∧ W.cell? ⟨BG, 2, none⟩ = some (.int .i64 R.height) ∧ W.cell? ⟨BG, 3, none⟩ = some (.slice pA R.pieces.length pc) ∧ W.cell? ⟨BG, 4, none⟩ = some (.slice sA R.start.length sc) ∧ W.cell? ⟨BG, 5, none⟩ = some (.bool R.falls) ∧ W.cell? ⟨BG, 6, none⟩ = some (.bool R.keeps) ∧ W.cell? ⟨BG, 7, none⟩ = some (.slice eA R.ends.length ec) ∧ W.cell? ⟨BG, 8, none⟩ = some (.int .i64 R.blocked) ∧ W.cell? ⟨BG, 9, none⟩ = some (.int .i64 R.quiet) ∧ W.cell? ⟨BG, 10, none⟩ = some (.int .i64 R.rept) ∧ W.cell? ⟨BG, 11, none⟩ = some (l) ∧ W.cell? ⟨BG, 12, none⟩ = some (m) ∧ Ext wz W) (fun _ => True) [] (by kernel_rfl) ?_
    have hT0 := keepK.out _ yy
    refine anyK_take 0 (oi := ?oo69) ?ho69 (by kernel_rfl) (by kernel_rfl) (by kernel_rfl) (by kernel_rfl) ?hq69 ?hw69 hT0 (fun _ => trivial) (v := ?vv69) ?hy69 ?hk69
    case ho69 => (simp only [List.getElem?_toArray, List.getElem?_cons_succ, List.getElem?_cons_zero]; rfl)
    case hq69 => exact fun _ _ _ h => h
    case hw69 => rfl
    case hy69 =>
      intro W hW
      go_simp
      first | done | with_reducible rfl
    case hk69 =>
    try simp only [Act.put, List.setIfInBounds_toArray, List.set_cons_zero, List.set_cons_succ]
    refine anyK_take 1 (oi := ?oo70) ?ho70 (by kernel_rfl) (by kernel_rfl) (by kernel_rfl) (by kernel_rfl) ?hq70 ?hw70 hT0 (fun _ => trivial) (v := ?vv70) ?hy70 ?hk70
    case ho70 => (simp only [List.getElem?_toArray, List.getElem?_cons_succ, List.getElem?_cons_zero]; rfl)
    case hq70 => exact fun _ _ _ h => h
    case hw70 => rfl
    case hy70 =>
      intro W hW
      go_simp
      first | done | with_reducible rfl
    case hk70 =>
    try simp only [Act.put, List.setIfInBounds_toArray, List.set_cons_zero, List.set_cons_succ]
    refine anyK_take 2 (oi := ?oo71) ?ho71 (by kernel_rfl) (by kernel_rfl) (by kernel_rfl) (by kernel_rfl) ?hq71 ?hw71 hT0 (fun _ => trivial) (v := ?vv71) ?hy71 ?hk71
    case ho71 => (simp only [List.getElem?_toArray, List.getElem?_cons_succ, List.getElem?_cons_zero]; rfl)
    case hq71 => exact fun _ _ _ h => h
    case hw71 => rfl
    case hy71 =>
      intro W hW
      go_simp
      first | done | with_reducible rfl
    case hk71 =>
    try simp only [Act.put, List.setIfInBounds_toArray, List.set_cons_zero, List.set_cons_succ]
    refine anyK_skip 3 (oi := ?oo72) ?ho72 (by kernel_rfl) (by kernel_rfl) (by kernel_rfl) (by kernel_rfl) ?hq72 ?hw72 hT0 (fun _ => trivial) ?hk72
    case ho72 => (simp only [List.getElem?_toArray, List.getElem?_cons_succ, List.getElem?_cons_zero]; rfl)
    case hq72 => exact fun _ _ _ h => h
    case hw72 => rfl
    case hk72 =>
    try simp only [Act.put, List.setIfInBounds_toArray, List.set_cons_zero, List.set_cons_succ]
    refine anyK_skip 4 (oi := ?oo73) ?ho73 (by kernel_rfl) (by kernel_rfl) (by kernel_rfl) (by kernel_rfl) ?hq73 ?hw73 hT0 (fun _ => trivial) ?hk73
    case ho73 => (simp only [List.getElem?_toArray, List.getElem?_cons_succ, List.getElem?_cons_zero]; rfl)
    case hq73 => exact fun _ _ _ h => h
    case hw73 => rfl
    case hk73 =>
    try simp only [Act.put, List.setIfInBounds_toArray, List.set_cons_zero, List.set_cons_succ]
    refine anyK_skip 5 (oi := ?oo74) ?ho74 (by kernel_rfl) (by kernel_rfl) (by kernel_rfl) (by kernel_rfl) ?hq74 ?hw74 hT0 (fun _ => trivial) ?hk74
    case ho74 => (simp only [List.getElem?_toArray, List.getElem?_cons_succ, List.getElem?_cons_zero]; rfl)
    case hq74 => exact fun _ _ _ h => h
    case hw74 => rfl
    case hk74 =>
    try simp only [Act.put, List.setIfInBounds_toArray, List.set_cons_zero, List.set_cons_succ]
    refine anyK_skip 6 (oi := ?oo75) ?ho75 (by kernel_rfl) (by kernel_rfl) (by kernel_rfl) (by kernel_rfl) ?hq75 ?hw75 hT0 (fun _ => trivial) ?hk75
    case ho75 => (simp only [List.getElem?_toArray, List.getElem?_cons_succ, List.getElem?_cons_zero]; rfl)
    case hq75 => exact fun _ _ _ h => h
    case hw75 => rfl
    case hk75 =>
    try simp only [Act.put, List.setIfInBounds_toArray, List.set_cons_zero, List.set_cons_succ]
    refine anyK_skip 7 (oi := ?oo76) ?ho76 (by kernel_rfl) (by kernel_rfl) (by kernel_rfl) (by kernel_rfl) ?hq76 ?hw76 hT0 (fun _ => trivial) ?hk76
    case ho76 => (simp only [List.getElem?_toArray, List.getElem?_cons_succ, List.getElem?_cons_zero]; rfl)
    case hq76 => exact fun _ _ _ h => h
    case hw76 => rfl
    case hk76 =>
    try simp only [Act.put, List.setIfInBounds_toArray, List.set_cons_zero, List.set_cons_succ]
    refine anyK_skip 8 (oi := ?oo77) ?ho77 (by kernel_rfl) (by kernel_rfl) (by kernel_rfl) (by kernel_rfl) ?hq77 ?hw77 hT0 (fun _ => trivial) ?hk77
    case ho77 => (simp only [List.getElem?_toArray, List.getElem?_cons_succ, List.getElem?_cons_zero]; rfl)
    case hq77 => exact fun _ _ _ h => h
    case hw77 => rfl
    case hk77 =>
    try simp only [Act.put, List.setIfInBounds_toArray, List.set_cons_zero, List.set_cons_succ]
    refine anyK_take 9 (oi := ?oo78) ?ho78 (by kernel_rfl) (by kernel_rfl) (by kernel_rfl) (by kernel_rfl) ?hq78 ?hw78 hT0 (fun _ => trivial) (v := ?vv78) ?hy78 ?hk78
    case ho78 => (simp only [List.getElem?_toArray, List.getElem?_cons_succ, List.getElem?_cons_zero]; rfl)
    case hq78 => exact fun _ _ _ h => h
    case hw78 => rfl
    case hy78 =>
      intro W hW
      go_simp
      first | done | with_reducible rfl
    case hk78 =>
    try simp only [Act.put, List.setIfInBounds_toArray, List.set_cons_zero, List.set_cons_succ]
    refine anyK_take 10 (oi := ?oo79) ?ho79 (by kernel_rfl) (by kernel_rfl) (by kernel_rfl) (by kernel_rfl) ?hq79 ?hw79 hT0 (fun _ => trivial) (v := ?vv79) ?hy79 ?hk79
    case ho79 => (simp only [List.getElem?_toArray, List.getElem?_cons_succ, List.getElem?_cons_zero]; rfl)
    case hq79 => exact fun _ _ _ h => h
    case hw79 => rfl
    case hy79 =>
      intro W hW
      go_simp
      first | done | with_reducible rfl
    case hk79 =>
    try simp only [Act.put, List.setIfInBounds_toArray, List.set_cons_zero, List.set_cons_succ]
    refine anyK_skip 11 (oi := ?oo80) ?ho80 (by kernel_rfl) (by kernel_rfl) (by kernel_rfl) (by kernel_rfl) ?hq80 ?hw80 hT0 (fun _ => trivial) ?hk80
    case ho80 => (simp only [List.getElem?_toArray, List.getElem?_cons_succ, List.getElem?_cons_zero]; rfl)
    case hq80 => exact fun _ _ _ h => h
    case hw80 => rfl
    case hk80 =>
    try simp only [Act.put, List.setIfInBounds_toArray, List.set_cons_zero, List.set_cons_succ]
    refine anyK_skip 12 (oi := ?oo81) ?ho81 (by kernel_rfl) (by kernel_rfl) (by kernel_rfl) (by kernel_rfl) ?hq81 ?hw81 hT0 (fun _ => trivial) ?hk81
    case ho81 => (simp only [List.getElem?_toArray, List.getElem?_cons_succ, List.getElem?_cons_zero]; rfl)
    case hq81 => exact fun _ _ _ h => h
    case hw81 => rfl
    case hk81 =>
    try simp only [Act.put, List.setIfInBounds_toArray, List.set_cons_zero, List.set_cons_succ]
    refine anyK_skip 13 (oi := ?oo82) ?ho82 (by kernel_rfl) (by kernel_rfl) (by kernel_rfl) (by kernel_rfl) ?hq82 ?hw82 hT0 (fun _ => trivial) ?hk82
    case ho82 => (simp only [List.getElem?_toArray, List.getElem?_cons_succ, List.getElem?_cons_zero]; rfl)
    case hq82 => exact fun _ _ _ h => h
    case hw82 => rfl
    case hk82 =>
    try simp only [Act.put, List.setIfInBounds_toArray, List.set_cons_zero, List.set_cons_succ]
    refine anyK_skip 14 (oi := ?oo83) ?ho83 (by kernel_rfl) (by kernel_rfl) (by kernel_rfl) (by kernel_rfl) ?hq83 ?hw83 hT0 (fun _ => trivial) ?hk83
    case ho83 => (simp only [List.getElem?_toArray, List.getElem?_cons_succ, List.getElem?_cons_zero]; rfl)
    case hq83 => exact fun _ _ _ h => h
    case hw83 => rfl
    case hk83 =>
    try simp only [Act.put, List.setIfInBounds_toArray, List.set_cons_zero, List.set_cons_succ]
    refine anyK_skip 15 (oi := ?oo84) ?ho84 (by kernel_rfl) (by kernel_rfl) (by kernel_rfl) (by kernel_rfl) ?hq84 ?hw84 hT0 (fun _ => trivial) ?hk84
    case ho84 => (simp only [List.getElem?_toArray, List.getElem?_cons_succ, List.getElem?_cons_zero]; rfl)
    case hq84 => exact fun _ _ _ h => h
    case hw84 => rfl
    case hk84 =>
    try simp only [Act.put, List.setIfInBounds_toArray, List.set_cons_zero, List.set_cons_succ]
    refine anyK_skip 16 (oi := ?oo85) ?ho85 (by kernel_rfl) (by kernel_rfl) (by kernel_rfl) (by kernel_rfl) ?hq85 ?hw85 hT0 (fun _ => trivial) ?hk85
    case ho85 => (simp only [List.getElem?_toArray, List.getElem?_cons_succ, List.getElem?_cons_zero]; rfl)
    case hq85 => exact fun _ _ _ h => h
    case hw85 => rfl
    case hk85 =>
    try simp only [Act.put, List.setIfInBounds_toArray, List.set_cons_zero, List.set_cons_succ]
    refine anyK_skip 17 (oi := ?oo86) ?ho86 (by kernel_rfl) (by kernel_rfl) (by kernel_rfl) (by kernel_rfl) ?hq86 ?hw86 hT0 (fun _ => trivial) ?hk86
    case ho86 => (simp only [List.getElem?_toArray, List.getElem?_cons_succ, List.getElem?_cons_zero]; rfl)
    case hq86 => exact fun _ _ _ h => h
    case hw86 => rfl
    case hk86 =>
    try simp only [Act.put, List.setIfInBounds_toArray, List.set_cons_zero, List.set_cons_succ]
    refine anyK_skip 18 (oi := ?oo87) ?ho87 (by kernel_rfl) (by kernel_rfl) (by kernel_rfl) (by kernel_rfl) ?hq87 ?hw87 hT0 (fun _ => trivial) ?hk87
    case ho87 => (simp only [List.getElem?_toArray, List.getElem?_cons_succ, List.getElem?_cons_zero]; rfl)
    case hq87 => exact fun _ _ _ h => h
    case hw87 => rfl
    case hk87 =>
    try simp only [Act.put, List.setIfInBounds_toArray, List.set_cons_zero, List.set_cons_succ]
    refine anyK_take 19 (oi := ?oo88) ?ho88 (by kernel_rfl) (by kernel_rfl) (by kernel_rfl) (by kernel_rfl) ?hq88 ?hw88 hT0 (fun _ => trivial) (v := ?vv88) ?hy88 ?hk88
    case ho88 => (simp only [List.getElem?_toArray, List.getElem?_cons_succ, List.getElem?_cons_zero]; rfl)
    case hq88 => exact fun _ _ _ h => h
    case hw88 => rfl
    case hy88 =>
      intro W hW
      go_simp
      first | done | with_reducible rfl
    case hk88 =>
    try simp only [Act.put, List.setIfInBounds_toArray, List.set_cons_zero, List.set_cons_succ]
    refine anyK_done (by kernel_rfl) ?_ _
    clear keepK hT0
    go_wp2
    go_ret
    exact ⟨by rw [HG2.out]; rfl, ext_trans X2.out yy⟩
theorem one_Mv (l : List MoveM) : ∀ u ∈ l.flatMap MoveM.vals, u.oneCell' = true := by
  intro u hu
  obtain ⟨x, _, h⟩ := List.mem_flatMap.1 hu
  simp [MoveM.vals] at h
  rcases h with rfl | rfl | rfl <;> rfl
def OwnMv (w : World) (l : List MoveM) (e : Ending) (w' : World) : Prop := ∃ v', e = .returned v' ∧ OwnM w w' v' l ∧ Ext w w'
theorem clone_moves (v : Value) (l : List MoveM) (w : World) (hm : l.length ≤ 100000) (hz : MovesAt w v l) (hA0 : ∀ A n c, v = .slice A n c → A = none → n = 0) :
    Calls Try.prog 69 #[v] w (OwnMv w l) := by
  obtain ⟨A, c, rfl, hz⟩ := hz
  have hA := hA0 A l.length c rfl
  clear hA0
  have hnil := fun W => Lib.run_eql_slice_nil (P := Try.prog) W 53 39 A l.length c 0 0 Try.underlying53
  obtain ⟨i0, hi, hz0, hz1, hz2⟩ := info_parts moveInfo
  cases A with
  | none =>
    have h0 : l = [] := List.eq_nil_of_length_eq_zero (hA rfl)
    subst h0
    simp only [List.length_nil] at hnil ⊢
    go_enter Try.func69, Try.ntmps69
    go_wp2
    go_ret
    exact ⟨_, rfl, OwnM.nil _ _, Below.refl _ _⟩
  | some ad =>
    clear hA
    have hown := World.ownsRow_made w #[] 0 (base := w.heap.size) (e := 39) (size := 3) (Nat.le_refl _) (by simp [maxLen]) rfl
    have hone := one_Mv l
    have hlen := len_vals l
    generalize hv : l.flatMap MoveM.vals = vs at *
    have HV := hide hv
    clear hv
    have HO := hide hone
    have HL := hide hlen
    clear hone hlen
    go_enter Try.func69, Try.ntmps69
    go_wp2_with (at_builtin; refine wpList_append_cells _ rfl (.tmp 5) (.tmp 6) 53 rfl w.heap.size 39 i0 (.agg #[.int .i64 0, .int .i64 0, .int .i64 0]) 3 24 Try.underlying53 hi hz0 hz1 hz2 rfl (by decide) _ 0 [] rfl hown (some ad) l.length c vs rfl HL.out (hz.ext (ext_alloc (Below.refl _ _) _)) HO.out (by simp only [maxLen]; omega) (by omega) (by simp) (by simp) ?_; intro v1 w1 hown1 hgrow)
    obtain ⟨A', c', rfl, _, _⟩ := own_shape hown1
    go_ret
    simp only [Nat.zero_add, List.nil_append] at hown1
    exact ⟨_, rfl, ⟨A', c', by simp, by rw [HV.out]; simpa using hown1⟩, ext_grown (ext_alloc (Below.refl _ _) _) hgrow (own_row hown)⟩
theorem OwnM.nilA {w0 w : World} {v : Value} {xs : List MoveM} (h : OwnM w0 w v xs) : ∀ A n c, v = .slice A n c → A = none → n = 0 := by
  rintro A n c rfl rfl
  obtain ⟨A', c', e, o⟩ := h
  simp only [Value.slice.injEq] at e
  obtain ⟨rfl, rfl, rfl⟩ := e
  exact (own_cells o).2 rfl
set_option maxHeartbeats 2000000 in
set_option maxRecDepth 100000 in
theorem GMoves_any {w0 wa : World} {BG : Nat} {R : RulesM} {ps : List PosM} {ms : List MoveM} (hG : GameAt w0 wa BG R ps ms) (hm : ms.length ≤ 100000) :
    Calls Try.prog 45 #[.pointer (some ⟨BG, 0, none⟩)] wa (OwnMv wa ms) := by
  obtain ⟨pA, pc, sA, sc, eA, ec, base, l, m, h1, -, -, h4, -, -⟩ := hG
  have HCL := hide (clone_moves m ms wa hm h4.at_ h4.nilA)
  have f := h1.cell
  obtain ⟨A, c, rfl, -⟩ := h4
  clear h1
  go_enter Try.func45, Try.ntmps45
  go_wp2_with fail
  refine HCL.out.mono ?_
  rintro e w2 ⟨v2, rfl, o2, x2⟩
  have O2 := hide o2
  have X2 := hide x2
  clear o2 x2 f
  go_wp2
  go_ret
  exact ⟨_, rfl, O2.out, X2.out⟩
end Go.Proofs.Ytmofipijjokjfaa
