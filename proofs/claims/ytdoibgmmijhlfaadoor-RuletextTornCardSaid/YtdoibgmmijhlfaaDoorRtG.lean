/- Plain: steps of the reader's loops; memory of reader.pieces. -/
import Derived.Test.YtdoibgmmijhlfaaDoorRtF
import Derived.Test.YtdoibgmmijhlfaaDoorGTxtE
namespace Go.Proofs.YtdoibgmmijhlfaaDoor
open Go.RowKit
set_option linter.unusedVariables false
theorem nextL_some {word : BL} {n : Nat} {L l ls : List BL} (h : nextL word n L = some (l, ls)) : l.length = n ∧ L.length = ls.length + 1 ∧ (∀ x ∈ ls, x ∈ L) ∧ ∀ K, (∀ x ∈ L, x.length ≤ K) → ∀ y ∈ l, y.length ≤ K := by
  unfold nextL at h
  cases L with
  | nil => cases h
  | cons x r =>
    simp only at h
    split at h
    · rename_i hc
      simp only [Option.some.injEq, Prod.mk.injEq] at h
      obtain ⟨rfl, rfl⟩ := h
      exact ⟨by rw [List.length_tail]; omega, rfl, fun y hy => List.mem_cons_of_mem _ hy, fun K hK y hy => Nat.le_trans (splitL_sub 32 x y (List.mem_of_mem_tail hy)) (hK x List.mem_cons_self)⟩
    · cases h
theorem list3 {α : Type} {l : List α} (h : l.length = 3) : ∃ a b c, l = [a, b, c] := by
  match l, h with
  | [a, b, c], _ => exact ⟨a, b, c, rfl⟩
theorem list4 {α : Type} {l : List α} (h : l.length = 4) : ∃ a b c d, l = [a, b, c, d] := by
  match l, h with
  | [a, b, c, d], _ => exact ⟨a, b, c, d, rfl⟩
theorem list1 {α : Type} {l : List α} (h : l.length = 1) : ∃ a, l = [a] := by
  match l, h with
  | [a], _ => exact ⟨a, rfl⟩
/-- A state of the reader while pieces are read. -/
abbrev stP (r0 : RulesM) (L : List BL) (ps : List PieceM) (ts : List BL) (b : Bool) : RdM := ⟨L, { r0 with pieces := ps }, ts, b⟩
section
variable {r0 : RulesM} {L ls : List BL} {ps : List PieceM} {ts : List BL} {b : Bool} {f : Nat}
theorem piecesL_none (h : nextL wPiece 3 L = none) : piecesL (f + 1) (stP r0 L ps ts b) = (stP r0 L ps ts b, true) := by
  unfold piecesL
  rw [next_of, h]
  rfl
theorem piecesL_bad {x y z : BL} (h : nextL wPiece 3 L = some ([x, y, z], ls)) (hx : letOf x = none) : piecesL (f + 1) (stP r0 L ps ts b) = (stP r0 ls ps ts true, false) := by
  unfold piecesL
  rw [next_of, h]
  simp only [Option.map_some, List.getD_cons_zero, hx, RdM.mark, Bool.or_true]
theorem piecesL_some {x y z : BL} {c : UInt8} (h : nextL wPiece 3 L = some ([x, y, z], ls)) (hx : letOf x = some c) : piecesL (f + 1) (stP r0 L ps ts b) = piecesL f (pushR (waysR (ls.length + 1) (stP r0 ls ps (ts ++ [z]) (b || numBad y)) []).1 c (numV y) (waysR (ls.length + 1) (stP r0 ls ps (ts ++ [z]) (b || numBad y)) []).2) := by
  rw [piecesL, next_of, h]
  simp only [Option.map_some, List.getD_cons_zero, hx, RdM.mark]
  rfl
theorem waysR_none {ws : List WayM} (h : nextL wWay 4 L = none) : waysR (f + 1) (stP r0 L ps ts b) ws = (stP r0 L ps ts b, ws) := by
  unfold waysR
  rw [next_of, h]
  rfl
theorem waysR_some {ws : List WayM} {l : List BL} (h : nextL wWay 4 L = some (l, ls)) : waysR (f + 1) (stP r0 L ps ts b) ws = waysR f (stP r0 ls ps ts (b || wayBad l)) (ws ++ [wayV l]) := by
  rw [waysR, next_of, h]
  rfl
theorem promR_step (i : Nat) (s : BL) (r : List BL) : promR i (s :: r) (stP r0 L ps ts b) = promR (i + 1) r (if s = [45] then stP r0 L ps ts b else stP r0 L (ps.modify i fun p => { p with promote := max (pieceIx ps s) 0 + 1 }) ts (b || decide (pieceIx ps s < 0))) := by
  rw [promR]
end
theorem letOf_none {s : BL} (h : s.length ≠ 1) : letOf s = none := by
  unfold letOf
  split
  · exact absurd rfl h
  · rfl
theorem letOf_one (b : UInt8) : letOf [b] = if 65 ≤ b.toNat ∧ b.toNat ≤ 90 then some b else none := rfl
theorem pieceIx_rng (ps : List PieceM) (s : BL) : -1 ≤ pieceIx ps s ∧ pieceIx ps s < (ps.length : Int) := by
  unfold pieceIx
  split
  · exact pieceK_rng ps _
  · omega
theorem cell_far {w : World} {a p : Addr} {v : Value} (h : w.cell? a = some v) (hne : a.block ≠ p.block) (u : Value) : (w.setCell p u).cell? a = some v :=
  (World.cell?_of_block (Below.heap_setCell w p u a.block hne)).trans h
/-- Four words in memory. -/
def W4 (W : World) (b o : Nat) (l0 l1 l2 l3 : BL) : Prop := W.cell? ⟨b, o, none⟩ = some (.string (strU l0)) ∧ W.cell? ⟨b, o + 1, none⟩ = some (.string (strU l1)) ∧ W.cell? ⟨b, o + 2, none⟩ = some (.string (strU l2)) ∧ W.cell? ⟨b, o + 3, none⟩ = some (.string (strU l3))
theorem W4.ext {W W' : World} {b o : Nat} {l0 l1 l2 l3 : BL} (h : W4 W b o l0 l1 l2 l3) (x : Ext W W') : W4 W' b o l0 l1 l2 l3 := ⟨Ext.cell x h.1, Ext.cell x h.2.1, Ext.cell x h.2.2.1, Ext.cell x h.2.2.2⟩
theorem W4.grown {W W' : World} {b o : Nat} {l0 l1 l2 l3 : BL} {r : Option Nat} (h : W4 W b o l0 l1 l2 l3) (x : W.grownBy W' r) (hr : r ≠ some b) : W4 W' b o l0 l1 l2 l3 := ⟨x.cell h.1 (fun e => hr e.symm), x.cell h.2.1 (fun e => hr e.symm), x.cell h.2.2.1 (fun e => hr e.symm), x.cell h.2.2.2 (fun e => hr e.symm)⟩
theorem W4.far {W : World} {b o : Nat} {l0 l1 l2 l3 : BL} (h : W4 W b o l0 l1 l2 l3) {p : Addr} (hp : b ≠ p.block) (u : Value) : W4 (W.setCell p u) b o l0 l1 l2 l3 := ⟨cell_far h.1 hp u, cell_far h.2.1 hp u, cell_far h.2.2.1 hp u, cell_far h.2.2.2 hp u⟩
theorem blk_cells_t {w : World} {g : Nat} {t : TypeId} {vs : List Value} (h : Blk w g t vs.toArray) : CellsAt w (some ⟨g, 0, none⟩) vs := fun i v hi => ⟨g, 0, rfl, by
  rw [Nat.zero_add, h.cell]
  simpa using hi⟩
/-- How long the reader's row of lines is. -/
def lenAt (w : World) (g : Nat) : Nat := match w.cell? ⟨g, 0, none⟩ with
  | some (.slice _ n _) => n
  | _ => 0
theorem lenAt_blk {w : World} {g n d : Nat} {B : Option Addr} {t : TypeId} {c1 c2 c3 c4 c5 c6 c7 c8 c9 c10 c11 c12 c13 : Value} (h : Blk w g t #[.slice B n d, c1, c2, c3, c4, c5, c6, c7, c8, c9, c10, c11, c12, c13]) : lenAt w g = n := by
  unfold lenAt
  rw [h.cell]
  rfl
/-- The words of a line, in memory. -/
theorem words_at {w : World} {g c : Nat} {A : Option Addr} {x : BL} {l : List BL} (h : LinesAt w g A c (x :: l)) : ∃ b o, A = some ⟨b, o, none⟩ ∧ b ≠ g ∧ ∀ i y, (x :: l)[i]? = some y → w.cell? ⟨b, o + i, none⟩ = some (.string (strU y)) := by
  obtain ⟨b, o, rfl, -⟩ := h.1 0 _ rfl
  refine ⟨b, o, rfl, h.2.2.2 _ rfl, fun i y hy => ?_⟩
  obtain ⟨b', o', e, hc⟩ := h.1 i _ (strsC_get hy)
  injection e with e
  injection e with e1 e2
  subst e1 e2
  exact hc
/-- What lies in memory while pieces are read. -/
structure PMem (w : World) (g : Nat) (c1 c2 c3 c5 c6 c7 c8 c9 c10 c11 : Value) (A0 : Option Addr) (L : List BL) (ps : List PieceM) (ts : List BL) (b : Bool) (B : Option Addr) (d : Nat) (pv tv : Value) (W : World) : Prop where
  blk : Blk W g RT #[.slice B L.length d, c1, c2, c3, pv, c5, c6, c7, c8, c9, c10, c11, tv, .bool b]
  lin : LinesAt W g B d L
  low : ∀ a, B = some a → a.block < w.heap.size
  same : ∀ a b, A0 = some a → B = some b → b.block = a.block
  prow : PRow W w.heap.size pv ps
  tow : OwnR 9 1 w W tv ts.length (strsC ts)
  fr : Fr [g] w W
  l8 : ∀ s ∈ L, s.length ≤ 8192
  cnt : ps.length + L.length ≤ 8193
/-- What lies in memory while the ways of a piece are read. -/
structure WMem (w w6 : World) (g PB : Nat) (c1 c2 c3 c5 c6 c7 c8 c9 c10 c11 : Value) (A0 : Option Addr) (n6 : Nat) (pv tv lv hv : Value) (L : List BL) (ws : List WayM) (b : Bool) (B : Option Addr) (d : Nat) (wv : Value) (W : World) : Prop where
  blk : Blk W g RT #[.slice B L.length d, c1, c2, c3, pv, c5, c6, c7, c8, c9, c10, c11, tv, .bool b]
  lin : LinesAt W g B d L
  low : ∀ a, B = some a → a.block < w.heap.size
  same : ∀ a b, A0 = some a → B = some b → b.block = a.block
  pb : Blk W PB 64 #[lv, hv, .int .i64 0, wv]
  wow : OwnR 67 4 w6 W wv ws.length (ws.flatMap WayM.vals)
  fr : Fr [g, PB] w6 W
  l8 : ∀ s ∈ L, s.length ≤ 8192
  cnt : ws.length + L.length ≤ n6
theorem low_of {W : World} {g d : Nat} {B B' : Option Addr} {L : List BL} (h : LinesAt W g B d L) (hL : 0 < L.length) (h8 : ∀ a b, B = some a → B' = some b → b.block = a.block) : ∀ a, B' = some a → ∃ a0, B = some a0 ∧ a.block = a0.block := fun a ha => by
  cases hB : B with
  | none => have := h.2.2.1 hB; omega
  | some a0 => exact ⟨a0, rfl, h8 a0 a hB ha⟩
section
variable {w : World} {g : Nat} {c1 c2 c3 c5 c6 c7 c8 c9 c10 c11 : Value} {A0 : Option Addr} {L L' : List BL} {ps : List PieceM} {ts : List BL} {b b' : Bool} {B B' : Option Addr} {d d' : Nat} {pv tv : Value} {W W' : World}
theorem PMem.ext (h : PMem w g c1 c2 c3 c5 c6 c7 c8 c9 c10 c11 A0 L ps ts b B d pv tv W) (x : Ext W W') : PMem w g c1 c2 c3 c5 c6 c7 c8 c9 c10 c11 A0 L ps ts b B d pv tv W' :=
  ⟨h.blk.ext x, h.lin.ext x, h.low, h.same, h.prow.ext x, h.tow.ext x, h.fr.ext x, h.l8, h.cnt⟩
theorem PMem.step (h : PMem w g c1 c2 c3 c5 c6 c7 c8 c9 c10 c11 A0 L ps ts b B d pv tv W) (hk : W.grownBy W' (some g)) (hg : g < w.heap.size) (hb : Blk W' g RT #[.slice B' L'.length d', c1, c2, c3, pv, c5, c6, c7, c8, c9, c10, c11, tv, .bool b']) (hl : LinesAt W' g B' d' L') (hlow : ∀ a, B' = some a → ∃ a0, B = some a0 ∧ a.block = a0.block) (hL : ∀ s ∈ L', s ∈ L) (hn : L'.length ≤ L.length) : PMem w g c1 c2 c3 c5 c6 c7 c8 c9 c10 c11 A0 L' ps ts b' B' d' pv tv W' := by
  have hf : Fr [g] W W' := Fr.of_grown hk (fun x e => by cases e; simp)
  refine ⟨hb, hl, fun a ha => ?_, fun a b ha hb => ?_, h.prow.fr hf (fun x hx => ?_), h.tow.fr hf (fun x hx e => ?_), h.fr.trans hf, fun s hs => h.l8 s (hL s hs), by have := h.cnt; omega⟩
  · obtain ⟨a0, h1, h2⟩ := hlow a ha
    rw [h2]
    exact h.low a0 h1
  · obtain ⟨a0, h1, h2⟩ := hlow b hb
    rw [h2]
    exact h.same a a0 ha h1
  · obtain rfl := List.mem_singleton.1 hx
    exact ⟨fun e => by have := (h.prow.lt x e).1; omega, .inl hg⟩
  · obtain rfl := List.mem_singleton.1 hx
    have := (h.tow.lt x e).1
    omega
theorem PMem.lineNe (h : PMem w g c1 c2 c3 c5 c6 c7 c8 c9 c10 c11 A0 L ps ts b B d pv tv W) : ∀ a, B = some a → a.block ≠ g := h.lin.2.2.2
/-- Only the reader's flag has changed. -/
theorem PMem.mark (h : PMem w g c1 c2 c3 c5 c6 c7 c8 c9 c10 c11 A0 L ps ts b B d pv tv W) (hk : W.grownBy W' (some g)) (hg : g < w.heap.size) (hb : Blk W' g RT #[.slice B L.length d, c1, c2, c3, pv, c5, c6, c7, c8, c9, c10, c11, tv, .bool b']) : PMem w g c1 c2 c3 c5 c6 c7 c8 c9 c10 c11 A0 L ps ts b' B d pv tv W' :=
  h.step hk hg hb (h.lin.kept hk) (fun a ha => ⟨a, ha, rfl⟩) (fun s hs => hs) (Nat.le_refl _)
theorem lines_far {w W : World} {g n d : Nat} {B : Option Addr} {L : List BL} {S : List Nat} {W' : World} (h : LinesAt W g B d L) (hlow : ∀ a, B = some a → a.block < n) (k : Fr S W W') (hS : ∀ x ∈ S, x = g ∨ n ≤ x) : LinesAt W' g B d L := lines_fr h k (fun a ha hx => by
  rcases hS _ hx with e | e
  · exact h.2.2.2 a ha e
  · have := hlow a ha; omega)
/-- A store into a block of a piece that is no row's. -/
theorem PMem.setP (h : PMem w g c1 c2 c3 c5 c6 c7 c8 c9 c10 c11 A0 L ps ts b B d pv tv W) {PB i : Nat} {cs : Array Value} (kp : Blk W PB 64 cs) (hne : pv.ownBlock ≠ some PB) (hPB : w.heap.size ≤ PB) (hg : g < w.heap.size) (u : Value) : PMem w g c1 c2 c3 c5 c6 c7 c8 c9 c10 c11 A0 L ps ts b B d pv tv (W.setCell ⟨PB, i, none⟩ u) := by
  have hf : Fr [PB] W (W.setCell ⟨PB, i, none⟩ u) := (Fr.refl _ _).set _ (.inl (by simp)) u
  refine ⟨h.blk.fr hf (by simp; omega), lines_far (w := w) h.lin h.low hf (fun x hx => .inr (by rw [List.mem_singleton.1 hx]; exact hPB)), h.low, h.same, h.prow.fr hf (fun x hx => ?_), h.tow.fr hf (fun x hx e => ?_), h.fr.set _ (.inr hPB) u, h.l8, h.cnt⟩
  · obtain rfl := List.mem_singleton.1 hx
    exact ⟨hne, .inr (.inr ⟨_, _, kp, by decide⟩)⟩
  · obtain rfl := List.mem_singleton.1 hx
    obtain ⟨A, c, rfl, o⟩ := h.tow
    exact own_blk_ne o kp (by decide) e
/-- The row of letters has grown. -/
theorem PMem.tos (h : PMem w g c1 c2 c3 c5 c6 c7 c8 c9 c10 c11 A0 L ps ts b B d pv tv W) {W1 : World} {v : Value} {x : BL} (o : OwnR 9 1 w W1 v (ts.length + 1) (strsC ts ++ [.string (strU x)])) (gr : W.grownBy W1 tv.ownBlock) (hg : g < w.heap.size) : PMem w g c1 c2 c3 c5 c6 c7 c8 c9 c10 c11 A0 L ps (ts ++ [x]) b B d pv v (W1.setCell ⟨g, 12, none⟩ v) := by
  have hlt := h.tow.lt
  have hf1 : Fr tv.ownBlock.toList W W1 := Fr.of_grown gr (fun x e => by simp [e])
  have hS1 : ∀ x ∈ tv.ownBlock.toList, w.heap.size ≤ x := fun x hx => (hlt x (by simpa using hx)).1
  have hf2 : Fr [g] W1 (W1.setCell ⟨g, 12, none⟩ v) := (Fr.refl _ _).set _ (.inl (by simp)) v
  obtain ⟨tA, tc, rfl, tw⟩ := h.tow
  refine ⟨blk_put (h.blk.fr hf1 (fun hx => by have := hS1 _ hx; omega)) rfl, lines_far (w := w) (lines_far (w := w) h.lin h.low hf1 (fun x hx => .inr (hS1 x hx))) h.low hf2 (fun x hx => .inl (by simpa using hx)), h.low, h.same, (h.prow.other gr tw (by decide) (by decide)).fr hf2 (fun x hx => ?_), ?_, ((h.fr.own gr (fun x e => (hlt x e).1)).set _ (.inl (by simp)) v), h.l8, h.cnt⟩
  · obtain rfl := List.mem_singleton.1 hx
    exact ⟨fun e => by have := ((h.prow.other gr tw (by decide) (by decide)).lt x e).1; omega, .inl hg⟩
  · rw [List.length_append, strsC_snoc]
    exact o.fr hf2 (fun x hx e => by
      obtain rfl := List.mem_singleton.1 hx
      have := (o.lt x e).1; omega)
/-- The row of pieces has grown. -/
theorem PMem.push (h : PMem w g c1 c2 c3 c5 c6 c7 c8 c9 c10 c11 A0 L ps ts b B d pv tv W) {W1 : World} {v : Value} {p : PieceM} {l : List Value} {vss : List (List Value)} (ho : W.ownsRow w.heap.size 64 4 pv ps.length vss.flatten) (hl : vss.length = ps.length) (hw : ∀ (i : Nat) (p : PieceM) (l : List Value), ps[i]? = some p → vss[i]? = some l → WaysOwn W w.heap.size p l)
    (o : OwnR 64 4 w W1 v (ps.length + 1) (vss.flatten ++ l)) (gr : W.grownBy W1 pv.ownBlock) (hp : WaysOwn W w.heap.size p l) (hg : g < w.heap.size) (hc : ps.length + 1 + L.length ≤ 8193) : PMem w g c1 c2 c3 c5 c6 c7 c8 c9 c10 c11 A0 L (ps ++ [p]) ts b B d v tv (W1.setCell ⟨g, 4, none⟩ v) := by
  have hlt := ho.lt
  have hf1 : Fr pv.ownBlock.toList W W1 := Fr.of_grown gr (fun x e => by simp [e])
  have hS1 : ∀ x ∈ pv.ownBlock.toList, w.heap.size ≤ x := fun x hx => (hlt x (by simpa using hx)).1
  have hf2 : Fr [g] W1 (W1.setCell ⟨g, 4, none⟩ v) := (Fr.refl _ _).set _ (.inl (by simp)) v
  obtain ⟨vA, vc, rfl, o'⟩ := o
  have hpr := PRow.snoc (w0 := w) ho hl hw gr hp o'
  obtain ⟨tA, tc, rfl, tw⟩ := h.tow
  have hto : W1.ownsRow w.heap.size 9 1 (.slice tA ts.length tc) ts.length (strsC ts)   := tw.kept gr (own_ne tw ho (by decide))
  refine ⟨blk_put (h.blk.fr hf1 (fun hx => by have := hS1 _ hx; omega)) rfl, lines_far (w := w) (lines_far (w := w) h.lin h.low hf1 (fun x hx => .inr (hS1 x hx))) h.low hf2 (fun x hx => .inl (by simpa using hx)), h.low, h.same, hpr.fr hf2 (fun x hx => ?_), OwnR.fr ⟨tA, tc, rfl, hto⟩ hf2 (fun x hx e => ?_), ((h.fr.own gr (fun x e => (hlt x e).1)).set _ (.inl (by simp)) _), h.l8, by rw [List.length_append]; exact hc⟩
  · obtain rfl := List.mem_singleton.1 hx
    exact ⟨fun e => by have := (hpr.lt x e).1; omega, .inl hg⟩
  · obtain rfl := List.mem_singleton.1 hx
    have := (hto.lt x e).1; omega
/-- Behind the loop of ways. -/
theorem PMem.ways {w6 : World} {PB n6 : Nat} {lv hv wv : Value} {ws : List WayM} {B6 : Option Addr} {d6 : Nat} {L6 : List BL} {b6 : Bool} {cs : Array Value} (h : PMem w g c1 c2 c3 c5 c6 c7 c8 c9 c10 c11 A0 L6 ps ts b6 B6 d6 pv tv w6) (hm : WMem w w6 g PB c1 c2 c3 c5 c6 c7 c8 c9 c10 c11 A0 n6 pv tv lv hv L ws b B d wv W) (kp : Blk w6 PB 64 cs) (hne : pv.ownBlock ≠ some PB) (hPB : w.heap.size ≤ PB) (hg : g < w.heap.size) (hc : ps.length + L.length ≤ 8193) : PMem w g c1 c2 c3 c5 c6 c7 c8 c9 c10 c11 A0 L ps ts b B d pv tv W := by
  refine ⟨hm.blk, hm.lin, hm.low, hm.same, h.prow.fr hm.fr (fun x hx => ?_), h.tow.fr hm.fr (fun x hx e => ?_), h.fr.down hm.fr (fun x hx => ?_), hm.l8, hc⟩
  · rcases List.mem_cons.1 hx with rfl | hx
    · exact ⟨fun e => by have := (h.prow.lt x e).1; omega, .inl hg⟩
    · obtain rfl := List.mem_singleton.1 hx
      exact ⟨hne, .inr (.inr ⟨_, _, kp, by decide⟩)⟩
  · rcases List.mem_cons.1 hx with rfl | hx
    · have := (h.tow.lt x e).1; omega
    · obtain rfl := List.mem_singleton.1 hx
      obtain ⟨A, c, rfl, o⟩ := h.tow
      exact own_blk_ne o kp (by decide) e
  · rcases List.mem_cons.1 hx with rfl | hx
    · exact .inl (by simp)
    · obtain rfl := List.mem_singleton.1 hx
      exact .inr hPB
/-- A change of a piece is stored. -/
theorem PMem.prom (h : PMem w g c1 c2 c3 c5 c6 c7 c8 c9 c10 c11 A0 L ps ts b B d pv tv W) {pg i : Nat} (hv : pv.ownBlock = some pg) (hi : i < ps.length) (hg : g < w.heap.size) (z : Int) : PMem w g c1 c2 c3 c5 c6 c7 c8 c9 c10 c11 A0 L (ps.modify i fun p => { p with promote := z }) ts b B d pv tv (W.setCell ⟨pg, i * 4 + 2, none⟩ (.int .i64 z)) := by
  have hlt := h.prow.lt pg hv
  have hf : Fr [pg] W (W.setCell ⟨pg, i * 4 + 2, none⟩ (.int .i64 z)) := (Fr.refl _ _).set _ (.inl (by simp)) _
  refine ⟨h.blk.fr hf (by simp; omega), lines_far (w := w) h.lin h.low hf (fun x hx => .inr (by rw [List.mem_singleton.1 hx]; exact hlt.1)), h.low, h.same, h.prow.promote hv hi z, h.tow.fr hf (fun x hx e => ?_), h.fr.set _ (.inr hlt.1) _, h.l8, by rw [List.length_modify]; exact h.cnt⟩
  obtain rfl := List.mem_singleton.1 hx
  obtain ⟨A, c, rfl, o⟩ := h.tow
  obtain ⟨vss, ho, -⟩ := h.prow
  rcases own_ne o ho (by decide) with h1 | h1
  · rw [h1] at e; cases e
  · exact h1 (by rw [hv]; exact e)
theorem WMem.ext {w6 : World} {PB n6 : Nat} {lv hv wv : Value} {ws : List WayM} (h : WMem w w6 g PB c1 c2 c3 c5 c6 c7 c8 c9 c10 c11 A0 n6 pv tv lv hv L ws b B d wv W) (x : Ext W W') : WMem w w6 g PB c1 c2 c3 c5 c6 c7 c8 c9 c10 c11 A0 n6 pv tv lv hv L ws b B d wv W' :=
  ⟨h.blk.ext x, h.lin.ext x, h.low, h.same, h.pb.ext x, h.wow.ext x, h.fr.ext x, h.l8, h.cnt⟩
theorem WMem.mark {w6 : World} {PB n6 : Nat} {lv hv wv : Value} {ws : List WayM} (h : WMem w w6 g PB c1 c2 c3 c5 c6 c7 c8 c9 c10 c11 A0 n6 pv tv lv hv L ws b B d wv W) (hk : W.grownBy W' (some g)) (hg : g < w6.heap.size) (hgp : g ≠ PB) (hb : Blk W' g RT #[.slice B L.length d, c1, c2, c3, pv, c5, c6, c7, c8, c9, c10, c11, tv, .bool b']) : WMem w w6 g PB c1 c2 c3 c5 c6 c7 c8 c9 c10 c11 A0 n6 pv tv lv hv L ws b' B d wv W' :=
  ⟨hb, h.lin.kept hk, h.low, h.same, h.pb.grown hk (fun e => hgp (by injection e with e; exact e.symm)), h.wow.fr (Fr.of_grown (S := [g]) hk (fun x e => by cases e; simp)) (fun x hx e => by
    obtain rfl := List.mem_singleton.1 hx
    have := (h.wow.lt x e).1; omega), h.fr.grown hk (by simp), h.l8, h.cnt⟩
theorem WMem.grow {w6 : World} {PB n6 : Nat} {lv hv wv : Value} {ws : List WayM} (h : WMem w w6 g PB c1 c2 c3 c5 c6 c7 c8 c9 c10 c11 A0 n6 pv tv lv hv L ws b B d wv W) {W1 : World} {v : Value} {x : WayM} (o : OwnR 67 4 w6 W1 v (ws.length + 1) (ws.flatMap WayM.vals ++ x.vals)) (gr : W.grownBy W1 wv.ownBlock) (hg : g < w6.heap.size) (hPB : PB < w6.heap.size) (hgp : g ≠ PB) (hwp : w.heap.size ≤ PB) (hn : ws.length + 1 + L.length ≤ n6) : WMem w w6 g PB c1 c2 c3 c5 c6 c7 c8 c9 c10 c11 A0 n6 pv tv lv hv L (ws ++ [x]) b B d v (W1.setCell ⟨PB, 3, none⟩ v) := by
  have hlt := h.wow.lt
  have hf1 : Fr wv.ownBlock.toList W W1 := Fr.of_grown gr (fun x e => by simp [e])
  have hS1 : ∀ x ∈ wv.ownBlock.toList, w6.heap.size ≤ x := fun x hx => (hlt x (by simpa using hx)).1
  have hf2 : Fr [PB] W1 (W1.setCell ⟨PB, 3, none⟩ v) := (Fr.refl _ _).set _ (.inl (by simp)) v
  refine ⟨(h.blk.fr hf1 (fun hx => by have := hS1 _ hx; omega)).fr hf2 (by simpa using hgp), lines_far (w := w) (n := w.heap.size) (lines_far (w := w) h.lin h.low hf1 (fun x hx => .inr (by have := hS1 x hx; omega))) h.low hf2 (fun x hx => .inr (by rw [List.mem_singleton.1 hx]; exact hwp)), h.low, h.same, blk_put (h.pb.fr hf1 (fun hx => by have := hS1 _ hx; omega)) rfl, ?_, (h.fr.own gr (fun x e => (hlt x e).1)).set _ (.inl (by simp)) v, h.l8, by rw [List.length_append]; exact hn⟩
  rw [List.length_append, List.flatMap_append, List.flatMap_cons, List.flatMap_nil, List.append_nil]
  exact o.fr hf2 (fun x hx e => by
    obtain rfl := List.mem_singleton.1 hx
    have := (o.lt x e).1; omega)
def okNat : Value → Nat
  | .bool true => 1
  | _ => 0
end
end Go.Proofs.YtdoibgmmijhlfaaDoor
