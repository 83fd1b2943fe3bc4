/- A position that stays while variables of other types change. -/
import Derived.Test.YtdoibgmmijhlfaaIRow
import Derived.Test.YtdoibgmmijhlfaaAppend
import Derived.Below
namespace Go.Proofs.Ytdoibgmmijhlfaa
open Go.ChangeShapes Go.WideShapes Go.ChangeAt Go.RowKit
set_option linter.unusedVariables false
theorem irow_blk_ne {w : World} {g B : Nat} {zs : List Int} {t : TypeId} {cs : Array Value} (h : IRow w g zs) (k : Blk w B t cs) (ht : 3 ≠ t) : g ≠ B := by
  rintro rfl
  obtain ⟨cur, h, -⟩ := h
  have e := h.symm.trans k
  simp only [Option.some.injEq, Obj.cells.injEq] at e
  exact ht e.2.1
theorem irow_own_ne {w0 w : World} {g : Nat} {zs : List Int} {v : Value} {xs : List MoveM} (h : IRow w g zs) (o : OwnM w0 w v xs) : v.ownBlock ≠ some g := by
  obtain ⟨cur, h, -⟩ := h
  obtain ⟨A, c, rfl, o⟩ := o
  exact own_blk_ne o (show Blk w g 3 cur from h) (by decide)
theorem OwnM.bd {w0 w : World} {v : Value} {xs : List MoveM} (h : OwnM w0 w v xs) : ∀ g, v.ownBlock = some g → w0.heap.size ≤ g ∧ g < w.heap.size := by
  obtain ⟨A, c, rfl, h⟩ := h
  exact h.lt
theorem OwnM.blk_ne {w0 w : World} {v : Value} {xs : List MoveM} {g : Nat} {t : TypeId} {cs : Array Value} (h : OwnM w0 w v xs) (k : Blk w g t cs) (ht : 37 ≠ t) : some g ≠ v.ownBlock := by
  obtain ⟨A, c, rfl, h⟩ := h
  exact Ne.symm (own_blk_ne h k ht)
/-- A position that lies in old memory (of world w0), or in blocks of integers of its own. -/
def PosK (w0 w : World) (v : Value) (P : PosM) : Prop := (∀ W, Ext w0 W → PosAt W v P) ∨ PosOwn w 0 v P
theorem PosK.at_ {w0 w : World} {v : Value} {P : PosM} (h : PosK w0 w v P) (x : Ext w0 w) : PosAt w v P := h.elim (fun h => h w x) (fun h => h.at_)
theorem PosK.old {w0 w : World} {v : Value} {P : PosM} (h : PosAt w0 v P) : PosK w0 w v P := .inl (fun W hW => h.ext hW)
theorem PosK.new {w0 w : World} {N : Nat} {v : Value} {P : PosM} (h : PosOwn w N v P) : PosK w0 w v P := by
  obtain ⟨g0, c0, g1, c1, g2, c2, e, -, b1, b2, r⟩ := h
  exact .inr ⟨g0, c0, g1, c1, g2, c2, e, Nat.zero_le _, b1, b2, r⟩
theorem PosOwn.same {w W : World} {N : Nat} {v : Value} {P : PosM} (h : PosOwn w N v P) (hs : ∀ g zs, IRow w g zs → W.heap[g]? = w.heap[g]?) : PosOwn W N v P := by
  obtain ⟨g0, c0, g1, c1, g2, c2, e, b0, b1, b2, r0, r1, r2, m⟩ := h
  exact ⟨g0, c0, g1, c1, g2, c2, e, b0, b1, b2, r0.same (hs _ _ r0), r1.same (hs _ _ r1), r2.same (hs _ _ r2), m⟩
theorem PosK.same {w0 w W : World} {v : Value} {P : PosM} (h : PosK w0 w v P) (hs : ∀ g zs, IRow w g zs → W.heap[g]? = w.heap[g]?) : PosK w0 W v P := h.imp id (fun h => h.same hs)
theorem PosK.ext {w0 w W : World} {v : Value} {P : PosM} (h : PosK w0 w v P) (x : Ext w W) : PosK w0 W v P := h.same (fun g zs r => x.block g r.lt)
theorem PosK.set {w0 w : World} {B : Nat} {t : TypeId} {cs : Array Value} {v : Value} {P : PosM} (h : PosK w0 w v P) (k : Blk w B t cs) (ht : 3 ≠ t) (i : Nat) (u : Value) : PosK w0 (w.setCell ⟨B, i, none⟩ u) v P :=
  h.same (fun g zs r => Below.heap_setCell w _ u g (irow_blk_ne r k ht))
theorem PosK.grown {w0 w1 w W : World} {v out : Value} {xs : List MoveM} {P : PosM} (h : PosK w0 w v P) (o : OwnM w1 w out xs) (g : w.grownBy W out.ownBlock) : PosK w0 W v P :=
  h.same (fun b zs r => g.block b r.lt (Ne.symm (irow_own_ne r o)))
theorem PosK.set5 {w0 w : World} {B : Nat} {o0 o1 o2 o3 o4 u0 u1 u2 u3 u4 : Value} {v : Value} {P : PosM} (h : PosK w0 w v P) (k : Blk w B 29 #[o0, o1, o2, o3, o4]) :
    PosK w0 (((((w.setCell ⟨B, 0, none⟩ u0).setCell ⟨B, 1, none⟩ u1).setCell ⟨B, 2, none⟩ u2).setCell ⟨B, 3, none⟩ u3).setCell ⟨B, 4, none⟩ u4) v P := by
  have k0 := k.set_ 0 u0
  have k1 := k0.set_ 1 u1
  have k2 := k1.set_ 2 u2
  have k3 := k2.set_ 3 u3
  exact ((((h.set k (by decide) 0 u0).set k0 (by decide) 1 u1).set k1 (by decide) 2 u2).set k2 (by decide) 3 u3).set k3 (by decide) 4 u4
theorem OwnM.set {w0 w : World} {v : Value} {xs : List MoveM} {p : Addr} (h : OwnM w0 w v xs) (hb : some p.block ≠ v.ownBlock) (u : Value) : OwnM w0 (w.setCell p u) v xs := by
  obtain ⟨A, c, rfl, h⟩ := h
  exact ⟨A, c, rfl, own_set h (Ne.symm hb) u⟩
theorem OwnM.set5 {w0 w : World} {v : Value} {xs : List MoveM} {B : Nat} {u0 u1 u2 u3 u4 : Value} (h : OwnM w0 w v xs) (hb : some B ≠ v.ownBlock) : OwnM w0 (((((w.setCell ⟨B, 0, none⟩ u0).setCell ⟨B, 1, none⟩ u1).setCell ⟨B, 2, none⟩ u2).setCell ⟨B, 3, none⟩ u3).setCell ⟨B, 4, none⟩ u4) v xs :=
  ((((h.set (p := ⟨B, 0, none⟩) hb u0).set (p := ⟨B, 1, none⟩) hb u1).set (p := ⟨B, 2, none⟩) hb u2).set (p := ⟨B, 3, none⟩) hb u3).set (p := ⟨B, 4, none⟩) hb u4
theorem Blk.far5 {w : World} {g B : Nat} {t : TypeId} {cs : Array Value} {u0 u1 u2 u3 u4 : Value} (h : Blk w g t cs) (hb : g ≠ B) : Blk (((((w.setCell ⟨B, 0, none⟩ u0).setCell ⟨B, 1, none⟩ u1).setCell ⟨B, 2, none⟩ u2).setCell ⟨B, 3, none⟩ u3).setCell ⟨B, 4, none⟩ u4) g t cs :=
  ((((h.far (p := ⟨B, 0, none⟩) hb u0).far (p := ⟨B, 1, none⟩) hb u1).far (p := ⟨B, 2, none⟩) hb u2).far (p := ⟨B, 3, none⟩) hb u3).far (p := ⟨B, 4, none⟩) hb u4
theorem ext5 {w0 w : World} {B : Nat} {u0 u1 u2 u3 u4 : Value} (hx : Ext w0 w) (hb : w0.heap.size ≤ B) : Ext w0 (((((w.setCell ⟨B, 0, none⟩ u0).setCell ⟨B, 1, none⟩ u1).setCell ⟨B, 2, none⟩ u2).setCell ⟨B, 3, none⟩ u3).setCell ⟨B, 4, none⟩ u4) :=
  ext_set (ext_set (ext_set (ext_set (ext_set hx (p := ⟨B, 0, none⟩) hb u0) (p := ⟨B, 1, none⟩) hb u1) (p := ⟨B, 2, none⟩) hb u2) (p := ⟨B, 3, none⟩) hb u3) (p := ⟨B, 4, none⟩) hb u4
end Go.Proofs.Ytdoibgmmijhlfaa
