/- Plain and memory: rows of the reader. -/
import Derived.Test.YtdoibgmmijhlfaaDoorRtG
import Derived.Test.YtdoibgmmijhlfaaDoorGTxtB
import Derived.Laws.OwnMore
namespace Go.Proofs.YtdoibgmmijhlfaaDoor
open Go.RowKit
set_option linter.unusedVariables false
/-- string(rune(b)) of a byte. -/
def runeT (n : Nat) : BL := if n < 128 then [UInt8.ofNat n] else [UInt8.ofNat (192 + n / 64), UInt8.ofNat (128 + n % 64)]
theorem enc_byte : ∀ x : Fin 256, Utf8.encode (x.val : Int) = strU (runeT x.val) := by decide +kernel
theorem run_byte : ∀ (x : Fin 256) (W : World), (convert 21 9 (.int .i32 (x.val : Int))).run Tryd.prog W = .ok (.string (strU (runeT x.val))) W := by
  intro x W
  have h : Conv.intToString (x.val : Int) = (pure (.string (strU (runeT x.val))) : Sem Value) := by
    unfold Conv.intToString
    rw [enc_byte x]
  simp [convert, run_underlying Tryd.underlying21, run_underlying Tryd.underlying9, h]
theorem rune_ix (ps : List PieceM) (n : Nat) : pieceIx ps (runeT n) = runeIx ps n := by
  unfold runeT runeIx
  split
  · rfl
  · rfl
theorem putAt_len : ∀ (zs : List Int) (L : List Int) (k : Nat), (putAt L k zs).length = L.length
  | [], L, k => rfl
  | z :: zs, L, k => by rw [putAt, putAt_len zs, List.length_set]
theorem putAt_snoc (z : Int) : ∀ (zs : List Int) (L : List Int) (k : Nat), putAt L k (zs ++ [z]) = (putAt L k zs).set (k + zs.length) z
  | [], L, k => rfl
  | a :: zs, L, k => by
    rw [List.cons_append, putAt, putAt_snoc z zs, putAt, List.length_cons]
    congr 1
    omega
theorem must_eq {word : BL} {n : Nat} {x : RdM} {l ls : List BL} {b' : Bool} (h : (nextL word n x.lines = some (l, ls) ∧ b' = x.bad) ∨ (nextL word n x.lines = none ∧ l = List.replicate n [] ∧ ls = x.lines ∧ b' = true)) : mustR word n x = (l, { x with lines := ls, bad := b' }) := by
  unfold mustR
  rw [next_of]
  rcases h with ⟨h, rfl⟩ | ⟨h, rfl, rfl, rfl⟩
  · rw [h]
    rfl
  · rw [h]
    simp [RdM.mark]
/-- A state of the reader while rows are read. -/
abbrev stS (r0 : RulesM) (t0 : List BL) (L : List BL) (ss : List Int) (b : Bool) : RdM := ⟨L, { r0 with start := ss }, t0, b⟩
theorem rowsL_succ (r0 : RulesM) (t0 L : List BL) (ss : List Int) (b : Bool) (y : Nat) {s : BL} {ls : List BL} {b' : Bool} (h : mustR wRow 1 (stS r0 t0 L ss b) = ([s], stS r0 t0 ls ss b')) : rowsL (y + 1) (stS r0 t0 L ss b) = if (s.length : Int) = r0.width then rowsL y (stS r0 t0 ls (putAt ss (y * r0.width.toNat) (s.map (cellV r0.pieces))) (b' || s.any (cellBad r0.pieces))) else stS r0 t0 ls ss true := by
  rw [rowsL, h]
  simp only [List.getD_cons_zero, RdM.mark, Bool.or_true]
  rfl
/-- What lies in memory while a method of the reader grows or fills a row of its own. -/
structure RMem (w : World) (g : Nat) (cs : Array Value) (A0 : Option Addr) (L : List BL) (B : Option Addr) (d : Nat) (e : TypeId) (sz : Nat) (sv : Value) (n : Nat) (xs : List Value) (W : World) : Prop where
  blk : Blk W g RT cs
  lin : LinesAt W g B d L
  low : ∀ a, B = some a → a.block < w.heap.size
  same : ∀ a b, A0 = some a → B = some b → b.block = a.block
  own : OwnR e sz w W sv n xs
  fr : Fr [g] w W
  l8 : ∀ s ∈ L, s.length ≤ 8192
section
variable {w : World} {g : Nat} {cs cs' : Array Value} {A0 : Option Addr} {L L' : List BL} {B B' : Option Addr} {d d' : Nat} {e : TypeId} {sz : Nat} {sv : Value} {n : Nat} {xs : List Value} {W W' : World}
theorem RMem.ext (h : RMem w g cs A0 L B d e sz sv n xs W) (x : Ext W W') : RMem w g cs A0 L B d e sz sv n xs W' := ⟨h.blk.ext x, h.lin.ext x, h.low, h.same, h.own.ext x, h.fr.ext x, h.l8⟩
theorem RMem.step (h : RMem w g cs A0 L B d e sz sv n xs W) (hk : W.grownBy W' (some g)) (hg : g < w.heap.size) (hb : Blk W' g RT cs') (hl : LinesAt W' g B' d' L') (hlow : ∀ a, B' = some a → ∃ a0, B = some a0 ∧ a.block = a0.block) (hL : ∀ s ∈ L', s ∈ L) : RMem w g cs' A0 L' B' d' e sz sv n xs W' := by
  have hf : Fr [g] W W' := Fr.of_grown hk (fun x e => by cases e; simp)
  refine ⟨hb, hl, fun a ha => ?_, fun a b ha hb => ?_, h.own.fr hf (fun x hx e => ?_), h.fr.trans hf, fun s hs => h.l8 s (hL s hs)⟩
  · obtain ⟨a0, h1, h2⟩ := hlow a ha
    rw [h2]
    exact h.low a0 h1
  · obtain ⟨a0, h1, h2⟩ := hlow b hb
    rw [h2]
    exact h.same a a0 ha h1
  · obtain rfl := List.mem_singleton.1 hx
    have := (h.own.lt x e).1
    omega
theorem RMem.mark (h : RMem w g cs A0 L B d e sz sv n xs W) (hk : W.grownBy W' (some g)) (hg : g < w.heap.size) (hb : Blk W' g RT cs') : RMem w g cs' A0 L B d e sz sv n xs W' :=
  h.step hk hg hb (h.lin.kept hk) (fun a ha => ⟨a, ha, rfl⟩) (fun s hs => hs)
/-- A store into the own row. -/
theorem RMem.put (h : RMem w g cs A0 L B d e sz sv n xs W) {sg j : Nat} (hv : sv.ownBlock = some sg) (hj : j < n * sz) (hg : g < w.heap.size) (u : Value) : RMem w g cs A0 L B d e sz sv n (xs.set j u) (W.setCell ⟨sg, j, none⟩ u) := by
  have hlt := h.own.lt sg hv
  have hf : Fr [sg] W (W.setCell ⟨sg, j, none⟩ u) := (Fr.refl _ _).set _ (.inl (by simp)) _
  obtain ⟨A, c, e1, o⟩ := h.own
  exact ⟨h.blk.fr hf (by simp; omega), lines_far (w := w) h.lin h.low hf (fun x hx => .inr (by rw [List.mem_singleton.1 hx]; exact hlt.1)), h.low, h.same, ⟨A, c, e1, own_put (e1 ▸ o) (e1 ▸ hv) hj u⟩, h.fr.set _ (.inr hlt.1) _, h.l8⟩
/-- The own row has grown and lies in the reader's cell i. -/
theorem RMem.grow (h : RMem w g cs A0 L B d e sz sv n xs W) {W1 : World} {v : Value} {i m : Nat} {ys : List Value} (o : OwnR e sz w W1 v m ys) (gr : W.grownBy W1 sv.ownBlock) (hg : g < w.heap.size) (hc : cs.setIfInBounds i v = cs') : RMem w g cs' A0 L B d e sz v m ys (W1.setCell ⟨g, i, none⟩ v) := by
  have hlt := h.own.lt
  have hf1 : Fr sv.ownBlock.toList W W1 := Fr.of_grown gr (fun x e => by simp [e])
  have hS1 : ∀ x ∈ sv.ownBlock.toList, w.heap.size ≤ x := fun x hx => (hlt x (by simpa using hx)).1
  have hf2 : Fr [g] W1 (W1.setCell ⟨g, i, none⟩ v) := (Fr.refl _ _).set _ (.inl (by simp)) v
  refine ⟨blk_put (h.blk.fr hf1 (fun hx => by have := hS1 _ hx; omega)) hc, lines_far (w := w) (lines_far (w := w) h.lin h.low hf1 (fun x hx => .inr (hS1 x hx))) h.low hf2 (fun x hx => .inl (by simpa using hx)), h.low, h.same, o.fr hf2 (fun x hx e => ?_), (h.fr.own gr (fun x e => (hlt x e).1)).set _ (.inl (by simp)) v, h.l8⟩
  obtain rfl := List.mem_singleton.1 hx
  have := (o.lt x e).1
  omega
theorem RMem.cellAt {sg cap : Nat} (h : RMem w g cs A0 L B d e sz (.slice (some ⟨sg, 0, none⟩) n cap) n xs W) (j : Nat) (hj : j < n * sz) : W.cell? ⟨sg, j, none⟩ = xs[j]? ∧ W.frozen? ⟨sg, j, none⟩ = false := by
  obtain ⟨A, c, e1, o⟩ := h.own
  injection e1 with e1 e2 e3
  subst e1 e3
  exact ⟨o.cellAt j hj, o.frozenAt j⟩
end
end Go.Proofs.YtdoibgmmijhlfaaDoor
