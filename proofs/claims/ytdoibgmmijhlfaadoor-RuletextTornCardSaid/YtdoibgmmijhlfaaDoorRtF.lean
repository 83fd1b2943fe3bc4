/- Frames: worlds in which only some blocks have changed. -/
import Derived.Test.YtdoibgmmijhlfaaDoorRtW4
namespace Go.Proofs.YtdoibgmmijhlfaaDoor
open Go.RowKit
set_option linter.unusedVariables false
/-- Only the blocks S may have changed. -/
structure Fr (S : List Nat) (w w' : World) : Prop where
  os : w'.os = w.os
  tape : w'.tape = w.tape
  output : w'.output = w.output
  size : w.heap.size ≤ w'.heap.size
  block : ∀ k, k < w.heap.size → k ∉ S → w'.heap[k]? = w.heap[k]?
theorem Fr.refl (S : List Nat) (w : World) : Fr S w w := ⟨rfl, rfl, rfl, Nat.le_refl _, fun _ _ _ => rfl⟩
theorem Fr.trans {S : List Nat} {a b c : World} (h : Fr S a b) (k : Fr S b c) : Fr S a c := ⟨k.os.trans h.os, k.tape.trans h.tape, k.output.trans h.output, Nat.le_trans h.size k.size, fun i hi hr => (k.block i (Nat.lt_of_lt_of_le hi h.size) hr).trans (h.block i hi hr)⟩
theorem Fr.of_ext {S : List Nat} {a b : World} (x : Ext a b) : Fr S a b := ⟨x.os, x.tape, x.output, x.size, fun k hk _ => x.block k hk⟩
theorem Fr.ext {S : List Nat} {a b c : World} (h : Fr S a b) (x : Ext b c) : Fr S a c := h.trans (.of_ext x)
theorem Fr.of_grown {S : List Nat} {a b : World} {r : Option Nat} (k : a.grownBy b r) (hr : ∀ x, r = some x → x ∈ S) : Fr S a b := ⟨k.os, k.tape, k.output, k.size, fun i hi hn => k.block i hi (fun e => hn (hr i e.symm))⟩
theorem Fr.grown {S : List Nat} {a b c : World} {g : Nat} (h : Fr S a b) (k : b.grownBy c (some g)) (hg : g ∈ S) : Fr S a c := h.trans (.of_grown k (fun x e => by cases e; exact hg))
theorem Fr.toGrown {a b : World} {g : Nat} (h : Fr [g] a b) : a.grownBy b (some g) := ⟨h.os, h.tape, h.output, h.size, fun k hk hn => h.block k hk (fun e => hn (by rw [List.mem_singleton.1 e]))⟩
theorem Fr.own {S : List Nat} {a b c : World} {r : Option Nat} (h : Fr S a b) (k : b.grownBy c r) (hr : ∀ x, r = some x → a.heap.size ≤ x) : Fr S a c := ⟨k.os.trans h.os, k.tape.trans h.tape, k.output.trans h.output, Nat.le_trans h.size k.size, fun i hi hn => (k.block i (Nat.lt_of_lt_of_le hi h.size) (fun e => by have := hr i e.symm; omega)).trans (h.block i hi hn)⟩
theorem Fr.set {S : List Nat} {a b : World} (h : Fr S a b) (p : Addr) (hp : p.block ∈ S ∨ a.heap.size ≤ p.block) (u : Value) : Fr S a (b.setCell p u) := ⟨h.os, h.tape, h.output, by have := h.size; simpa using this, fun k hk hn => (Below.heap_setCell b p u k (fun e => by rcases hp with hp | hp; (· exact hn (e ▸ hp)); (· omega))).trans (h.block k hk hn)⟩
theorem Fr.weak {S S' : List Nat} {a b : World} (h : Fr S a b) (hs : ∀ x ∈ S, x ∈ S') : Fr S' a b := ⟨h.os, h.tape, h.output, h.size, fun k hk hn => h.block k hk (fun e => hn (hs k e))⟩
/-- What is new for a may change. -/
theorem Fr.down {S S' : List Nat} {a b c : World} (h : Fr S a b) (k : Fr S' b c) (hs : ∀ x ∈ S', x ∈ S ∨ a.heap.size ≤ x) : Fr S a c := ⟨k.os.trans h.os, k.tape.trans h.tape, k.output.trans h.output, Nat.le_trans h.size k.size, fun i hi hn => (k.block i (Nat.lt_of_lt_of_le hi h.size) (fun e => by rcases hs i e with h1 | h1; (· exact hn h1); (· omega))).trans (h.block i hi hn)⟩
section
variable {S : List Nat} {w w' : World}
theorem Blk.fr {g : Nat} {t : TypeId} {cs : Array Value} (h : Blk w g t cs) (k : Fr S w w') (hg : g ∉ S) : Blk w' g t cs := (k.block g (Blk.lt h) hg).trans h
theorem cells_fr {A : Option Addr} {vs : List Value} (h : CellsAt w A vs) (k : Fr S w w') (hA : ∀ a, A = some a → a.block ∉ S) : CellsAt w' A vs := fun i v hi => by
  obtain ⟨b, o, rfl, hc⟩ := h i v hi
  refine ⟨b, o, rfl, ?_⟩
  rw [World.cell?_of_block (a := ⟨b, o + i, none⟩) (k.block b (lt_of_cell hc) (hA _ rfl))]
  exact hc
theorem lines_fr {g c : Nat} {A : Option Addr} {L : List BL} (h : LinesAt w g A c L) (k : Fr S w w') (hA : ∀ a, A = some a → a.block ∉ S) : LinesAt w' g A c L := ⟨cells_fr h.1 k hA, h.2⟩
theorem own_fr {base : Nat} {e : TypeId} {size n : Nat} {v : Value} {xs : List Value} (h : w.ownsRow base e size v n xs) (k : Fr S w w') (hS : ∀ x ∈ S, v.ownBlock ≠ some x) : w'.ownsRow base e size v n xs := by
  refine ⟨h.1, ?_⟩
  have hlt := h.lt
  rcases h.2 with hn | ⟨g, cap, cur, rfl, hb, hgg, rest⟩
  · exact .inl hn
  · exact .inr ⟨g, cap, cur, rfl, hb, (k.block g (hlt g rfl).2 (fun e => hS g e rfl)).trans hgg, rest⟩
theorem OwnR.fr {e : TypeId} {sz n : Nat} {w0 : World} {v : Value} {cs : List Value} (h : OwnR e sz w0 w v n cs) (k : Fr S w w') (hS : ∀ x ∈ S, v.ownBlock ≠ some x) : OwnR e sz w0 w' v n cs := by
  obtain ⟨A, c, rfl, h⟩ := h
  exact ⟨A, c, rfl, own_fr h k hS⟩
theorem OwnR.lt {e : TypeId} {sz n : Nat} {w0 : World} {v : Value} {cs : List Value} (h : OwnR e sz w0 w v n cs) : ∀ k, v.ownBlock = some k → w0.heap.size ≤ k ∧ k < w.heap.size := by
  obtain ⟨A, c, rfl, h⟩ := h
  exact h.lt
theorem LibW.fr (h : LibW w) (k : Fr S w w') (hS : ∀ x ∈ S, 4 ≤ x) : LibW w' := by
  have hb : ∀ i, i < 4 → i < w.heap.size → w'.heap[i]? = w.heap[i]? := fun i hi hlt => k.block i hlt (fun e => by have := hS i e; omega)
  refine ⟨?_, ?_, ?_, ?_⟩
  · obtain ⟨m, hm⟩ := h.max
    exact ⟨m, (World.cell?_of_block (hb _ (by decide) (lt_of_cell hm))).trans hm⟩
  · obtain ⟨ev, h1, h2⟩ := h.syn
    exact ⟨ev, (World.cell?_of_block (hb _ (by decide) (lt_of_cell h1))).trans h1, h2⟩
  · obtain ⟨ev, h1, h2⟩ := h.rng
    exact ⟨ev, (World.cell?_of_block (hb _ (by decide) (lt_of_cell h1))).trans h1, h2⟩
  · have ht := h.tab
    have hc := ht.cell gPow 0 (by decide)
    have hlt := lt_of_cell hc
    unfold Lib.TabIs World.var? at ht ⊢
    rw [gPow] at ht ⊢
    simp only [Option.bind_some] at ht ⊢
    rw [hb 3 (by decide) hlt]
    exact ht
end
/-- Appending one to an own row, whatever else has changed since its base. -/
theorem oper_append_f {e : TypeId} {sz : Nat} {o : Oper} {a : Act} {K : Act → World → Prop} {Q : Exit → Act → World → Prop} (s x : Operand) (S : TypeId)
    (ho : o.op = .call { callee := .builtin .append, args := #[s, x], argTypes := #[S, S] }) (bytes : Nat) (z : Value) (hS : Tryd.prog.underlying S = some (.slice e))
    (hinfo : (Tryd.prog.info? e).map (fun i => (i.zero, i.size, i.bytes)) = some (some z, sz, bytes)) (hzs : z.cells.size = sz) (hsz0 : 0 < sz) (hby : bytes ≤ 1000)
    (w0 w : World) (v : Value) (n : Nat) (cs news : List Value) (hs : a.eval s = v) (hown : OwnR e sz w0 w v n cs) (hx : a.eval x = .slice (some ⟨w.heap.size, 0, none⟩) 1 1) (hl : news.length = sz) (h1 : ∀ u ∈ news, u.oneCell' = true)
    (hext : w0.heap.size ≤ w.heap.size) (hlen : n ≤ 1000000) (h : ∀ v' w', OwnR e sz w0 w' v' (n + 1) (cs ++ news) → w.grownBy w' v.ownBlock → K (a.put o.dst v') w') :
    Oper.wp Tryd.prog o a (w.alloc (.cells news.toArray e)) K Q := by
  obtain ⟨A, c, rfl, hown⟩ := hown
  obtain ⟨i0, hi, hz0, hz1, hz2⟩ := info_parts hinfo
  obtain ⟨v', w', hrun, h2, h3⟩ := run_append_cells (P := Tryd.prog) _ w0.heap.size S o.type e i0 z sz bytes hS hi hz0 hz1 hz2 hzs hsz0 _ n cs (own_ext hown (ext_alloc (Below.refl _ _) _)) (some ⟨w.heap.size, 0, none⟩) 1 1 news (by rw [hl, Nat.one_mul]) (cellsAt_new w e news) h1 (by simp only [maxLen]; omega) (by
    have : (n + 1) * bytes ≤ 1000001 * 1000 := Nat.mul_le_mul (by omega) hby
    omega) (by simp; omega) (by simp)
  unfold Oper.wp execOp
  simp only [ho, resolve, invoke, builtin, Sem.run_bind, Sem.run_pure, Result.andThen_ok, List.map_toArray, List.map_cons, List.map_nil, hs, hx, hrun]
  obtain ⟨A', c', rfl, _, _⟩ := own_shape h2
  refine h _ w' ⟨A', c', rfl, h2⟩ ?_
  exact ⟨h3.os, h3.tape, h3.output, by have := h3.size; simp at this; omega, fun b hb hn => by
    rw [h3.block b (by simp; omega) hn]
    exact Below.heap_alloc w _ b hb⟩
theorem infoPieceR : (Tryd.prog.info? 64).map (fun i => (i.zero, i.size, i.bytes)) = some (some (.agg #[.int .u8 0, .int .i64 0, .int .i64 0, .slice none 0 0]), 4, 48) := by kernel_rfl
theorem infoWayR : (Tryd.prog.info? 67).map (fun i => (i.zero, i.size, i.bytes)) = some (some (.agg #[.int .i64 0, .int .i64 0, .int .i64 0, .int .i64 0]), 4, 32) := by kernel_rfl
theorem infoEndR : (Tryd.prog.info? 73).map (fun i => (i.zero, i.size, i.bytes)) = some (some (.agg #[.int .i64 0, .int .i64 0, .int .i64 0, .bool false]), 4, 32) := by kernel_rfl
/-- A store into an own row. -/
theorem own_put {w : World} {base : Nat} {e : TypeId} {size n : Nat} {v : Value} {xs : List Value} (h : w.ownsRow base e size v n xs) {g j : Nat} (hv : v.ownBlock = some g) (hj : j < n * size) (u : Value) : (w.setCell ⟨g, j, none⟩ u).ownsRow base e size v n (xs.set j u) := by
  refine ⟨by rw [List.length_set]; exact h.1, ?_⟩
  rcases h.2 with ⟨rfl, -⟩ | ⟨g', cap, cur, rfl, hb, hgg, h1, h2, h3, h4⟩
  · cases hv
  · obtain rfl : g' = g := by injection hv
    refine .inr ⟨g', cap, cur.setIfInBounds j u, rfl, hb, Blk.set_ hgg j u, h1, h2, by simpa using h3, ?_⟩
    apply List.ext_getElem?
    intro k
    rw [← h4]
    simp only [Array.toList_setIfInBounds, List.getElem?_take, List.getElem?_set, List.length_take, Array.length_toList]
    split
    · split
      · split <;> split <;> first | rfl | omega
      · rfl
    · split
      · split <;> first | rfl | omega
      · rfl
/-- The cells of a piece whose ways are the call's own. -/
def WaysOwn (w : World) (base : Nat) (p : PieceM) (l : List Value) : Prop :=
  ∃ A c, l = [.int .u8 p.letter, .int .i64 p.hand, .int .i64 p.promote, .slice A p.ways.length c] ∧ w.ownsRow base 67 4 (.slice A p.ways.length c) p.ways.length (p.ways.flatMap WayM.vals)
/-- An own row of pieces with ways of their own. -/
def PRow (w : World) (base : Nat) (v : Value) (ps : List PieceM) : Prop :=
  ∃ vss : List (List Value), w.ownsRow base 64 4 v ps.length vss.flatten ∧ vss.length = ps.length ∧ ∀ (i : Nat) (p : PieceM) (l : List Value), ps[i]? = some p → vss[i]? = some l → WaysOwn w base p l
theorem PRow.nil (w : World) (base : Nat) : PRow w base (.slice none 0 0) [] := ⟨[], World.ownsRow_nil _ _ _ _, rfl, fun i p l h => by simp at h⟩
section
variable {S : List Nat} {w w' : World} {base : Nat} {v : Value} {ps : List PieceM}
theorem PRow.shape (h : PRow w base v ps) : ∃ A c, v = .slice A ps.length c ∧ PiecesAt w A ps ∧ ps.length ≤ c ∧ (A = none → ps.length = 0) ∧ ∀ a, A = some a → base ≤ a.block ∧ a.block < w.heap.size := by
  obtain ⟨vss, ho, hl, hw⟩ := h
  obtain ⟨A, c, rfl, h0, hc⟩ := own_shape ho
  exact ⟨A, c, rfl, ⟨vss, hc, hl, fun i p l a b => by
    obtain ⟨A', c', e, ho'⟩ := hw i p l a b
    exact ⟨A', c', e, (own_cells ho').1⟩⟩, own_cap ho, h0, fun a ha => by
    subst ha
    exact ho.lt a.block rfl⟩
theorem PRow.fr (h : PRow w base v ps) (f : Fr S w w') (hS : ∀ x ∈ S, v.ownBlock ≠ some x ∧ (x < base ∨ w.heap.size ≤ x ∨ ∃ t cs, Blk w x t cs ∧ 67 ≠ t)) : PRow w' base v ps := by
  obtain ⟨vss, ho, hl, hw⟩ := h
  refine ⟨vss, own_fr ho f (fun x hx => (hS x hx).1), hl, fun i p l a b => ?_⟩
  obtain ⟨A', c', e, o⟩ := hw i p l a b
  refine ⟨A', c', e, own_fr o f fun x hx e => ?_⟩
  rcases (hS x hx).2 with h1 | h1 | ⟨t, cs, h1, h2⟩
  · have := (o.lt x e).1; omega
  · have := (o.lt x e).2; omega
  · exact own_blk_ne o h1 h2 e
theorem PRow.ext (h : PRow w base v ps) (x : Ext w w') : PRow w' base v ps := h.fr (S := []) (.of_ext x) (fun x hx => by cases hx)
/-- Another own row, of another type, has grown. -/
theorem PRow.other {e : TypeId} {sz n : Nat} {u : Value} {xs : List Value} {b : Nat} (h : PRow w base v ps) (g : w.grownBy w' u.ownBlock) (o : w.ownsRow b e sz u n xs) (h1 : 64 ≠ e) (h2 : 67 ≠ e) : PRow w' base v ps := by
  obtain ⟨vss, ho, hl, hw⟩ := h
  exact ⟨vss, ho.kept g (own_ne ho o h1), hl, fun i p l a b => by
    obtain ⟨A', c', e, ho'⟩ := hw i p l a b
    exact ⟨A', c', e, ho'.kept g (own_ne ho' o h2)⟩⟩
theorem PRow.lt (h : PRow w base v ps) : ∀ k, v.ownBlock = some k → base ≤ k ∧ k < w.heap.size := by
  obtain ⟨vss, ho, hl, hw⟩ := h
  exact ho.lt
theorem get_snoc {α : Type} {l : List α} {a b : α} {i : Nat} (h : (l ++ [a])[i]? = some b) : l[i]? = some b ∨ (i = l.length ∧ b = a) := by
  rw [List.getElem?_append] at h
  split at h
  · exact .inl h
  · rename_i hi
    obtain ⟨k, hk⟩ : ∃ k, k = i - l.length := ⟨_, rfl⟩
    rw [← hk] at h
    match k, h with
    | 0, h => exact .inr ⟨by omega, by simpa using h.symm⟩
    | k + 1, h => simp at h
theorem PRow.snoc {w0 : World} {vss : List (List Value)} {l : List Value} {p : PieceM} {v' : Value} (h : w.ownsRow base 64 4 v ps.length vss.flatten) (hl : vss.length = ps.length) (hw : ∀ (i : Nat) (p : PieceM) (l : List Value), ps[i]? = some p → vss[i]? = some l → WaysOwn w base p l)
    (g : w.grownBy w' v.ownBlock) (hp : WaysOwn w base p l) (ho : w'.ownsRow base 64 4 v' (ps.length + 1) (vss.flatten ++ l)) : PRow w' base v' (ps ++ [p]) := by
  have hk : ∀ {p : PieceM} {l : List Value}, WaysOwn w base p l → WaysOwn w' base p l := fun ⟨A, c, e, o⟩ => ⟨A, c, e, o.kept g (own_ne o h (by decide))⟩
  refine ⟨vss ++ [l], by rw [List.length_append]; simpa using ho, by simp [hl], fun i q m a b => ?_⟩
  rcases get_snoc a with a | ⟨a1, rfl⟩
  · rcases get_snoc b with b | ⟨b1, -⟩
    · exact hk (hw i q m a b)
    · have := (List.getElem?_eq_some_iff.1 a).1; omega
  · rcases get_snoc b with b | ⟨-, rfl⟩
    · have := (List.getElem?_eq_some_iff.1 b).1; omega
    · exact hk hp
theorem flat_set4 (j : Nat) (u : Value) (hj : j < 4) : ∀ (vss : List (List Value)) (i : Nat) (l : List Value), (∀ l ∈ vss, l.length = 4) → vss[i]? = some l → vss.flatten.set (i * 4 + j) u = (vss.set i (l.set j u)).flatten
  | [], i, l, _, h => by simp at h
  | a :: vss, 0, l, ha, h => by
    obtain rfl : a = l := by simpa using h
    rw [List.flatten_cons, List.set_cons_zero, List.flatten_cons, Nat.zero_mul, Nat.zero_add, List.set_append_left _ _ (by rw [ha a (by simp)]; exact hj)]
  | a :: vss, i + 1, l, ha, h => by
    have h4 := ha a (by simp)
    rw [List.flatten_cons, List.set_cons_succ, List.flatten_cons, List.set_append_right _ _ (by omega), h4, show (i + 1) * 4 + j - 4 = i * 4 + j by omega, flat_set4 j u hj vss i l (fun x hx => ha x (by simp [hx])) (by simpa using h)]
theorem PRow.promote (h : PRow w base v ps) {g i : Nat} (hv : v.ownBlock = some g) (hi : i < ps.length) (z : Int) : PRow (w.setCell ⟨g, i * 4 + 2, none⟩ (.int .i64 z)) base v (ps.modify i fun p => { p with promote := z }) := by
  obtain ⟨vss, ho, hl, hw⟩ := h
  obtain ⟨l, hl2⟩ : ∃ l, vss[i]? = some l := ⟨_, List.getElem?_eq_getElem (by omega)⟩
  have h4 : ∀ l ∈ vss, l.length = 4 := fun l hl3 => by
    obtain ⟨k, hk⟩ := List.getElem?_of_mem hl3
    have hkl : k < ps.length := by have := (List.getElem?_eq_some_iff.1 hk).1; omega
    obtain ⟨A, c, rfl, -⟩ := hw k ps[k] l (List.getElem?_eq_getElem hkl) hk
    rfl
  have hp := own_put ho hv (show i * 4 + 2 < ps.length * 4 by omega) (.int .i64 z)
  rw [flat_set4 2 _ (by decide) vss i l h4 hl2] at hp
  have hk : ∀ {p : PieceM} {l : List Value}, WaysOwn w base p l → WaysOwn (w.setCell ⟨g, i * 4 + 2, none⟩ (.int .i64 z)) base p l := fun ⟨A, c, e, o⟩ => ⟨A, c, e, own_set o (p := ⟨g, i * 4 + 2, none⟩) (by
    rcases own_ne o ho (by decide) with h | h
    · rw [h]; intro h; cases h
    · rw [← hv]; exact h) _⟩
  refine ⟨vss.set i (l.set 2 (.int .i64 z)), by rw [List.length_modify]; exact hp, by simp [hl], fun k p m a b => ?_⟩
  rw [List.getElem?_modify] at a
  by_cases hik : i = k
  · subst hik
    rw [List.getElem?_set_self (by omega)] at b
    injection b with b
    subst b
    rw [List.getElem?_eq_getElem hi] at a
    simp only [if_true, Option.map_eq_map, Option.map_some, Option.some.injEq] at a
    subst a
    obtain ⟨A, c, rfl, o⟩ := hk (hw i _ l (List.getElem?_eq_getElem hi) hl2)
    exact ⟨A, c, rfl, o⟩
  · rw [List.getElem?_set_ne hik] at b
    exact hk (hw k p m (by simpa [hik] using a) b)
end
end Go.Proofs.YtdoibgmmijhlfaaDoor
