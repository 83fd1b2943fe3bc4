/- Walk: place.Begin. Walk: plays. -/
import Derived.Test.YtdoibgmmijhlfaaAppend
import Derived.Test.YtdoibgmmijhlfaaMirror
import Derived.Test.YtdoibgmmijhlfaaNear
import Derived.Test.YtdoibgmmijhlfaaRegionK
import Derived.Deep.RegionHeld3
import Derived.Deep.AppendLies
import Derived.Deep.DrawnRows
import Derived.Test.YtdoibgmmijhlfaaGAfter
import Derived.Test.YtdoibgmmijhlfaaGSamples
import Derived.Test.YtdoibgmmijhlfaaGLibB
import Derived.Deep.DeepCutAuto
namespace Go.Proofs.Ytdoibgmmijhlfaa
open Go.ChangeShapes Go.WideShapes Go.ChangeAt Go.RowKit Go.Shelf
set_option linter.unusedVariables false
set_option linter.unusedSimpArgs false
/-- The position at the beginning. -/
def beginP (R : RulesM) : PosM := { cells := R.start, hand0 := R.pieces.map (·.hand), hand1 := R.pieces.map (·.hand), turn := 0, quiet := 0 }
def BeginPost (w : World) (P : PosM) (e : Ending) (w' : World) : Prop := ∃ v', e = .returned (.tuple #[v', .int .i64 0]) ∧ PosAt w' v' P ∧ Ext w w'
/-- Two rows of integers that grow in one region, whatever the order. -/
structure Two (w0 Wb W : World) (v0 u0 v u : Value) (xs ys : List Int) : Prop where
  base : w0.heap.size ≤ Wb.heap.size
  below : Below w0.heap.size Wb W
  size : Wb.heap.size ≤ W.heap.size
  keep : ∀ g, g < Wb.heap.size → v0.ownBlock ≠ some g → u0.ownBlock ≠ some g → W.heap[g]? = Wb.heap[g]?
  one : OwnI w0 W v xs
  two : OwnI w0 W u ys
  apart : ∀ g, v.ownBlock = some g → u.ownBlock ≠ some g
  lt1 : ∀ g, v.ownBlock = some g → g < W.heap.size
  lt2 : ∀ g, u.ownBlock = some g → g < W.heap.size
  old1 : v.ownBlock = v0.ownBlock ∨ ∀ g, v.ownBlock = some g → Wb.heap.size ≤ g
  old2 : u.ownBlock = u0.ownBlock ∨ ∀ g, u.ownBlock = some g → Wb.heap.size ≤ g
def Built (W : World) (v u : Value) (H : Nat) (z : Int) : Prop := W.cell? ⟨H, 0, none⟩ = some (.int .i64 z) ∧ H < W.heap.size ∧ v.ownBlock ≠ some H ∧ u.ownBlock ≠ some H
section
variable {w0 Wb W : World} {v0 u0 v u : Value} {xs ys : List Int}
theorem Two.drew (h : Two w0 Wb W v0 u0 v u xs ys) : Two w0 Wb W.drew v0 u0 v u xs ys :=
  ⟨h.base, Below.drew h.below, h.size, h.keep, h.one, h.two, h.apart, h.lt1, h.lt2, h.old1, h.old2⟩
theorem Two.alloc (h : Two w0 Wb W v0 u0 v u xs ys) (o : Obj) : Two w0 Wb (W.alloc o) v0 u0 v u xs ys := by
  have x := ext_alloc (Below.refl W.heap.size W) o
  have hsz := h.size
  have hb := h.base
  have hsize : (W.alloc o).heap.size = W.heap.size + 1 := by simp
  exact ⟨hb, Below.alloc h.below (by omega) o, by omega, fun g hg a b => (x.block g (by omega)).trans (h.keep g hg a b), h.one.ext x, h.two.ext x, h.apart, fun g hg => by have := h.lt1 g hg; omega, fun g hg => by have := h.lt2 g hg; omega, h.old1, h.old2⟩
theorem Built.new (h : Two w0 Wb W v0 u0 v u xs ys) (z : Int) (H : Nat) (hH : W.heap.size = H) (T : TypeId) : Built (W.alloc (.cells #[.int .i64 z] T)) v u H z := by
  subst hH
  have hsize : (W.alloc (.cells #[.int .i64 z] T)).heap.size = W.heap.size + 1 := by simp
  exact ⟨new_cell W _ _ 0, by omega, fun e => by have := h.lt1 _ e; omega, fun e => by have := h.lt2 _ e; omega⟩
theorem Built.alloc {H : Nat} {z : Int} (h : Built W v u H z) (o : Obj) : Built (W.alloc o) v u H z := by
  have x := ext_alloc (Below.refl W.heap.size W) o
  have hsize : (W.alloc o).heap.size = W.heap.size + 1 := by simp
  exact ⟨x.cell h.1, by have := h.2.1; omega, h.2.2⟩
theorem Built.drew {H : Nat} {z : Int} (h : Built W v u H z) : Built W.drew v u H z := h
theorem OwnI.bd {w0 w : World} {v : Value} {xs : List Int} (h : OwnI w0 w v xs) : ∀ g, v.ownBlock = some g → w0.heap.size ≤ g ∧ g < w.heap.size := by
  intro g hg
  obtain ⟨A, c, rfl, h⟩ := h
  exact h.lt g hg
theorem OwnI.set {w0 w : World} {v : Value} {xs : List Int} (h : OwnI w0 w v xs) {p : Addr} (hp : v.ownBlock ≠ some p.block) (u : Value) : OwnI w0 (w.setCell p u) v xs := by
  obtain ⟨A, c, rfl, h⟩ := h
  exact ⟨A, c, rfl, own_set h hp u⟩
theorem OwnI.cap {w0 w : World} {A : Option Addr} {n c : Nat} {xs : List Int} (h : OwnI w0 w (.slice A n c) xs) : xs.length ≤ c := by
  obtain ⟨A', c', e, h⟩ := h
  have := own_cap h
  injection e with _ _ e3
  omega
theorem ints_far {w : World} {A : Option Addr} {zs : List Int} (h : IntsAt w A zs) {p : Addr} (hp : ∀ b o, A = some ⟨b, o, none⟩ → b ≠ p.block) (u : Value) : IntsAt (w.setCell p u) A zs := fun i hi => by
  obtain ⟨b, o, e, hc⟩ := h i hi
  refine ⟨b, o, e, ?_⟩
  rw [World.cell?_of_block (a := ⟨b, o + i, none⟩) (Below.heap_setCell w p u b (hp b o e))]
  exact hc
theorem own_from_base {w : World} {base : Nat} {e : TypeId} {size n c : Nat} {A : Option Addr} {xs : List Value} (h : w.ownsRow base e size (.slice A n c) n xs) : ∀ b o, A = some ⟨b, o, none⟩ → base ≤ b := by
  rintro b o rfl
  rcases h.2 with ⟨e1, _⟩ | ⟨g, cap, cur, e1, hb, _⟩
  · simp at e1
  · injection e1 with e1
    simp only [Option.some.injEq, Addr.mk.injEq] at e1
    omega
theorem held_alloc {W : World} {b c : Addr} {y z : Value} (h : W.cell? b = some y ∧ W.cell? c = some z) (o : Obj) : (W.alloc o).cell? b = some y ∧ (W.alloc o).cell? c = some z :=
  ⟨Ext.cell (ext_alloc (Below.refl _ _) _) h.1, Ext.cell (ext_alloc (Below.refl _ _) _) h.2⟩
theorem Built.swap {H : Nat} {z : Int} (h : Built W v u H z) : Built W u v H z := ⟨h.1, h.2.1, h.2.2.2, h.2.2.1⟩
theorem Two.blk (h : Two w0 Wb W v0 u0 v u xs ys) {g : Nat} {t : TypeId} {cs : Array Value} (k : Blk Wb g t cs) (h1 : v0.ownBlock ≠ some g) (h2 : u0.ownBlock ≠ some g) : Blk W g t cs := (h.keep g k.lt h1 h2).trans k
theorem Two.swap (h : Two w0 Wb W v0 u0 v u xs ys) : Two w0 Wb W u0 v0 u v ys xs :=
  ⟨h.base, h.below, h.size, fun g hg a b => h.keep g hg b a, h.two, h.one, fun g hg e => h.apart g e hg, h.lt2, h.lt1, h.old2, h.old1⟩
end
theorem step_two {ops : Array Oper} {o : Oper} {a : Act} {K : Act → World → Prop} {Q : Exit → Act → World → Prop} {E : Prop} (hgd : o.guard = none) (s x : Operand)
    (ho : o.op = .call { callee := .builtin .append, args := #[s, x], argTypes := #[23, 23] }) (w0 Wb W : World) (v0 u0 v u : Value) (xs ys : List Int) (z : Int) (H : Nat)
    (hs : a.eval s = v) (hx : a.eval x = .slice (some ⟨H, 0, none⟩) 1 1) (hT : Two w0 Wb W v0 u0 v u xs ys) (hB : Built W v u H z) (hlen : xs.length ≤ 1000000)
    (h : ∀ g cap w', Two w0 Wb w' v0 u0 (.slice (some ⟨g, 0, none⟩) (xs.length + 1) cap) u (xs ++ [z]) ys → (∀ H' z', Built W v u H' z' → Built w' (.slice (some ⟨g, 0, none⟩) (xs.length + 1) cap) u H' z') → K (a.put o.dst (.slice (some ⟨g, 0, none⟩) (xs.length + 1) cap)) w') :
    if Region.wanted o (yielded ops a.tmps) = true then Oper.wp Try.prog o a W K Q else E := by
  obtain ⟨A, c, rfl, hown⟩ := hT.one
  obtain ⟨i0, hi, hz0, hz1, hz2⟩ := info_parts intInfo
  have hb := hT.base
  have hsz := hT.size
  have hnews : ∀ j u, [Value.int .i64 z][j]? = some u → W.cell? ((⟨H, 0, none⟩ : Addr).add j) = some u := by
    intro j u hj
    have h0 : j = 0 := by have := (List.getElem?_eq_some_iff.1 hj).1; simpa using this
    subst h0
    rw [add_lit]
    simp only [List.getElem?_cons_zero, Option.some.injEq] at hj
    rw [← hj]
    exact hB.1
  refine step_append_lies W hgd s x 23 ho w0.heap.size 3 i0 (.int .i64 0) 1 8 Try.underlying23 hi hz0 hz1 hz2 rfl (by decide) _ xs.length (xs.map (Value.int .i64)) hs hown ⟨H, 0, none⟩ 1 1 [.int .i64 z] hx rfl hnews (by simp [Value.oneCell']) (by omega) (by simp only [maxLen]; omega) (by omega) (by omega) W.heap.size rfl ?_
  intro g cap w' hown' hgrow hat hlt
  have hgs := hgrow.size
  refine h g cap w' ⟨hb, ?_, by omega, ?_, ?_, ?_, ?_, ?_, ?_, ?_, hT.old2⟩ ?_
  · exact Below.grown hT.below hgrow (by omega) (own_row hown)
  · intro k hk a b
    rw [hgrow.block k (by omega) ?_]
    · exact hT.keep k hk a b
    · intro e
      rcases hT.old1 with h1 | h1
      · rw [h1] at e; exact a e.symm
      · have := h1 k e.symm; omega
  · exact ⟨some ⟨g, 0, none⟩, cap, by simp, by simpa using hown'⟩
  · obtain ⟨A', c', e', own'⟩ := hT.two
    refine ⟨A', c', e', own'.1, ?_⟩
    rcases own'.2 with hn | ⟨g', cap', cur', e2, hb', hg', rest⟩
    · exact .inl hn
    · refine .inr ⟨g', cap', cur', e2, hb', ?_, rest⟩
      have hu : u.ownBlock = some g' := by rw [e', e2]; rfl
      rw [hgrow.block g' (hT.lt2 g' hu) ?_]
      · exact hg'
      · intro e; exact hT.apart g' e.symm hu
  · intro k hk hu
    have hk' : g = k := by simpa [Value.ownBlock] using hk
    subst hk'
    rcases hat with e | e
    · exact hT.apart g e hu
    · have := hT.lt2 g hu; omega
  · intro k hk
    have hk' : g = k := by simpa [Value.ownBlock] using hk
    omega
  · intro k hk; have := hT.lt2 k hk; omega
  · rcases hat with e | e
    · rcases hT.old1 with h1 | h1
      · left; rw [← h1, e]; rfl
      · right
        intro k hk
        have hk' : g = k := by simpa [Value.ownBlock] using hk
        subst hk'
        exact h1 g e
    · right
      intro k hk
      have hk' : g = k := by simpa [Value.ownBlock] using hk
      omega
  · rintro H' z' ⟨b1, b2, b3, b4⟩
    refine ⟨?_, by omega, ?_, b4⟩
    · rw [World.cell?_of_block (a := ⟨H', 0, none⟩) (hgrow.block H' b2 (fun e => b3 e.symm))]
      exact b1
    · intro hk
      have hk' : g = H' := by simpa [Value.ownBlock] using hk
      subst hk'
      rcases hat with e | e
      · exact b3 e
      · omega
attribute [local go_sem ↓] Go.wp_at_zero Go.wp_at_succ
end Go.Proofs.Ytdoibgmmijhlfaa
namespace Go.Proofs.Ytdoibgmmijhlfaa
open Go.ChangeShapes Go.WideShapes Go.ChangeAt Go.RowKit Go.Shelf
set_option linter.unusedVariables false
def begR : PosM := { cells := [0, 0, 0, 0, 0, 0, 0, 0, 0], hand0 := [5], hand1 := [5], turn := 0, quiet := 0 }
theorem begin_three : beginP threeR = begR := rfl
theorem sound_begin {R : RulesM} (hV : Valid R) : Sound R (beginP R) := by
  refine ⟨hV.area, by simp [beginP], by simp [beginP], hV.start, ?_, ?_, .inl rfl, by show (0 : Int) ≤ 0 ∧ (0 : Int) ≤ 200; omega⟩
  all_goals
    intro c hc
    obtain ⟨p, hp, rfl⟩ := List.mem_map.1 hc
    have := (piece_facts hV.piece hp).2.1
    omega
theorem put4_in : (⟨-1, 4, 0⟩ : MoveM) ∈ listM threeR begR := by decide +kernel
theorem put9_not : ¬ (⟨-1, 9, 0⟩ : MoveM) ∈ listM threeR begR := by decide +kernel
theorem beg_len : (listM threeR begR).length = 9 := by decide +kernel
theorem beg_last : (listM threeR begR)[8]? = some ⟨-1, 8, 0⟩ := by decide +kernel
def playQ : PosM := { cells := [0, 0, 0, 0, 1, 0, 0, 0, 0], hand0 := [4], hand1 := [5], turn := 1, quiet := 0 }
theorem beg_made : makeM threeR begR ⟨-1, 4, 0⟩ = playQ := by rfl
/-- A variable that holds a position. -/
def PosVar (wb W : World) (s : Value) (Q : PosM) : Prop := ∃ B cA cc aA ac bA bc, s = .pointer (some ⟨B, 0, none⟩) ∧ Blk W B 29 #[.slice cA Q.cells.length cc, .slice aA Q.hand0.length ac, .slice bA Q.hand1.length bc, .int .i64 Q.turn, .int .i64 Q.quiet] ∧
  PosAt W (.agg #[.slice cA Q.cells.length cc, .slice aA Q.hand0.length ac, .slice bA Q.hand1.length bc, .int .i64 Q.turn, .int .i64 Q.quiet]) Q ∧ Ext wb W
theorem ints_far' {w : World} {A : Option Addr} {zs : List Int} (h : IntsAt w A zs) {p : Addr} (hp : ∀ b o, A = some ⟨b, o, none⟩ → b ≠ p.block) (u : Value) : IntsAt (w.setCell p u) A zs := fun i hi => by
  obtain ⟨b, o, e, hc⟩ := h i hi
  refine ⟨b, o, e, ?_⟩
  rw [World.cell?_of_block (a := ⟨b, o + i, none⟩) (Below.heap_setCell w p u b (hp b o e))]
  exact hc
theorem ext_set5 {wb W : World} {B : Nat} {u0 u1 u2 u3 u4 : Value} (hx : Ext wb W) (hb : wb.heap.size ≤ B) : Ext wb (((((W.setCell ⟨B, 0, none⟩ u0).setCell ⟨B, 1, none⟩ u1).setCell ⟨B, 2, none⟩ u2).setCell ⟨B, 3, none⟩ u3).setCell ⟨B, 4, none⟩ u4) :=
  ext_set (ext_set (ext_set (ext_set (ext_set hx hb _) hb _) hb _) hb _) hb _
theorem posVar_new {wb W : World} {u0 u1 u2 u3 u4 : Value} {Q : PosM} (hx : Ext wb W) (hp : PosAt W (.agg #[u0, u1, u2, u3, u4]) Q) : PosVar wb (W.alloc (.cells #[u0, u1, u2, u3, u4] 29)) (.pointer (some ⟨W.heap.size, 0, none⟩)) Q := by
  have x := ext_alloc (Below.refl W.heap.size W) (.cells #[u0, u1, u2, u3, u4] 29)
  have hp' := hp.ext x
  obtain ⟨cA, cc, aA, ac, bA, bc, e, -⟩ := hp
  simp only [Value.agg.injEq, Array.mk.injEq, List.cons.injEq, and_true] at e
  obtain ⟨rfl, rfl, rfl, rfl, rfl⟩ := e
  exact ⟨_, cA, cc, aA, ac, bA, bc, rfl, Blk.new _ _ _, hp', ext_trans hx x⟩
theorem posVar_set {wb W : World} {B N : Nat} {o0 o1 o2 o3 o4 u0 u1 u2 u3 u4 : Value} {Q : PosM} (kk : Blk W B 29 #[o0, o1, o2, o3, o4]) (hb : wb.heap.size ≤ B) (hx : Ext wb W) (ho : PosOwn W N (.agg #[u0, u1, u2, u3, u4]) Q) (hN : B < N) :
    PosVar wb (((((W.setCell ⟨B, 0, none⟩ u0).setCell ⟨B, 1, none⟩ u1).setCell ⟨B, 2, none⟩ u2).setCell ⟨B, 3, none⟩ u3).setCell ⟨B, 4, none⟩ u4) (.pointer (some ⟨B, 0, none⟩)) Q := by
  obtain ⟨g0, c0, g1, c1, g2, c2, e, b0, b1, b2, r0, r1, r2, m⟩ := ho
  simp only [Value.agg.injEq, Array.mk.injEq, List.cons.injEq, and_true] at e
  obtain ⟨rfl, rfl, rfl, rfl, rfl⟩ := e
  have K := blk_set5 kk (u0 := .slice (some ⟨g0, 0, none⟩) Q.cells.length c0) (u1 := .slice (some ⟨g1, 0, none⟩) Q.hand0.length c1) (u2 := .slice (some ⟨g2, 0, none⟩) Q.hand1.length c2) (u3 := .int .i64 Q.turn) (u4 := .int .i64 Q.quiet)
  refine ⟨B, _, c0, _, c1, _, c2, rfl, K, ⟨_, c0, _, c1, _, c2, rfl, ?_, ?_, ?_, m⟩, (ext_set (ext_set (ext_set (ext_set (ext_set hx (p := ⟨B, 0, none⟩) hb (.slice (some ⟨g0, 0, none⟩) Q.cells.length c0)) (p := ⟨B, 1, none⟩) hb (.slice (some ⟨g1, 0, none⟩) Q.hand0.length c1)) (p := ⟨B, 2, none⟩) hb (.slice (some ⟨g2, 0, none⟩) Q.hand1.length c2)) (p := ⟨B, 3, none⟩) hb (.int .i64 Q.turn)) (p := ⟨B, 4, none⟩) hb (.int .i64 Q.quiet))⟩
  · exact (IRow.ints (IRow.far (IRow.far (IRow.far (IRow.far (IRow.far r0 (p := ⟨B, 0, none⟩) (by show g0 ≠ B; omega) (.slice (some ⟨g0, 0, none⟩) Q.cells.length c0)) (p := ⟨B, 1, none⟩) (by show g0 ≠ B; omega) (.slice (some ⟨g1, 0, none⟩) Q.hand0.length c1)) (p := ⟨B, 2, none⟩) (by show g0 ≠ B; omega) (.slice (some ⟨g2, 0, none⟩) Q.hand1.length c2)) (p := ⟨B, 3, none⟩) (by show g0 ≠ B; omega) (.int .i64 Q.turn)) (p := ⟨B, 4, none⟩) (by show g0 ≠ B; omega) (.int .i64 Q.quiet)))
  · exact (IRow.ints (IRow.far (IRow.far (IRow.far (IRow.far (IRow.far r1 (p := ⟨B, 0, none⟩) (by show g1 ≠ B; omega) (.slice (some ⟨g0, 0, none⟩) Q.cells.length c0)) (p := ⟨B, 1, none⟩) (by show g1 ≠ B; omega) (.slice (some ⟨g1, 0, none⟩) Q.hand0.length c1)) (p := ⟨B, 2, none⟩) (by show g1 ≠ B; omega) (.slice (some ⟨g2, 0, none⟩) Q.hand1.length c2)) (p := ⟨B, 3, none⟩) (by show g1 ≠ B; omega) (.int .i64 Q.turn)) (p := ⟨B, 4, none⟩) (by show g1 ≠ B; omega) (.int .i64 Q.quiet)))
  · exact (IRow.ints (IRow.far (IRow.far (IRow.far (IRow.far (IRow.far r2 (p := ⟨B, 0, none⟩) (by show g2 ≠ B; omega) (.slice (some ⟨g0, 0, none⟩) Q.cells.length c0)) (p := ⟨B, 1, none⟩) (by show g2 ≠ B; omega) (.slice (some ⟨g1, 0, none⟩) Q.hand0.length c1)) (p := ⟨B, 2, none⟩) (by show g2 ≠ B; omega) (.slice (some ⟨g2, 0, none⟩) Q.hand1.length c2)) (p := ⟨B, 3, none⟩) (by show g2 ≠ B; omega) (.int .i64 Q.turn)) (p := ⟨B, 4, none⟩) (by show g2 ≠ B; omega) (.int .i64 Q.quiet)))
end Go.Proofs.Ytdoibgmmijhlfaa
