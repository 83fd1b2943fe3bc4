/- Walk: grow. Walk: step. -/
import Derived.Test.YtdoibgmmijhlfaaGWalkA
namespace Go.Proofs.Ytdoibgmmijhlfaa
open Go.ChangeShapes Go.WideShapes Go.ChangeAt Go.RowKit Go.Shelf
set_option linter.unusedVariables false
set_option linter.unusedSimpArgs false
/-- A fresh node in memory. -/
def LeafW (W : World) (b : Nat) (P : PosM) : Prop := ∃ c0 c1 c2 c3 c4, Blk W b 86 #[c0, c1, c2, c3, c4, .int .i64 0, .int .i64 0, .slice none 0 0] ∧ PosI W (.agg #[c0, c1, c2, c3, c4]) P
theorem LeafW.ext {w W : World} {b : Nat} {P : PosM} (h : LeafW w b P) (x : Ext w W) : LeafW W b P := by
  obtain ⟨c0, c1, c2, c3, c4, h1, h2⟩ := h
  exact ⟨c0, c1, c2, c3, c4, h1.ext x, h2.ext x⟩
theorem LeafW.tfr {w W : World} {b : Nat} {P : PosM} (h : LeafW w b P) (f : TFr [83] w W) : LeafW W b P := by
  obtain ⟨c0, c1, c2, c3, c4, h1, h2⟩ := h
  exact ⟨c0, c1, c2, c3, c4, f _ _ _ h1 (by decide), h2.tfr (by decide) f⟩
theorem LeafW.far7 {w : World} {b B : Nat} {P : PosM} (h : LeafW w b P) (hne : b ≠ B) {u : Value} (f : TFr [86] w (w.setCell ⟨B, 7, none⟩ u)) (u' : Value) (hu : u = u' := by rfl) : LeafW (w.setCell ⟨B, 7, none⟩ u') b P := by
  subst hu
  obtain ⟨c0, c1, c2, c3, c4, h1, h2⟩ := h
  exact ⟨c0, c1, c2, c3, c4, h1.far (p := ⟨B, 7, none⟩) hne _, h2.tfr (by decide) f⟩
theorem LeafW.lt {w : World} {b : Nat} {P : PosM} (h : LeafW w b P) : b < w.heap.size := by
  obtain ⟨c0, c1, c2, c3, c4, h1, -⟩ := h
  exact h1.lt
theorem LeafW.tree {w0 w : World} {n b : Nat} {P : PosM} {S : Nat → Prop} (h : LeafW w b P) (hb : w0.heap.size ≤ b) (hS : ∀ q, S q ↔ q = b) : TreeW w0 (n + 1) w b (freshW P) S := by
  obtain ⟨c0, c1, c2, c3, c4, h1, h2⟩ := h
  exact ⟨c0, c1, c2, c3, c4, none, 0, [], fun _ _ => False, h1, .inr h2, World.ownsRow_nil _ _ _ _, fun _ => ⟨rfl, rfl⟩, hb, rfl, fun i k b hi => by simp [freshW, NT.kids] at hi, fun i hi => by simp [freshW, NT.kids] at hi, fun i j hi => by simp [freshW, NT.kids] at hi,
    fun q => (hS q).trans ⟨.inl, fun h => h.elim id (fun ⟨i, hi, _⟩ => by simp [freshW, NT.kids] at hi)⟩⟩
theorem grow_tree {w0 w wl wr : World} {B n c : Nat} {R : RulesM} {x y : Int} {ex : Bool} {P : PosM} {L : List MoveM} {bs : List Nat} {A : Option Addr} {S : Nat → Prop} {c0 c1 c2 c3 c4 : Value} {cs : Array Value}
    (hL : listM R P = L) (K9 : Blk wr B 86 #[c0, c1, c2, c3, c4, .int .i64 x, .int .i64 y, .slice A L.length c]) (H2 : PosS w0 wr (.agg #[c0, c1, c2, c3, c4]) P)
    (OO : wr.ownsRow wl.heap.size 83 1 (.slice A L.length c) L.length (bs.map ptrV)) (hN : L.length = 0 → A = none ∧ c = 0) (hbl : bs.length = L.length)
    (HLF : ∀ (i : Nat) (mv : MoveM) (b : Nat), L[i]? = some mv → bs[i]? = some b → wl.heap.size ≤ b ∧ LeafW wr b (makeM R P mv))
    (hND : ∀ (i j b : Nat), bs[i]? = some b → bs[j]? = some b → i = j) (GG : Gr B wl wr) (X : Ext w wl) (KW : Blk w B 86 cs) (X0L : Ext w0 wl) (H5 : w0.heap.size ≤ B) (H10 : ∀ b, S b ↔ b = B) (XF : Ext w0 wr) :
    ∃ S', TreeW w0 (n + 1 + 1) wr B (.node P x y ex (kidsW R P)) S' ∧ (∀ b, S' b → S b ∨ w.heap.size ≤ b) ∧ MFr 86 S w wr ∧ Ext w0 wr ∧ w.heap.size ≤ wr.heap.size := by
  have hS : S B := (H10 B).2 rfl
  have hkl : (kidsW R P).length = L.length := by rw [kidsW_len, hL]
  have hBl := KW.lt
  have hwl := X.size
  have hwr := GG.size
  have hleaf : ∀ (i : Nat) (q : NT) (b : Nat), (kidsW R P)[i]? = some q → bs[i]? = some b → ∃ mv, L[i]? = some mv ∧ q = freshW (makeM R P mv) := fun i q b h1 h2 => by
    obtain ⟨m, hm, e⟩ := kidsW_get h1
    exact ⟨m, by rw [← hL]; exact hm, e⟩
  generalize kidsW R P = ks at *
  refine ⟨fun b => b = B ∨ ∃ i, i < ks.length ∧ bs[i]? = some b, ⟨c0, c1, c2, c3, c4, A, c, bs, fun i b => bs[i]? = some b, ?_, H2, ?_, fun h => ?_, H5, ?_, fun i k b h1 h2 => ?_, fun i hi h => ?_, fun i j hi hj hne b h1 h2 => hne (hND i j b h1 h2), fun b => Iff.rfl⟩, ?_, (MFr.of_ext X).trans (MFr.of_gr GG (KW.ext X) hS), XF, by omega⟩
  · show Blk wr B 86 #[c0, c1, c2, c3, c4, .int .i64 x, .int .i64 y, .slice A ks.length c]
    rw [hkl]; exact K9
  · show wr.ownsRow w0.heap.size 83 1 (.slice A ks.length c) ks.length (bs.map ptrV)
    rw [hkl]; exact own_mono OO X0L.size
  · exact hN (by rw [← hkl, show ks = [] from h]; rfl)
  · exact hbl.trans hkl.symm
  · obtain ⟨mv, hmv, rfl⟩ := hleaf i k b h1 h2
    obtain ⟨hb, hl⟩ := HLF i mv b hmv h2
    exact hl.tree (by have := X0L.size; omega) (fun q => ⟨fun h => by replace h : bs[i]? = some q := h; rw [h2] at h; exact (Option.some.inj h).symm, fun h => by rw [h]; exact h2⟩)
  · replace hi : i < ks.length := hi
    obtain ⟨q, b, h1, h2⟩ := kid_of (hbl.trans hkl.symm) hi
    obtain ⟨mv, hmv, -⟩ := hleaf i q b h1 h2
    have := (HLF i mv b hmv h2).1
    replace h : bs[i]? = some B := h
    rw [h2] at h
    cases h
    omega
  · rintro b (rfl | ⟨i, hi, h⟩)
    · exact .inl hS
    · obtain ⟨q, b', h1, h2⟩ := kid_of (hbl.trans hkl.symm) hi
      obtain ⟨mv, hmv, -⟩ := hleaf i q b' h1 h2
      have := (HLF i mv b' hmv h2).1
      rw [h2] at h
      cases h
      exact .inr (by omega)
def GrowPost (w0 w : World) (B n : Nat) (S : Nat → Prop) (t : NT) (e : Ending) (w' : World) : Prop :=
  e = .returned (.tuple #[]) ∧ ∃ S', TreeW w0 n w' B t S' ∧ (∀ b, S' b → S b ∨ w.heap.size ≤ b) ∧ MFr 86 S w w' ∧ Ext w0 w' ∧ w.heap.size ≤ w'.heap.size

theorem oper_append_wnodeInfo : (Try.prog.info? 83).map (fun i => (i.zero, i.size, i.bytes)) = some (some (.pointer none), 1, 8) := by kernel_rfl
set_option maxHeartbeats 1000000 in
theorem oper_append_wnode {o : Oper} {a : Act} {K : Act → World → Prop} {Q : Exit → Act → World → Prop} (s x : Operand)
    (ho : o.op = .call { callee := .builtin .append, args := #[s, x], argTypes := #[84, 84] }) (base : Nat) (w : World) (A : Option Addr) (n c : Nat) (xs : List Value) (b : Nat)
    (hs : a.eval s = .slice A n c) (hown : w.ownsRow base 83 1 (.slice A n c) n xs) (hx : a.eval x = .slice (some ⟨w.heap.size, 0, none⟩) 1 1)
    (hb : base ≤ w.heap.size) (hlen : n ≤ 1000000)
    (h : ∀ A' c' w', w'.ownsRow base 83 1 (.slice A' (n + 1) c') (n + 1) (xs ++ [ptrV b]) → w.grownBy w' (Value.slice A n c).ownBlock → TFr [83] w w' → K (a.put o.dst (.slice A' (n + 1) c')) w') :
    Oper.wp Try.prog o a (w.alloc (.cells #[.pointer (some ⟨b, 0, none⟩)] 83)) K Q := by
  obtain ⟨i0, hi, hz0, hz1, hz2⟩ := info_parts oper_append_wnodeInfo
  obtain ⟨v', w', hrun, h2, h3⟩ := run_append_cells (P := Try.prog) _ base 84 o.type 83 i0 (.pointer none) 1 8 Try.underlying84 hi hz0 hz1 hz2 rfl (by decide) _ n xs (own_ext hown (ext_alloc (Below.refl _ _) _)) (some ⟨w.heap.size, 0, none⟩) 1 1 [ptrV b] rfl (cellsAt_new w 83 [ptrV b]) (by simp [ptrV, Value.oneCell']) (by simp only [maxLen]; omega) (by omega) (by simp; omega) (by simp)
  unfold Oper.wp execOp
  simp only [ho, resolve, invoke, builtin, Sem.run_bind, Sem.run_pure, Result.andThen_ok, List.map_toArray, List.map_cons, List.map_nil, hs, hx, show #[Value.pointer (some ⟨b, 0, none⟩)] = [ptrV b].toArray from rfl, hrun]
  obtain ⟨A', c', rfl, _, _⟩ := own_shape h2
  have f : TFr [83] w w' := (TFr.of_ext (ext_alloc (Below.refl _ _) _)).trans (TFr.grown (own_ext hown (ext_alloc (Below.refl _ _) _)) (List.mem_singleton.2 rfl) h3)
  refine h A' c' w' h2 ?_ f
  exact ⟨h3.os, h3.tape, h3.output, by have := h3.size; simp at this; omega, fun b hb hn => by
    rw [h3.block b (by simp; omega) hn]
    exact Below.heap_alloc w _ b hb⟩

set_option maxHeartbeats 8000000 in
set_option maxRecDepth 100000 in
theorem grow_no {w0 w : World} {BX B n : Nat} {P : PosM} {x y : Int} {ex : Bool} {ks : List NT} {R : RulesM} {S : Nat → Prop} (x0 : Ext w0 w) (hT : TreeW w0 (n + 1) w B (.node P x y ex ks) S) (hk : ks ≠ []) :
    Calls Try.prog 36 #[.pointer (some ⟨BX, 0, none⟩), .pointer (some ⟨B, 0, none⟩)] w (GrowPost w0 w B (n + 1) S (growW R (.node P x y ex ks))) := by
  have hg : growW R (.node P x y ex ks) = .node P x y ex ks := if_neg hk
  have HT := hide hT
  have X0 := hide x0
  unfold GrowPost
  rw [hg]
  obtain ⟨c0, c1, c2, c3, c4, A, c, bs, Ss, h1, -, h3, -, -, h6, -⟩ := hT
  replace h1 : Blk w B 86 #[c0, c1, c2, c3, c4, .int .i64 x, .int .i64 y, .slice A ks.length c] := h1
  have hpos := List.length_pos_iff.2 hk
  obtain ⟨k0, b0, hk0, hb0⟩ := kid_of h6 hpos
  obtain ⟨gA, oA, rfl, -⟩ := (own_cells h3).1 0 (ptrV b0) (by rw [List.getElem?_map, hb0]; rfl)
  have f := h1.cell
  clear h1 h3 h6 hk0 hb0 x0 hg hk
  go_enter Try.func36, Try.ntmps36
  go_wp2
  refine bodyPost_ret (v := .tuple #[]) ?_ rfl ?_
  · simp [results, Try.results36, go_sem]
  exact ⟨rfl, S, HT.out, fun b h => .inl h, MFr.refl _ _ _, X0.out, Nat.le_refl _⟩
set_option maxHeartbeats 8000000 in
set_option maxRecDepth 100000 in
theorem grow_yes {w0 w : World} {BX BS B n m : Nat} {R : RulesM} {P : PosM} {x y : Int} {ex : Bool} {S : Nat → Prop} (hV : Valid R) (x0 : Ext w0 w) (hX : SamplerAt w0 w BX BS R) (hT : TreeW w0 (n + 1) w B (.node P x y ex []) S) (hS : Sound R P) :
    Calls Try.prog 36 #[.pointer (some ⟨BX, 0, none⟩), .pointer (some ⟨B, 0, none⟩)] w (GrowPost w0 w B (m + 1 + 1) S (growW R (.node P x y ex []))) := by
  have HE := hide (show growW R (.node P x y ex []) = .node P x y ex (kidsW R P) from if_pos rfl)
  obtain ⟨c0, c1, c2, c3, c4, A, c, bs0, Ss0, h1, h2, h3, h4, h5, h6, -, -, -, h10⟩ := hT
  obtain ⟨rfl, rfl⟩ := h4 rfl
  replace h1 : Blk w B 86 #[c0, c1, c2, c3, c4, .int .i64 x, .int .i64 y, .slice none 0 0] := h1
  replace h2 : PosS w0 w (.agg #[c0, c1, c2, c3, c4]) P := h2
  replace h10 : ∀ b, S b ↔ b = B := fun b => (h10 b).trans ⟨fun h => h.elim id (fun ⟨i, hi, _⟩ => by simp [NT.kids] at hi), .inl⟩
  have hP := h2.at_ x0
  obtain ⟨cA, cc, aA, ac, bA, bc, e, -⟩ := hP
  simp only [Value.agg.injEq, Array.mk.injEq, List.cons.injEq, and_true] at e
  obtain ⟨rfl, rfl, rfl, rfl, rfl⟩ := e
  have HLL := hide (listM_len hV hS)
  have HLI := hide (fun (W : World) (v u : Value) (h1 : RulesAt W v R) (h2 : PosAt W u P) => List_any R P v u W h1 h2 hV hS)
  have HMK := hide (fun (mv : MoveM) (hm : mv ∈ listM R P) (W : World) (v u : Value) (h1 : RulesAt W v R) (h2 : PosAt W u P) => Make_any R P mv v u W h1 h2 hV hS (mem_listM.1 hm))
  obtain ⟨L, hL⟩ : ∃ L, listM R P = L := ⟨_, rfl⟩
  have HL0 := hide hL
  rw [hL] at HLL HLI HMK
  clear hL
  have H1 := hide h1
  have H2 := hide h2
  have H5 := hide h5
  have H10 := hide h10
  have X0 := hide x0
  obtain ⟨pA, pc, sA, sc, eA, ec, hB, hR⟩ := hX
  have HB := hide hB
  have HR := hide hR
  have f := h1.cell
  clear h1 h2 h3 h4 h5 h6 h10 x0 hB hR hV hS
  go_enter Try.func36, Try.ntmps36
  go_upto_region 1 with fail
  have keepK := hide (fun W (h : Ext w W) => (show (fun W => W.cell? ⟨B, 0, none⟩ = some (.slice cA P.cells.length cc) ∧ W.cell? ⟨B, 1, none⟩ = some (.slice aA P.hand0.length ac) ∧ W.cell? ⟨B, 2, none⟩ = some (.slice bA P.hand1.length bc) ∧ W.cell? ⟨B, 3, none⟩ = some (.int .i64 P.turn) ∧ W.cell? ⟨B, 4, none⟩ = some (.int .i64 P.quiet) ∧ W.cell? ⟨B, 5, none⟩ = some (.int .i64 x) ∧ W.cell? ⟨B, 6, none⟩ = some (.int .i64 y) ∧ W.cell? ⟨B, 7, none⟩ = some (.slice none 0 0) ∧ W.cell? ⟨BX, 0, none⟩ = some (.string R.name) ∧ W.cell? ⟨BX, 1, none⟩ = some (.int .i64 R.width) ∧ W.cell? ⟨BX, 2, none⟩ = some (.int .i64 R.height) ∧ W.cell? ⟨BX, 3, none⟩ = some (.slice pA R.pieces.length pc) ∧ W.cell? ⟨BX, 4, none⟩ = some (.slice sA R.start.length sc) ∧ W.cell? ⟨BX, 5, none⟩ = some (.bool R.falls) ∧ W.cell? ⟨BX, 6, none⟩ = some (.bool R.keeps) ∧ W.cell? ⟨BX, 7, none⟩ = some (.slice eA R.ends.length ec) ∧ W.cell? ⟨BX, 8, none⟩ = some (.int .i64 R.blocked) ∧ W.cell? ⟨BX, 9, none⟩ = some (.int .i64 R.quiet) ∧ W.cell? ⟨BX, 10, none⟩ = some (.int .i64 R.rept) ∧ W.cell? ⟨BX, 11, none⟩ = some (.pointer (some ⟨BS, 0, none⟩)) ∧ Ext w W) W from ⟨(H1.out.ext h).cell 0, (H1.out.ext h).cell 1, (H1.out.ext h).cell 2, (H1.out.ext h).cell 3, (H1.out.ext h).cell 4, (H1.out.ext h).cell 5, (H1.out.ext h).cell 6, (H1.out.ext h).cell 7, (HB.out.ext h).cell 0, (HB.out.ext h).cell 1, (HB.out.ext h).cell 2, (HB.out.ext h).cell 3, (HB.out.ext h).cell 4, (HB.out.ext h).cell 5, (HB.out.ext h).cell 6, (HB.out.ext h).cell 7, (HB.out.ext h).cell 8, (HB.out.ext h).cell 9, (HB.out.ext h).cell 10, (HB.out.ext h).cell 11, h⟩))
  have yy : Ext w w.drew := Below.drew (Below.refl _ _)
  refine region_K (fun W => W.cell? ⟨B, 0, none⟩ = some (.slice cA P.cells.length cc) ∧ W.cell? ⟨B, 1, none⟩ = some (.slice aA P.hand0.length ac) ∧ W.cell? ⟨B, 2, none⟩ = some (.slice bA P.hand1.length bc) ∧ W.cell? ⟨B, 3, none⟩ = some (.int .i64 P.turn) ∧ W.cell? ⟨B, 4, none⟩ = some (.int .i64 P.quiet) ∧ W.cell? ⟨B, 5, none⟩ = some (.int .i64 x) ∧ W.cell? ⟨B, 6, none⟩ = some (.int .i64 y) ∧ W.cell? ⟨B, 7, none⟩ = some (.slice none 0 0) ∧ W.cell? ⟨BX, 0, none⟩ = some (.string R.name) ∧ W.cell? ⟨BX, 1, none⟩ = some (.int .i64 R.width) ∧ W.cell? ⟨BX, 2, none⟩ = some (.int .i64 R.height) ∧ W.cell? ⟨BX, 3, none⟩ = some (.slice pA R.pieces.length pc) ∧ W.cell? ⟨BX, 4, none⟩ = some (.slice sA R.start.length sc) ∧ W.cell? ⟨BX, 5, none⟩ = some (.bool R.falls) ∧ W.cell? ⟨BX, 6, none⟩ = some (.bool R.keeps) ∧ W.cell? ⟨BX, 7, none⟩ = some (.slice eA R.ends.length ec) ∧ W.cell? ⟨BX, 8, none⟩ = some (.int .i64 R.blocked) ∧ W.cell? ⟨BX, 9, none⟩ = some (.int .i64 R.quiet) ∧ W.cell? ⟨BX, 10, none⟩ = some (.int .i64 R.rept) ∧ W.cell? ⟨BX, 11, none⟩ = some (.pointer (some ⟨BS, 0, none⟩)) ∧ Ext w W) (fun _ => True) [] (by kernel_rfl) ?_
  have hT0 := keepK.out _ yy
  refine anyK_take 0 (oi := ?oo1) ?ho1 (by kernel_rfl) (by kernel_rfl) (by kernel_rfl) (by kernel_rfl) ?hq1 ?hw1 hT0 (fun _ => trivial) (v := ?vv1) ?hy1 ?hk1
  case ho1 => (simp only [List.getElem?_toArray, List.getElem?_cons_succ, List.getElem?_cons_zero]; rfl)
  case hq1 => exact fun _ _ _ h => h
  case hw1 => rfl
  case hy1 =>
    intro W hW
    go_simp
    first | done | with_reducible rfl
  case hk1 =>
  try simp only [Act.put, List.setIfInBounds_toArray, List.set_cons_zero, List.set_cons_succ]
  refine anyK_take 1 (oi := ?oo2) ?ho2 (by kernel_rfl) (by kernel_rfl) (by kernel_rfl) (by kernel_rfl) ?hq2 ?hw2 hT0 (fun _ => trivial) (v := ?vv2) ?hy2 ?hk2
  case ho2 => (simp only [List.getElem?_toArray, List.getElem?_cons_succ, List.getElem?_cons_zero]; rfl)
  case hq2 => exact fun _ _ _ h => h
  case hw2 => rfl
  case hy2 =>
    intro W hW
    go_simp
    first | done | with_reducible rfl
  case hk2 =>
  try simp only [Act.put, List.setIfInBounds_toArray, List.set_cons_zero, List.set_cons_succ]
  refine anyK_take 2 (oi := ?oo3) ?ho3 (by kernel_rfl) (by kernel_rfl) (by kernel_rfl) (by kernel_rfl) ?hq3 ?hw3 hT0 (fun _ => trivial) (v := ?vv3) ?hy3 ?hk3
  case ho3 => (simp only [List.getElem?_toArray, List.getElem?_cons_succ, List.getElem?_cons_zero]; rfl)
  case hq3 => exact fun _ _ _ h => h
  case hw3 => rfl
  case hy3 =>
    intro W hW
    go_simp
    first | done | with_reducible rfl
  case hk3 =>
  try simp only [Act.put, List.setIfInBounds_toArray, List.set_cons_zero, List.set_cons_succ]
  refine anyK_take 3 (oi := ?oo4) ?ho4 (by kernel_rfl) (by kernel_rfl) (by kernel_rfl) (by kernel_rfl) ?hq4 ?hw4 hT0 (fun _ => trivial) (v := ?vv4) ?hy4 ?hk4
  case ho4 => (simp only [List.getElem?_toArray, List.getElem?_cons_succ, List.getElem?_cons_zero]; rfl)
  case hq4 => exact fun _ _ _ h => h
  case hw4 => rfl
  case hy4 =>
    intro W hW
    obtain ⟨z0, z1, z2, z3, z4, z5, z6, z7, z8, z9, z10, z11, z12, z13, z14, z15, z16, z17, z18, z19, z20⟩ := hW
    go_simp
    first | done | with_reducible rfl
  case hk4 =>
  try simp only [Act.put, List.setIfInBounds_toArray, List.set_cons_zero, List.set_cons_succ]
  refine anyK_take 4 (oi := ?oo5) ?ho5 (by kernel_rfl) (by kernel_rfl) (by kernel_rfl) (by kernel_rfl) ?hq5 ?hw5 hT0 (fun _ => trivial) (v := ?vv5) ?hy5 ?hk5
  case ho5 => (simp only [List.getElem?_toArray, List.getElem?_cons_succ, List.getElem?_cons_zero]; rfl)
  case hq5 => exact fun _ _ _ h => h
  case hw5 => rfl
  case hy5 =>
    intro W hW
    go_simp
    first | done | with_reducible rfl
  case hk5 =>
  try simp only [Act.put, List.setIfInBounds_toArray, List.set_cons_zero, List.set_cons_succ]
  refine anyK_take 5 (oi := ?oo6) ?ho6 (by kernel_rfl) (by kernel_rfl) (by kernel_rfl) (by kernel_rfl) ?hq6 ?hw6 hT0 (fun _ => trivial) (v := ?vv6) ?hy6 ?hk6
  case ho6 => (simp only [List.getElem?_toArray, List.getElem?_cons_succ, List.getElem?_cons_zero]; rfl)
  case hq6 => exact fun _ _ _ h => h
  case hw6 => rfl
  case hy6 =>
    intro W hW
    go_simp
    first | done | with_reducible rfl
  case hk6 =>
  try simp only [Act.put, List.setIfInBounds_toArray, List.set_cons_zero, List.set_cons_succ]
  refine anyK_take 6 (oi := ?oo7) ?ho7 (by kernel_rfl) (by kernel_rfl) (by kernel_rfl) (by kernel_rfl) ?hq7 ?hw7 hT0 (fun _ => trivial) (v := ?vv7) ?hy7 ?hk7
  case ho7 => (simp only [List.getElem?_toArray, List.getElem?_cons_succ, List.getElem?_cons_zero]; rfl)
  case hq7 => exact fun _ _ _ h => h
  case hw7 => rfl
  case hy7 =>
    intro W hW
    go_simp
    first | done | with_reducible rfl
  case hk7 =>
  try simp only [Act.put, List.setIfInBounds_toArray, List.set_cons_zero, List.set_cons_succ]
  refine anyK_take 7 (oi := ?oo8) ?ho8 (by kernel_rfl) (by kernel_rfl) (by kernel_rfl) (by kernel_rfl) ?hq8 ?hw8 hT0 (fun _ => trivial) (v := ?vv8) ?hy8 ?hk8
  case ho8 => (simp only [List.getElem?_toArray, List.getElem?_cons_succ, List.getElem?_cons_zero]; rfl)
  case hq8 => exact fun _ _ _ h => h
  case hw8 => rfl
  case hy8 =>
    intro W hW
    obtain ⟨z0, z1, z2, z3, z4, z5, z6, z7, z8, z9, z10, z11, z12, z13, z14, z15, z16, z17, z18, z19, z20⟩ := hW
    go_simp
    first | done | with_reducible rfl
  case hk8 =>
  try simp only [Act.put, List.setIfInBounds_toArray, List.set_cons_zero, List.set_cons_succ]
  refine anyK_take 10 (oi := ?oo9) ?ho9 (by kernel_rfl) (by kernel_rfl) (by kernel_rfl) (by kernel_rfl) ?hq9 ?hw9 hT0 (fun _ => trivial) (v := ?vv9) ?hy9 ?hk9
  case ho9 => (simp only [List.getElem?_toArray, List.getElem?_cons_succ, List.getElem?_cons_zero]; rfl)
  case hq9 => exact fun _ _ _ h => h
  case hw9 => rfl
  case hy9 =>
    intro W hW
    go_simp
    first | done | with_reducible rfl
  case hk9 =>
  try simp only [Act.put, List.setIfInBounds_toArray, List.set_cons_zero, List.set_cons_succ]
  refine anyK_on1 8 (by kernel_rfl) ?_
  refine anyK_one 8 (o := ?oo10) ?ho10 ?hk10
  case ho10 => (simp only [List.getElem?_toArray, List.getElem?_cons_succ, List.getElem?_cons_zero]; rfl)
  case hk10 =>
  intro K hK
  go_simp
  refine (HLI.out _ _ _ (HR.out.ext (ext_trans X0.out yy)) ((H2.out.at_ X0.out).ext yy)).mono ?_
  rintro e wl ⟨vl, rfl, hl, xx⟩
  try go_wp2_with fail
  replace yy := ext_trans yy xx
  have HLO := hide hl
  obtain ⟨lA, lc, rfl, -⟩ := hl
  have hT1 := keepK.out _ yy
  refine hK.out _ _ hT1 (fun _ => trivial) ?_
  clear hK K
  try simp only [Act.put, List.setIfInBounds_toArray, List.set_cons_zero, List.set_cons_succ]
  refine anyK_take 9 (oi := ?oo11) ?ho11 (by kernel_rfl) (by kernel_rfl) (by kernel_rfl) (by kernel_rfl) ?hq11 ?hw11 hT1 (fun _ => trivial) (v := ?vv11) ?hy11 ?hk11
  case ho11 => (simp only [List.getElem?_toArray, List.getElem?_cons_succ, List.getElem?_cons_zero]; rfl)
  case hq11 => exact fun _ _ _ h => h
  case hw11 => rfl
  case hy11 =>
    intro W hW
    go_simp
    first | done | with_reducible rfl
  case hk11 =>
  try simp only [Act.put, List.setIfInBounds_toArray, List.set_cons_zero, List.set_cons_succ]
  refine anyK_done (by kernel_rfl) ?_ _
  clear keepK hT0 hT1
  have KL := hide (H1.out.ext yy)
  have BXL := hide (HB.out.ext yy)
  have XWL := hide yy
  have X0L := hide (ext_trans X0.out yy)
  have H2L := hide (H2.out.tfr (ts := [86]) (by decide) (TFr.of_ext yy))
  have HBW : Hid (B < w.heap.size) := hide H1.out.lt
  have HBL : Hid (B < wl.heap.size) := hide KL.out.lt
  have HFM := hide (far_moves HLO.out HBW.out)
  clear yy xx HB f H2 HLI HLO HBW
  go_wp2
  go_loopw [21] (fun i wr => ∃ (k : Nat) (A : Option Addr) (c : Nat) (bs : List Nat), k ≤ L.length ∧ i = .int .i64 k ∧ Blk wr B 86 #[.slice cA P.cells.length cc, .slice aA P.hand0.length ac, .slice bA P.hand1.length bc, .int .i64 P.turn, .int .i64 P.quiet, .int .i64 x, .int .i64 y, .slice A k c] ∧ wr.ownsRow wl.heap.size 83 1 (.slice A k c) k (bs.map ptrV) ∧ Hid (k = 0 → A = none ∧ c = 0) ∧ Hid (bs.length = k) ∧
      Hid (∀ (i : Nat) (mv : MoveM) (b : Nat), L[i]? = some mv → bs[i]? = some b → wl.heap.size ≤ b ∧ LeafW wr b (makeM R P mv)) ∧ Hid (∀ (i j b : Nat), bs[i]? = some b → bs[j]? = some b → i = j) ∧ Gr B wl wr) (fun i _ => L.length - (intOf i).toNat)
  case atStart => exact ⟨0, none, 0, [], Nat.zero_le _, rfl, KL.out, World.ownsRow_nil _ _ _ _, hide (fun _ => ⟨rfl, rfl⟩), rfl, hide (fun i mv b _ h => by simp at h), hide (fun i j b h => by simp at h), Gr.refl _⟩
  case round =>
    obtain ⟨k, A, c, bs, hk, rfl, hK, hO, hN, hbl, hLF, hND, hG⟩ := hrel
    have KK := hide hK
    have OO := hide hO
    have GG := hide hG
    clear hK hO hG
    have hll := HLL.out
    have X0R := hide (Gr.to_ext GG.out X0L.out H5.out)
    have H2R := hide (H2L.out.mfr int_ne_twn (MFr.of_gr GG.out KL.out (S := S) ((H10.out B).2 rfl)))
    have BXR := hide (GG.out.blk BXL.out (blk_ne BXL.out KL.out (by decide)))
    by_cases hlt : k < L.length
    · obtain ⟨mv, hmv⟩ : ∃ mv, L[k]? = some mv := ⟨L[k], List.getElem?_eq_getElem _⟩
      have HMV := hide hmv
      have hmem := List.mem_of_getElem? hmv
      obtain ⟨lA', lc', e', hc'⟩ := HFM.out _ GG.out
      obtain ⟨b', o', rfl, m0, m1, m2⟩ := moves_get hc' hmv
      simp only [Value.slice.injEq] at e'
      obtain ⟨rfl, -, rfl⟩ := e'
      have HMK2 := hide (HMK.out mv hmem)
      have i0 : (0 : Int) ≤ (k : Int) := by omega
      have i1 : (k : Int) < (L.length : Int) := by omega
      clear hmv hmem hc' HMK
      go_upto_region 4 with fail
      obtain ⟨x5, k5⟩ := blks1 wr #[.int .i64 mv.src, .int .i64 mv.dst, .int .i64 mv.piece] 37
      have KM5 := hide k5
      have K5 := hide (KK.out.ext x5)
      have BX5 := hide (BXR.out.ext x5)
      have X05 := hide (ext_trans X0R.out x5)
      have H25 := hide (H2R.out.tfr (ts := [86]) (by decide) (TFr.of_ext x5))
      have HG5 := hide (GG.out.ext x5)
      have O5 := hide (own_ext OO.out x5)
      have HL5 := hide (fun (i : Nat) (mv : MoveM) (b : Nat) (h1 : L[i]? = some mv) (h2 : bs[i]? = some b) => (⟨(hLF.out i mv b h1 h2).1, (hLF.out i mv b h1 h2).2.ext x5⟩ : wl.heap.size ≤ b ∧ LeafW _ b (makeM R P mv)))
      clear x5 k5 m0 m1 m2 hLF
      generalize wr.alloc (.cells #[.int .i64 mv.src, .int .i64 mv.dst, .int .i64 mv.piece] 37) = w5 at *
      generalize wr.heap.size = BM at *
      clear KK OO GG X0R H2R BXR
      have zz : Ext w5 w5.drew := Below.drew (Below.refl _ _)
      have ss := K5.out.ext zz
      have keepK := hide (fun W (h : ∃ lv, Blk W B 86 #[.slice cA P.cells.length cc, .slice aA P.hand0.length ac, .slice bA P.hand1.length bc, .int .i64 P.turn, .int .i64 P.quiet, .int .i64 x, .int .i64 y, lv] ∧ Blk W BX 82 #[.string R.name, .int .i64 R.width, .int .i64 R.height, .slice pA R.pieces.length pc, .slice sA R.start.length sc, .bool R.falls, .bool R.keeps, .slice eA R.ends.length ec, .int .i64 R.blocked, .int .i64 R.quiet, .int .i64 R.rept, .pointer (some ⟨BS, 0, none⟩)] ∧ Blk W BM 37 #[.int .i64 mv.src, .int .i64 mv.dst, .int .i64 mv.piece]) => (show (fun W => W.cell? ⟨B, 0, none⟩ = some (.slice cA P.cells.length cc) ∧ W.cell? ⟨B, 1, none⟩ = some (.slice aA P.hand0.length ac) ∧ W.cell? ⟨B, 2, none⟩ = some (.slice bA P.hand1.length bc) ∧ W.cell? ⟨B, 3, none⟩ = some (.int .i64 P.turn) ∧ W.cell? ⟨B, 4, none⟩ = some (.int .i64 P.quiet) ∧ W.cell? ⟨B, 5, none⟩ = some (.int .i64 x) ∧ W.cell? ⟨B, 6, none⟩ = some (.int .i64 y) ∧ W.cell? ⟨BX, 0, none⟩ = some (.string R.name) ∧ W.cell? ⟨BX, 1, none⟩ = some (.int .i64 R.width) ∧ W.cell? ⟨BX, 2, none⟩ = some (.int .i64 R.height) ∧ W.cell? ⟨BX, 3, none⟩ = some (.slice pA R.pieces.length pc) ∧ W.cell? ⟨BX, 4, none⟩ = some (.slice sA R.start.length sc) ∧ W.cell? ⟨BX, 5, none⟩ = some (.bool R.falls) ∧ W.cell? ⟨BX, 6, none⟩ = some (.bool R.keeps) ∧ W.cell? ⟨BX, 7, none⟩ = some (.slice eA R.ends.length ec) ∧ W.cell? ⟨BX, 8, none⟩ = some (.int .i64 R.blocked) ∧ W.cell? ⟨BX, 9, none⟩ = some (.int .i64 R.quiet) ∧ W.cell? ⟨BX, 10, none⟩ = some (.int .i64 R.rept) ∧ W.cell? ⟨BM, 0, none⟩ = some (.int .i64 mv.src) ∧ W.cell? ⟨BM, 1, none⟩ = some (.int .i64 mv.dst) ∧ W.cell? ⟨BM, 2, none⟩ = some (.int .i64 mv.piece) ∧ ∃ lv, Blk W B 86 #[.slice cA P.cells.length cc, .slice aA P.hand0.length ac, .slice bA P.hand1.length bc, .int .i64 P.turn, .int .i64 P.quiet, .int .i64 x, .int .i64 y, lv] ∧ Blk W BX 82 #[.string R.name, .int .i64 R.width, .int .i64 R.height, .slice pA R.pieces.length pc, .slice sA R.start.length sc, .bool R.falls, .bool R.keeps, .slice eA R.ends.length ec, .int .i64 R.blocked, .int .i64 R.quiet, .int .i64 R.rept, .pointer (some ⟨BS, 0, none⟩)] ∧ Blk W BM 37 #[.int .i64 mv.src, .int .i64 mv.dst, .int .i64 mv.piece]) W from ⟨(match h with | ⟨_, hb, _, _⟩ => hb.cell 0), (match h with | ⟨_, hb, _, _⟩ => hb.cell 1), (match h with | ⟨_, hb, _, _⟩ => hb.cell 2), (match h with | ⟨_, hb, _, _⟩ => hb.cell 3), (match h with | ⟨_, hb, _, _⟩ => hb.cell 4), (match h with | ⟨_, hb, _, _⟩ => hb.cell 5), (match h with | ⟨_, hb, _, _⟩ => hb.cell 6), (match h with | ⟨_, _, hb, _⟩ => hb.cell 0), (match h with | ⟨_, _, hb, _⟩ => hb.cell 1), (match h with | ⟨_, _, hb, _⟩ => hb.cell 2), (match h with | ⟨_, _, hb, _⟩ => hb.cell 3), (match h with | ⟨_, _, hb, _⟩ => hb.cell 4), (match h with | ⟨_, _, hb, _⟩ => hb.cell 5), (match h with | ⟨_, _, hb, _⟩ => hb.cell 6), (match h with | ⟨_, _, hb, _⟩ => hb.cell 7), (match h with | ⟨_, _, hb, _⟩ => hb.cell 8), (match h with | ⟨_, _, hb, _⟩ => hb.cell 9), (match h with | ⟨_, _, hb, _⟩ => hb.cell 10), (match h with | ⟨_, _, _, hm⟩ => hm.cell 0), (match h with | ⟨_, _, _, hm⟩ => hm.cell 1), (match h with | ⟨_, _, _, hm⟩ => hm.cell 2), h⟩))
      have yy := (⟨_, K5.out.ext zz, BX5.out.ext zz, KM5.out.ext zz⟩ : (fun W => ∃ lv, Blk W B 86 #[.slice cA P.cells.length cc, .slice aA P.hand0.length ac, .slice bA P.hand1.length bc, .int .i64 P.turn, .int .i64 P.quiet, .int .i64 x, .int .i64 y, lv] ∧ Blk W BX 82 #[.string R.name, .int .i64 R.width, .int .i64 R.height, .slice pA R.pieces.length pc, .slice sA R.start.length sc, .bool R.falls, .bool R.keeps, .slice eA R.ends.length ec, .int .i64 R.blocked, .int .i64 R.quiet, .int .i64 R.rept, .pointer (some ⟨BS, 0, none⟩)] ∧ Blk W BM 37 #[.int .i64 mv.src, .int .i64 mv.dst, .int .i64 mv.piece]) w5.drew)
      refine region_K (fun W => W.cell? ⟨B, 0, none⟩ = some (.slice cA P.cells.length cc) ∧ W.cell? ⟨B, 1, none⟩ = some (.slice aA P.hand0.length ac) ∧ W.cell? ⟨B, 2, none⟩ = some (.slice bA P.hand1.length bc) ∧ W.cell? ⟨B, 3, none⟩ = some (.int .i64 P.turn) ∧ W.cell? ⟨B, 4, none⟩ = some (.int .i64 P.quiet) ∧ W.cell? ⟨B, 5, none⟩ = some (.int .i64 x) ∧ W.cell? ⟨B, 6, none⟩ = some (.int .i64 y) ∧ W.cell? ⟨BX, 0, none⟩ = some (.string R.name) ∧ W.cell? ⟨BX, 1, none⟩ = some (.int .i64 R.width) ∧ W.cell? ⟨BX, 2, none⟩ = some (.int .i64 R.height) ∧ W.cell? ⟨BX, 3, none⟩ = some (.slice pA R.pieces.length pc) ∧ W.cell? ⟨BX, 4, none⟩ = some (.slice sA R.start.length sc) ∧ W.cell? ⟨BX, 5, none⟩ = some (.bool R.falls) ∧ W.cell? ⟨BX, 6, none⟩ = some (.bool R.keeps) ∧ W.cell? ⟨BX, 7, none⟩ = some (.slice eA R.ends.length ec) ∧ W.cell? ⟨BX, 8, none⟩ = some (.int .i64 R.blocked) ∧ W.cell? ⟨BX, 9, none⟩ = some (.int .i64 R.quiet) ∧ W.cell? ⟨BX, 10, none⟩ = some (.int .i64 R.rept) ∧ W.cell? ⟨BM, 0, none⟩ = some (.int .i64 mv.src) ∧ W.cell? ⟨BM, 1, none⟩ = some (.int .i64 mv.dst) ∧ W.cell? ⟨BM, 2, none⟩ = some (.int .i64 mv.piece) ∧ ∃ lv, Blk W B 86 #[.slice cA P.cells.length cc, .slice aA P.hand0.length ac, .slice bA P.hand1.length bc, .int .i64 P.turn, .int .i64 P.quiet, .int .i64 x, .int .i64 y, lv] ∧ Blk W BX 82 #[.string R.name, .int .i64 R.width, .int .i64 R.height, .slice pA R.pieces.length pc, .slice sA R.start.length sc, .bool R.falls, .bool R.keeps, .slice eA R.ends.length ec, .int .i64 R.blocked, .int .i64 R.quiet, .int .i64 R.rept, .pointer (some ⟨BS, 0, none⟩)] ∧ Blk W BM 37 #[.int .i64 mv.src, .int .i64 mv.dst, .int .i64 mv.piece]) (fun W => W.cell? ⟨B, 7, none⟩ = some (.slice A k c)) [21] (by kernel_rfl) ?_
      have hS0 := ss.cell 7
      have hT0 := keepK.out _ yy
      refine anyK_take 0 (oi := ?oo12) ?ho12 (by kernel_rfl) (by kernel_rfl) (by kernel_rfl) (by kernel_rfl) ?hq12 ?hw12 hT0 (fun _ => hS0) (v := ?vv12) ?hy12 ?hk12
      case ho12 => (simp only [List.getElem?_toArray, List.getElem?_cons_succ, List.getElem?_cons_zero]; rfl)
      case hq12 => exact fun _ _ _ h => h
      case hw12 => rfl
      case hy12 =>
        intro W hW
        go_simp
        first | done | with_reducible rfl
      case hk12 =>
      try simp only [Act.put, List.setIfInBounds_toArray, List.set_cons_zero, List.set_cons_succ]
      refine anyK_take 1 (oi := ?oo13) ?ho13 (by kernel_rfl) (by kernel_rfl) (by kernel_rfl) (by kernel_rfl) ?hq13 ?hw13 hT0 (fun _ => hS0) (v := ?vv13) ?hy13 ?hk13
      case ho13 => (simp only [List.getElem?_toArray, List.getElem?_cons_succ, List.getElem?_cons_zero]; rfl)
      case hq13 => exact fun _ _ _ h => h
      case hw13 => rfl
      case hy13 =>
        intro W hW
        go_simp
        first | done | with_reducible rfl
      case hk13 =>
      try simp only [Act.put, List.setIfInBounds_toArray, List.set_cons_zero, List.set_cons_succ]
      refine anyK_take 2 (oi := ?oo14) ?ho14 (by kernel_rfl) (by kernel_rfl) (by kernel_rfl) (by kernel_rfl) ?hq14 ?hw14 hT0 (fun _ => hS0) (v := ?vv14) ?hy14 ?hk14
      case ho14 => (simp only [List.getElem?_toArray, List.getElem?_cons_succ, List.getElem?_cons_zero]; rfl)
      case hq14 => exact fun _ _ _ h => h
      case hw14 => rfl
      case hy14 =>
        intro W hW
        go_simp
        first | done | with_reducible rfl
      case hk14 =>
      try simp only [Act.put, List.setIfInBounds_toArray, List.set_cons_zero, List.set_cons_succ]
      refine anyK_take 3 (oi := ?oo15) ?ho15 (by kernel_rfl) (by kernel_rfl) (by kernel_rfl) (by kernel_rfl) ?hq15 ?hw15 hT0 (fun _ => hS0) (v := ?vv15) ?hy15 ?hk15
      case ho15 => (simp only [List.getElem?_toArray, List.getElem?_cons_succ, List.getElem?_cons_zero]; rfl)
      case hq15 => exact fun _ _ _ h => h
      case hw15 => rfl
      case hy15 =>
        intro W hW
        go_simp
        first | done | with_reducible rfl
      case hk15 =>
      try simp only [Act.put, List.setIfInBounds_toArray, List.set_cons_zero, List.set_cons_succ]
      refine anyK_load 4 (oi := ?oo16) ?ho16 (by kernel_rfl) (by kernel_rfl) (by kernel_rfl) (by kernel_rfl) (by kernel_rfl) (by kernel_rfl) ?hq16 ?hw16 hT0 hS0 (v := ?vv16) ?hy16 ?hk16
      case ho16 => (simp only [List.getElem?_toArray, List.getElem?_cons_succ, List.getElem?_cons_zero]; rfl)
      case hq16 => exact fun _ _ _ h => h
      case hw16 => rfl
      case hy16 =>
        intro W hW1 hW
        go_simp
        first | done | with_reducible rfl
      case hk16 =>
      try simp only [Act.put, List.setIfInBounds_toArray, List.set_cons_zero, List.set_cons_succ]
      refine anyK_take 5 (oi := ?oo17) ?ho17 (by kernel_rfl) (by kernel_rfl) (by kernel_rfl) (by kernel_rfl) ?hq17 ?hw17 hT0 (fun _ => hS0) (v := ?vv17) ?hy17 ?hk17
      case ho17 => (simp only [List.getElem?_toArray, List.getElem?_cons_succ, List.getElem?_cons_zero]; rfl)
      case hq17 => exact fun _ _ _ h => h
      case hw17 => rfl
      case hy17 =>
        intro W hW
        go_simp
        first | done | with_reducible rfl
      case hk17 =>
      try simp only [Act.put, List.setIfInBounds_toArray, List.set_cons_zero, List.set_cons_succ]
      refine anyK_take 6 (oi := ?oo18) ?ho18 (by kernel_rfl) (by kernel_rfl) (by kernel_rfl) (by kernel_rfl) ?hq18 ?hw18 hT0 (fun _ => hS0) (v := ?vv18) ?hy18 ?hk18
      case ho18 => (simp only [List.getElem?_toArray, List.getElem?_cons_succ, List.getElem?_cons_zero]; rfl)
      case hq18 => exact fun _ _ _ h => h
      case hw18 => rfl
      case hy18 =>
        intro W hW
        go_simp
        first | done | with_reducible rfl
      case hk18 =>
      try simp only [Act.put, List.setIfInBounds_toArray, List.set_cons_zero, List.set_cons_succ]
      refine anyK_take 7 (oi := ?oo19) ?ho19 (by kernel_rfl) (by kernel_rfl) (by kernel_rfl) (by kernel_rfl) ?hq19 ?hw19 hT0 (fun _ => hS0) (v := ?vv19) ?hy19 ?hk19
      case ho19 => (simp only [List.getElem?_toArray, List.getElem?_cons_succ, List.getElem?_cons_zero]; rfl)
      case hq19 => exact fun _ _ _ h => h
      case hw19 => rfl
      case hy19 =>
        intro W hW
        go_simp
        first | done | with_reducible rfl
      case hk19 =>
      try simp only [Act.put, List.setIfInBounds_toArray, List.set_cons_zero, List.set_cons_succ]
      refine anyK_take 8 (oi := ?oo20) ?ho20 (by kernel_rfl) (by kernel_rfl) (by kernel_rfl) (by kernel_rfl) ?hq20 ?hw20 hT0 (fun _ => hS0) (v := ?vv20) ?hy20 ?hk20
      case ho20 => (simp only [List.getElem?_toArray, List.getElem?_cons_succ, List.getElem?_cons_zero]; rfl)
      case hq20 => exact fun _ _ _ h => h
      case hw20 => rfl
      case hy20 =>
        intro W hW
        obtain ⟨z0, z1, z2, z3, z4, z5, z6, z7, z8, z9, z10, z11, z12, z13, z14, z15, z16, z17, z18, z19, z20, z21⟩ := hW
        go_simp
        first | done | with_reducible rfl
      case hk20 =>
      try simp only [Act.put, List.setIfInBounds_toArray, List.set_cons_zero, List.set_cons_succ]
      refine anyK_take 9 (oi := ?oo21) ?ho21 (by kernel_rfl) (by kernel_rfl) (by kernel_rfl) (by kernel_rfl) ?hq21 ?hw21 hT0 (fun _ => hS0) (v := ?vv21) ?hy21 ?hk21
      case ho21 => (simp only [List.getElem?_toArray, List.getElem?_cons_succ, List.getElem?_cons_zero]; rfl)
      case hq21 => exact fun _ _ _ h => h
      case hw21 => rfl
      case hy21 =>
        intro W hW
        go_simp
        first | done | with_reducible rfl
      case hk21 =>
      try simp only [Act.put, List.setIfInBounds_toArray, List.set_cons_zero, List.set_cons_succ]
      refine anyK_take 10 (oi := ?oo22) ?ho22 (by kernel_rfl) (by kernel_rfl) (by kernel_rfl) (by kernel_rfl) ?hq22 ?hw22 hT0 (fun _ => hS0) (v := ?vv22) ?hy22 ?hk22
      case ho22 => (simp only [List.getElem?_toArray, List.getElem?_cons_succ, List.getElem?_cons_zero]; rfl)
      case hq22 => exact fun _ _ _ h => h
      case hw22 => rfl
      case hy22 =>
        intro W hW
        go_simp
        first | done | with_reducible rfl
      case hk22 =>
      try simp only [Act.put, List.setIfInBounds_toArray, List.set_cons_zero, List.set_cons_succ]
      refine anyK_take 11 (oi := ?oo23) ?ho23 (by kernel_rfl) (by kernel_rfl) (by kernel_rfl) (by kernel_rfl) ?hq23 ?hw23 hT0 (fun _ => hS0) (v := ?vv23) ?hy23 ?hk23
      case ho23 => (simp only [List.getElem?_toArray, List.getElem?_cons_succ, List.getElem?_cons_zero]; rfl)
      case hq23 => exact fun _ _ _ h => h
      case hw23 => rfl
      case hy23 =>
        intro W hW
        go_simp
        first | done | with_reducible rfl
      case hk23 =>
      try simp only [Act.put, List.setIfInBounds_toArray, List.set_cons_zero, List.set_cons_succ]
      refine anyK_take 12 (oi := ?oo24) ?ho24 (by kernel_rfl) (by kernel_rfl) (by kernel_rfl) (by kernel_rfl) ?hq24 ?hw24 hT0 (fun _ => hS0) (v := ?vv24) ?hy24 ?hk24
      case ho24 => (simp only [List.getElem?_toArray, List.getElem?_cons_succ, List.getElem?_cons_zero]; rfl)
      case hq24 => exact fun _ _ _ h => h
      case hw24 => rfl
      case hy24 =>
        intro W hW
        obtain ⟨z0, z1, z2, z3, z4, z5, z6, z7, z8, z9, z10, z11, z12, z13, z14, z15, z16, z17, z18, z19, z20, z21⟩ := hW
        go_simp
        first | done | with_reducible rfl
      case hk24 =>
      try simp only [Act.put, List.setIfInBounds_toArray, List.set_cons_zero, List.set_cons_succ]
      refine anyK_take 13 (oi := ?oo25) ?ho25 (by kernel_rfl) (by kernel_rfl) (by kernel_rfl) (by kernel_rfl) ?hq25 ?hw25 hT0 (fun _ => hS0) (v := ?vv25) ?hy25 ?hk25
      case ho25 => (simp only [List.getElem?_toArray, List.getElem?_cons_succ, List.getElem?_cons_zero]; rfl)
      case hq25 => exact fun _ _ _ h => h
      case hw25 => rfl
      case hy25 =>
        intro W hW
        obtain ⟨z0, z1, z2, z3, z4, z5, z6, z7, z8, z9, z10, z11, z12, z13, z14, z15, z16, z17, z18, z19, z20, z21⟩ := hW
        go_simp
        first | done | with_reducible rfl
      case hk25 =>
      try simp only [Act.put, List.setIfInBounds_toArray, List.set_cons_zero, List.set_cons_succ]
      refine anyK_on1 14 (by kernel_rfl) ?_
      refine anyK_one 14 (o := ?oo26) ?ho26 ?hk26
      case ho26 => (simp only [List.getElem?_toArray, List.getElem?_cons_succ, List.getElem?_cons_zero]; rfl)
      case hk26 =>
      intro K hK
      go_simp
      refine (HMK2.out _ _ _ (HR.out.ext (ext_trans X05.out zz)) ((H25.out.at_ X05.out).ext zz)).mono ?_
      rintro e we ⟨v9, rfl, own9, xx⟩
      try go_wp2_with fail
      replace yy := (⟨_, K5.out.ext (ext_trans zz xx), BX5.out.ext (ext_trans zz xx), KM5.out.ext (ext_trans zz xx)⟩ : (fun W => ∃ lv, Blk W B 86 #[.slice cA P.cells.length cc, .slice aA P.hand0.length ac, .slice bA P.hand1.length bc, .int .i64 P.turn, .int .i64 P.quiet, .int .i64 x, .int .i64 y, lv] ∧ Blk W BX 82 #[.string R.name, .int .i64 R.width, .int .i64 R.height, .slice pA R.pieces.length pc, .slice sA R.start.length sc, .bool R.falls, .bool R.keeps, .slice eA R.ends.length ec, .int .i64 R.blocked, .int .i64 R.quiet, .int .i64 R.rept, .pointer (some ⟨BS, 0, none⟩)] ∧ Blk W BM 37 #[.int .i64 mv.src, .int .i64 mv.dst, .int .i64 mv.piece]) we)
      have hp9 := own9.toI
      have HP9 := hide hp9
      obtain ⟨g0, d0, g1, d1, g2, d2, rfl, -⟩ := hp9
      clear own9
      replace zz := ext_trans zz xx
      replace ss := K5.out.ext zz
      have hT1 := keepK.out _ yy
      have hS1 := ss.cell 7
      refine hK.out _ _ hT1 (fun _ => hS1) ?_
      clear hK K
      try simp only [Act.put, List.setIfInBounds_toArray, List.set_cons_zero, List.set_cons_succ]
      refine anyK_take 15 (oi := ?oo27) ?ho27 (by kernel_rfl) (by kernel_rfl) (by kernel_rfl) (by kernel_rfl) ?hq27 ?hw27 hT1 (fun _ => hS1) (v := ?vv27) ?hy27 ?hk27
      case ho27 => (simp only [List.getElem?_toArray, List.getElem?_cons_succ, List.getElem?_cons_zero]; rfl)
      case hq27 => exact fun _ _ _ h => h
      case hw27 => rfl
      case hy27 =>
        intro W hW
        go_simp
        first | done | with_reducible rfl
      case hk27 =>
      try simp only [Act.put, List.setIfInBounds_toArray, List.set_cons_zero, List.set_cons_succ]
      refine anyK_on1 16 (by kernel_rfl) ?_
      refine anyK_one 16 (o := ?oo28) ?ho28 ?hk28
      case ho28 => (simp only [List.getElem?_toArray, List.getElem?_cons_succ, List.getElem?_cons_zero]; rfl)
      case hk28 =>
      intro K hK
      go_simp
      have HZW := hide zz.size
      have HLN9 : Hid (LeafW (we.alloc (.cells #[.slice (some ⟨g0, 0, none⟩) (makeM R P mv).cells.length d0, .slice (some ⟨g1, 0, none⟩) (makeM R P mv).hand0.length d1, .slice (some ⟨g2, 0, none⟩) (makeM R P mv).hand1.length d2, .int .i64 (makeM R P mv).turn, .int .i64 (makeM R P mv).quiet, .int .i64 0, .int .i64 0, .slice none 0 0] 86)) we.heap.size (makeM R P mv)) := hide ⟨_, _, _, _, _, Blk.new we 86 #[.slice (some ⟨g0, 0, none⟩) (makeM R P mv).cells.length d0, .slice (some ⟨g1, 0, none⟩) (makeM R P mv).hand0.length d1, .slice (some ⟨g2, 0, none⟩) (makeM R P mv).hand1.length d2, .int .i64 (makeM R P mv).turn, .int .i64 (makeM R P mv).quiet, .int .i64 0, .int .i64 0, .slice none 0 0], HP9.out.ext (ext_alloc (Below.refl _ _) _)⟩
      replace zz := ext_alloc zz (.cells #[.slice (some ⟨g0, 0, none⟩) (makeM R P mv).cells.length d0, .slice (some ⟨g1, 0, none⟩) (makeM R P mv).hand0.length d1, .slice (some ⟨g2, 0, none⟩) (makeM R P mv).hand1.length d2, .int .i64 (makeM R P mv).turn, .int .i64 (makeM R P mv).quiet, .int .i64 0, .int .i64 0, .slice none 0 0] 86)
      replace ss := K5.out.ext zz
      replace yy := (⟨_, K5.out.ext (zz), BX5.out.ext (zz), KM5.out.ext (zz)⟩ : (fun W => ∃ lv, Blk W B 86 #[.slice cA P.cells.length cc, .slice aA P.hand0.length ac, .slice bA P.hand1.length bc, .int .i64 P.turn, .int .i64 P.quiet, .int .i64 x, .int .i64 y, lv] ∧ Blk W BX 82 #[.string R.name, .int .i64 R.width, .int .i64 R.height, .slice pA R.pieces.length pc, .slice sA R.start.length sc, .bool R.falls, .bool R.keeps, .slice eA R.ends.length ec, .int .i64 R.blocked, .int .i64 R.quiet, .int .i64 R.rept, .pointer (some ⟨BS, 0, none⟩)] ∧ Blk W BM 37 #[.int .i64 mv.src, .int .i64 mv.dst, .int .i64 mv.piece]) (we.alloc (.cells #[.slice (some ⟨g0, 0, none⟩) (makeM R P mv).cells.length d0, .slice (some ⟨g1, 0, none⟩) (makeM R P mv).hand0.length d1, .slice (some ⟨g2, 0, none⟩) (makeM R P mv).hand1.length d2, .int .i64 (makeM R P mv).turn, .int .i64 (makeM R P mv).quiet, .int .i64 0, .int .i64 0, .slice none 0 0] 86)))
      have HSW := hide (show we.heap.size < (we.alloc (.cells #[.slice (some ⟨g0, 0, none⟩) (makeM R P mv).cells.length d0, .slice (some ⟨g1, 0, none⟩) (makeM R P mv).hand0.length d1, .slice (some ⟨g2, 0, none⟩) (makeM R P mv).hand1.length d2, .int .i64 (makeM R P mv).turn, .int .i64 (makeM R P mv).quiet, .int .i64 0, .int .i64 0, .slice none 0 0] 86)).heap.size from (Blk.new we 86 #[.slice (some ⟨g0, 0, none⟩) (makeM R P mv).cells.length d0, .slice (some ⟨g1, 0, none⟩) (makeM R P mv).hand0.length d1, .slice (some ⟨g2, 0, none⟩) (makeM R P mv).hand1.length d2, .int .i64 (makeM R P mv).turn, .int .i64 (makeM R P mv).quiet, .int .i64 0, .int .i64 0, .slice none 0 0]).lt)
      generalize we.alloc (.cells #[.slice (some ⟨g0, 0, none⟩) (makeM R P mv).cells.length d0, .slice (some ⟨g1, 0, none⟩) (makeM R P mv).hand0.length d1, .slice (some ⟨g2, 0, none⟩) (makeM R P mv).hand1.length d2, .int .i64 (makeM R P mv).turn, .int .i64 (makeM R P mv).quiet, .int .i64 0, .int .i64 0, .slice none 0 0] 86) = wf at *
      generalize we.heap.size = bn at *
      have hT2 := keepK.out _ yy
      have hS2 := ss.cell 7
      refine hK.out _ _ hT2 (fun _ => hS2) ?_
      clear hK K
      try simp only [Act.put, List.setIfInBounds_toArray, List.set_cons_zero, List.set_cons_succ]
      refine anyK_on1 17 (by kernel_rfl) ?_
      refine anyK_one 17 (o := ?oo29) ?ho29 ?hk29
      case ho29 => (simp only [List.getElem?_toArray, List.getElem?_cons_succ, List.getElem?_cons_zero]; rfl)
      case hk29 =>
      intro K hK
      go_simp
      replace yy := (⟨_, K5.out.ext (ext_alloc zz _), BX5.out.ext (ext_alloc zz _), KM5.out.ext (ext_alloc zz _)⟩ : (fun W => ∃ lv, Blk W B 86 #[.slice cA P.cells.length cc, .slice aA P.hand0.length ac, .slice bA P.hand1.length bc, .int .i64 P.turn, .int .i64 P.quiet, .int .i64 x, .int .i64 y, lv] ∧ Blk W BX 82 #[.string R.name, .int .i64 R.width, .int .i64 R.height, .slice pA R.pieces.length pc, .slice sA R.start.length sc, .bool R.falls, .bool R.keeps, .slice eA R.ends.length ec, .int .i64 R.blocked, .int .i64 R.quiet, .int .i64 R.rept, .pointer (some ⟨BS, 0, none⟩)] ∧ Blk W BM 37 #[.int .i64 mv.src, .int .i64 mv.dst, .int .i64 mv.piece]) (wf.alloc (.cells #[.pointer (some ⟨bn, 0, none⟩)] 83)))
      replace ss := K5.out.ext (ext_alloc zz (.cells #[.pointer (some ⟨bn, 0, none⟩)] 83))
      have hT3 := keepK.out _ yy
      have hS3 := ss.cell 7
      refine hK.out _ _ hT3 (fun _ => hS3) ?_
      clear hK K
      try simp only [Act.put, List.setIfInBounds_toArray, List.set_cons_zero, List.set_cons_succ]
      refine anyK_on1 18 (by kernel_rfl) ?_
      refine anyK_one 18 (o := ?oo30) ?ho30 ?hk30
      case ho30 => (simp only [List.getElem?_toArray, List.getElem?_cons_succ, List.getElem?_cons_zero]; rfl)
      case hk30 =>
      intro K hK
      refine ite_yes' rfl ?_
      refine oper_append_wnode (.tmp 29) (.tmp 42) rfl wl.heap.size wf A k c (bs.map ptrV) bn rfl (own_ext O5.out zz) rfl (by have := HG5.out.size; have := zz.size; omega) (by omega) ?_
      intro A9 c9 w9 own9 g9 f9
      have HNB : Hid (some B ≠ (Value.slice A k c).ownBlock) := hide (own_blk_ne (own_ext O5.out zz) (K5.out.ext zz) (by decide)).symm
      have HNX : Hid (some BX ≠ (Value.slice A k c).ownBlock) := hide (own_blk_ne (own_ext O5.out zz) (BX5.out.ext zz) (by decide)).symm
      have HNM : Hid (some BM ≠ (Value.slice A k c).ownBlock) := hide (own_blk_ne (own_ext O5.out zz) (KM5.out.ext zz) (by decide)).symm
      replace yy := (⟨_, (K5.out.ext zz).grown g9 HNB.out, (BX5.out.ext zz).grown g9 HNX.out, (KM5.out.ext zz).grown g9 HNM.out⟩ : (fun W => ∃ lv, Blk W B 86 #[.slice cA P.cells.length cc, .slice aA P.hand0.length ac, .slice bA P.hand1.length bc, .int .i64 P.turn, .int .i64 P.quiet, .int .i64 x, .int .i64 y, lv] ∧ Blk W BX 82 #[.string R.name, .int .i64 R.width, .int .i64 R.height, .slice pA R.pieces.length pc, .slice sA R.start.length sc, .bool R.falls, .bool R.keeps, .slice eA R.ends.length ec, .int .i64 R.blocked, .int .i64 R.quiet, .int .i64 R.rept, .pointer (some ⟨BS, 0, none⟩)] ∧ Blk W BM 37 #[.int .i64 mv.src, .int .i64 mv.dst, .int .i64 mv.piece]) w9)
      replace ss := (K5.out.ext zz).grown g9 HNB.out
      have OWN9 := hide own9
      have GR9 := hide ((HG5.out.ext zz).own g9 (own_row O5.out))
      have HL9 := hide (fun (i : Nat) (mv : MoveM) (b : Nat) (h1 : L[i]? = some mv) (h2 : bs[i]? = some b) => (⟨(HL5.out i mv b h1 h2).1, ((HL5.out i mv b h1 h2).2.ext zz).tfr f9⟩ : wl.heap.size ≤ b ∧ LeafW w9 b (makeM R P mv)))
      have HN9 := hide (HLN9.out.tfr f9)
      have HNE := hide (fun (i b : Nat) (h : bs[i]? = some b) (hi : i < L.length) => (by
        obtain ⟨mv', hmv'⟩ : ∃ mv', L[i]? = some mv' := ⟨L[i], List.getElem?_eq_getElem hi⟩
        have h9 := (HL5.out i mv' b hmv' h).2.lt
        have := HZW.out
        rintro rfl
        omega : b ≠ bn))
      clear own9 g9 f9 HNB HNX HNM
      have hT4 := keepK.out _ yy
      have hS4 := ss.cell 7
      refine hK.out _ _ hT4 (fun _ => hS4) ?_
      clear hK K
      try simp only [Act.put, List.setIfInBounds_toArray, List.set_cons_zero, List.set_cons_succ]
      refine anyK_take 19 (oi := ?oo31) ?ho31 (by kernel_rfl) (by kernel_rfl) (by kernel_rfl) (by kernel_rfl) ?hq31 ?hw31 hT4 (fun _ => hS4) (v := ?vv31) ?hy31 ?hk31
      case ho31 => (simp only [List.getElem?_toArray, List.getElem?_cons_succ, List.getElem?_cons_zero]; rfl)
      case hq31 => exact fun _ _ _ h => h
      case hw31 => rfl
      case hy31 =>
        intro W hW
        go_simp
        first | done | with_reducible rfl
      case hk31 =>
      try simp only [Act.put, List.setIfInBounds_toArray, List.set_cons_zero, List.set_cons_succ]
      refine anyK_take 20 (oi := ?oo32) ?ho32 (by kernel_rfl) (by kernel_rfl) (by kernel_rfl) (by kernel_rfl) ?hq32 ?hw32 hT4 (fun _ => hS4) (v := ?vv32) ?hy32 ?hk32
      case ho32 => (simp only [List.getElem?_toArray, List.getElem?_cons_succ, List.getElem?_cons_zero]; rfl)
      case hq32 => exact fun _ _ _ h => h
      case hw32 => rfl
      case hy32 =>
        intro W hW
        go_simp
        first | done | with_reducible rfl
      case hk32 =>
      try simp only [Act.put, List.setIfInBounds_toArray, List.set_cons_zero, List.set_cons_succ]
      refine anyK_on1 21 (by kernel_rfl) ?_
      refine anyK_one 21 (o := ?oo33) ?ho33 ?hk33
      case ho33 => (simp only [List.getElem?_toArray, List.getElem?_cons_succ, List.getElem?_cons_zero]; rfl)
      case hk33 =>
      intro K hK
      have q5 := ss.cell
      have z5 := ss.frozen
      have BX9 : Hid (Blk w9 BX 82 #[.string R.name, .int .i64 R.width, .int .i64 R.height, .slice pA R.pieces.length pc, .slice sA R.start.length sc, .bool R.falls, .bool R.keeps, .slice eA R.ends.length ec, .int .i64 R.blocked, .int .i64 R.quiet, .int .i64 R.rept, .pointer (some ⟨BS, 0, none⟩)]) := hide (match yy with | ⟨_, _, hb, _⟩ => hb)
      have KM9 : Hid (Blk w9 BM 37 #[.int .i64 mv.src, .int .i64 mv.dst, .int .i64 mv.piece]) := hide (match yy with | ⟨_, _, _, hm⟩ => hm)
      have k10 := blk_put (i := 7) (u := .slice A9 (k + 1) c9) ss (cs' := #[.slice cA P.cells.length cc, .slice aA P.hand0.length ac, .slice bA P.hand1.length bc, .int .i64 P.turn, .int .i64 P.quiet, .int .i64 x, .int .i64 y, .slice A9 (k + 1) c9]) rfl
      have HXB := hide (blk_ne BX9.out ss (by decide))
      have HMB := hide (blk_ne KM9.out ss (by decide))
      replace yy := (⟨.slice A9 (k + 1) c9, k10, BX9.out.far (p := ⟨B, 7, none⟩) HXB.out (.slice A9 (k + 1) c9), KM9.out.far (p := ⟨B, 7, none⟩) HMB.out (.slice A9 (k + 1) c9)⟩ : (fun W => ∃ lv, Blk W B 86 #[.slice cA P.cells.length cc, .slice aA P.hand0.length ac, .slice bA P.hand1.length bc, .int .i64 P.turn, .int .i64 P.quiet, .int .i64 x, .int .i64 y, lv] ∧ Blk W BX 82 #[.string R.name, .int .i64 R.width, .int .i64 R.height, .slice pA R.pieces.length pc, .slice sA R.start.length sc, .bool R.falls, .bool R.keeps, .slice eA R.ends.length ec, .int .i64 R.blocked, .int .i64 R.quiet, .int .i64 R.rept, .pointer (some ⟨BS, 0, none⟩)] ∧ Blk W BM 37 #[.int .i64 mv.src, .int .i64 mv.dst, .int .i64 mv.piece]) (w9.setCell ⟨B, 7, none⟩ (.slice A9 (k + 1) c9)))
      have TF := hide (TFr.set (ts := [86]) ss (List.mem_singleton.2 rfl) 7 (.slice A9 (k + 1) c9))
      have K10 := hide k10
      have G10 := hide (GR9.out.set 7 (.slice A9 (k + 1) c9))
      have OWN10 := hide (own_tfr OWN9.out (by decide) TF.out)
      have HN10 := hide (HN9.out.far7 (by have := HZW.out; have := HG5.out.size; have := HBL.out; omega) TF.out (.slice A9 (k + 1) c9))
      have HL10 := hide (fun (i : Nat) (mv : MoveM) (b : Nat) (h1 : L[i]? = some mv) (h2 : bs[i]? = some b) => (⟨(HL9.out i mv b h1 h2).1, (HL9.out i mv b h1 h2).2.far7 (by have := (HL9.out i mv b h1 h2).1; have := HBL.out; omega) TF.out (.slice A9 (k + 1) c9)⟩ : wl.heap.size ≤ b ∧ LeafW _ b (makeM R P mv)))
      clear k10
      go_simp
      have hT5 := keepK.out _ yy
      refine hK.out _ _ hT5 (fun h => by cases h) ?_
      clear hK K
      try simp only [Act.put, List.setIfInBounds_toArray, List.set_cons_zero, List.set_cons_succ]
      refine anyK_done (by kernel_rfl) ?_ _
      clear keepK hT0 hT1 hT2 hT3 hT4 hT5
      try clear keepS hS0 hS1 hS2 hS3 hS4
      have HG9 := hide (show wl.heap.size ≤ bn by have := HZW.out; have := HG5.out.size; omega)
      clear zz yy ss q5 z5 TF K5 BX5 KM5 O5 HL5 X05 H25 HG5 OWN9 GR9 HL9 HN9 BX9 KM9 HXB HMB HMK2 HP9 HLN9
      generalize w9.setCell ⟨B, 7, none⟩ (.slice A9 (k + 1) c9) = w10 at *
      go_wp2
      go_roundw
      case rel =>
        refine ⟨k + 1, A9, c9, bs ++ [bn], by omega, by go_num, K10.out, by rw [List.map_append]; exact OWN10.out, hide (fun h => by omega), hide (by simp [hbl.out]), hide ?_, hide ?_, G10.out⟩
        · intro i mv' b h1 h2
          by_cases hi : i < bs.length
          · rw [List.getElem?_append_left hi] at h2
            exact HL10.out i mv' b h1 h2
          · rw [List.getElem?_append_right (by omega)] at h2
            have hi2 : i - bs.length = 0 := by
              by_cases h0 : i - bs.length = 0
              · exact h0
              · rw [List.getElem?_eq_none (by simp; omega)] at h2; cases h2
            rw [hi2] at h2
            simp only [List.getElem?_cons_zero, Option.some.injEq] at h2
            subst h2
            have hik : i = k := by have := hbl.out; omega
            subst hik
            rw [HMV.out] at h1
            cases h1
            exact ⟨HG9.out, HN10.out⟩
        · intro i j b h1 h2
          have hbk := hbl.out
          have hend : ∀ q, (bs ++ [bn])[q]? = some b → (q < k ∧ bs[q]? = some b) ∨ (q = k ∧ b = bn) := fun q h => by
            by_cases hi : q < bs.length
            · rw [List.getElem?_append_left hi] at h
              exact .inl ⟨by omega, h⟩
            · rw [List.getElem?_append_right (by omega)] at h
              have hi2 : q - bs.length = 0 := by
                by_cases h0 : q - bs.length = 0
                · exact h0
                · rw [List.getElem?_eq_none (by simp; omega)] at h; cases h
              rw [hi2] at h
              simp only [List.getElem?_cons_zero, Option.some.injEq] at h
              exact .inr ⟨by omega, h.symm⟩
          rcases hend i h1 with ⟨a1, a2⟩ | ⟨a1, a2⟩ <;> rcases hend j h2 with ⟨b1, b2⟩ | ⟨b1, b2⟩
          · exact hND.out i j b a2 b2
          · exact absurd b2 (HNE.out i b a2 (by omega))
          · exact absurd a2 (HNE.out j b b2 (by omega))
          · omega
      case measure => simp [intOf]; omega
    · obtain rfl : k = L.length := by omega
      clear HMK HFM
      go_wp2
      go_end0
      refine ⟨rfl, ?_⟩
      rw [HE.out]
      exact grow_tree HL0.out KK.out H2R.out OO.out hN.out hbl.out hLF.out hND.out GG.out XWL.out H1.out X0L.out H5.out H10.out X0R.out

end Go.Proofs.Ytdoibgmmijhlfaa
namespace Go.Proofs.Ytdoibgmmijhlfaa
open Go.ChangeShapes Go.WideShapes Go.ChangeAt Go.RowKit Go.Shelf
set_option linter.unusedVariables false
set_option linter.unusedSimpArgs false
theorem TreeAt.monoN {w0 : World} {n m : Nat} {W : World} {B : Nat} {t : NT} {S : Nat → Prop} (h : TreeW w0 n W B t S) (hm : n ≤ m) : TreeW w0 m W B t S := by
  obtain ⟨k, rfl⟩ := Nat.le.dest hm
  clear hm
  induction k with
  | zero => exact h
  | succ k ih => exact ih.succ
theorem node_tree {w0 w W : World} {N B c : Nat} {P : PosM} {a' b' : Int} {ex : Bool} {ks : List NT} {bs : List Nat} {A : Option Addr} {S : Nat → Prop} {Ss : Nat → Nat → Prop} {c0 c1 c2 c3 c4 : Value} {cs : Array Value}
    (K : Blk w B 86 cs) (H2 : PosS w0 w (.agg #[c0, c1, c2, c3, c4]) P) (H3 : w.ownsRow w0.heap.size 83 1 (.slice A ks.length c) ks.length (bs.map ptrV)) (H4 : ks = [] → A = none ∧ c = 0) (H5 : w0.heap.size ≤ B) (H6 : bs.length = ks.length)
    (H7 : ∀ (i : Nat) (k : NT) (b : Nat), ks[i]? = some k → bs[i]? = some b → TreeW w0 N w b k (Ss i)) (H8 : ∀ i, i < ks.length → ¬ Ss i B) (H9 : ∀ i j, i < ks.length → j < ks.length → i ≠ j → ∀ b, Ss i b → ¬ Ss j b) (H10 : ∀ b, S b ↔ b = B ∨ ∃ i, i < ks.length ∧ Ss i b)
    (G : Gr B w W) (K9 : Blk W B 86 #[c0, c1, c2, c3, c4, .int .i64 a', .int .i64 b', .slice A ks.length c]) : TreeW w0 (N + 1) W B (.node P a' b' ex ks) S := by
  have f : WFr (fun b => b = B) w W := WFr.of_gr G K rfl
  exact ⟨c0, c1, c2, c3, c4, A, c, bs, Ss, K9, H2.tfr2 f, own_tfr (ts := [86, 123]) H3 (by decide) (f.tfr (by simp) (by simp)), H4, H5, H6, fun i k b h1 h2 => (H7 i k b h1 h2).wfr f (fun q hq e => H8 i (List.getElem?_eq_some_iff.1 h1).1 (by rw [← show q = B from e]; exact hq)), H8, H9, H10⟩
theorem kid_tree {w0 w w5 : World} {B N N' c j bj : Nat} {a b : Int} {ex : Bool} {P : PosM} {ks : List NT} {k' : NT} {bs : List Nat} {A : Option Addr} {S S' : Nat → Prop} {Ss : Nat → Nat → Prop} {c0 c1 c2 c3 c4 : Value} (hN : N ≤ N')
    (H1 : Blk w B 86 #[c0, c1, c2, c3, c4, .int .i64 a, .int .i64 b, .slice A ks.length c]) (H2 : PosS w0 w (.agg #[c0, c1, c2, c3, c4]) P) (H3 : w.ownsRow w0.heap.size 83 1 (.slice A ks.length c) ks.length (bs.map ptrV)) (H4 : ks = [] → A = none ∧ c = 0) (H5 : w0.heap.size ≤ B) (H6 : bs.length = ks.length)
    (H7 : ∀ (i : Nat) (k : NT) (b : Nat), ks[i]? = some k → bs[i]? = some b → TreeW w0 N w b k (Ss i)) (H8 : ∀ i, i < ks.length → ¬ Ss i B) (H9 : ∀ i j, i < ks.length → j < ks.length → i ≠ j → ∀ b, Ss i b → ¬ Ss j b) (H10 : ∀ b, S b ↔ b = B ∨ ∃ i, i < ks.length ∧ Ss i b)
    (hlt : j < ks.length) (hbj : bs[j]? = some bj) (hT' : TreeW w0 N' w5 bj k' S') (hS' : ∀ b, S' b → Ss j b ∨ w.heap.size ≤ b) (hM : WFr (Ss j) w w5) :
    ∃ S'', TreeW w0 (N' + 1) w5 B (.node P a b ex (ks.set j k')) S'' ∧ (∀ b, S'' b → S b ∨ w.heap.size ≤ b) ∧ WFr S w w5 := by
  have hl : (ks.set j k').length = ks.length := List.length_set
  have hne : ks.set j k' = [] → ks = [] := fun h => by
    rw [h] at hl
    exact List.eq_nil_of_length_eq_zero hl.symm
  have hBw := H1.lt
  have hSlt : ∀ i, i < ks.length → ∀ b, Ss i b → b < w.heap.size := fun i hi b hb => by
    obtain ⟨q, b', h1, h2⟩ := kid_of H6 hi
    exact (H7 i q b' h1 h2).lt hb
  have f2 : TFr [86, 123] w w5 := hM.tfr (by simp) (by simp)
  have KB : Blk w5 B 86 #[c0, c1, c2, c3, c4, .int .i64 a, .int .i64 b, .slice A ks.length c] := hM _ _ _ H1 (fun _ => H8 j hlt) (by decide)
  have hnB : ∀ i, i < ks.length → ¬ (if i = j then S' else Ss i) B := fun i hi h => by
    by_cases e : i = j
    · rw [if_pos e] at h
      rcases hS' B h with h | h
      · exact H8 j hlt h
      · omega
    · rw [if_neg e] at h
      exact H8 i hi h
  have hTS : ∀ (i : Nat) (k : NT) (b : Nat), (ks.set j k')[i]? = some k → bs[i]? = some b → TreeW w0 N' w5 b k (if i = j then S' else Ss i) := fun i k b h1 h2 => by
    rw [List.getElem?_set] at h1
    by_cases hij : j = i
    · subst hij
      rw [if_pos rfl, if_pos hlt] at h1
      cases h1
      rw [hbj] at h2
      cases h2
      rw [if_pos rfl]
      exact hT'
    · rw [if_neg hij] at h1
      rw [if_neg (fun e => hij e.symm)]
      have hil := (List.getElem?_eq_some_iff.1 h1).1
      exact ((H7 i k b h1 h2).wfr hM (fun q hq => H9 i j hil hlt (fun e => hij e.symm) q hq)).monoN hN
  refine ⟨fun b => b = B ∨ ∃ i, i < ks.length ∧ (if i = j then S' else Ss i) b, ?_, ?_, hM.mono (fun b h => (H10 b).2 (.inr ⟨j, hlt, h⟩))⟩
  · generalize ks.set j k' = ks' at *
    refine ⟨c0, c1, c2, c3, c4, A, c, bs, fun i => if i = j then S' else Ss i, ?_, H2.tfr (by decide) f2, ?_, fun h => H4 (hne h), H5, H6.trans hl.symm, fun i k b h1 h2 => ?_, fun i hi => hnB i (by rw [← hl]; exact hi), fun i i' hi hi' hii b h1 h2 => ?_, fun z => by rw [show (NT.node P a b ex ks').kids.length = ks.length from hl]⟩
    · show Blk w5 B 86 #[c0, c1, c2, c3, c4, .int .i64 a, .int .i64 b, .slice A ks'.length c]
      rw [hl]; exact KB
    · show w5.ownsRow w0.heap.size 83 1 (.slice A ks'.length c) ks'.length (bs.map ptrV)
      rw [hl]; exact own_tfr H3 (by decide) f2
    · exact hTS i k b h1 h2
    · replace hi : i < ks.length := by rw [← hl]; exact hi
      replace hi' : i' < ks.length := by rw [← hl]; exact hi'
      replace h1 : (if i = j then S' else Ss i) b := h1
      replace h2 : (if i' = j then S' else Ss i') b := h2
      by_cases e : i = j
      · rw [if_pos e] at h1
        have e' : i' ≠ j := fun h => hii (by rw [e, h])
        rw [if_neg e'] at h2
        rcases hS' b h1 with h | h
        · exact H9 j i' hlt hi' (fun h => e' h.symm) b h h2
        · have := hSlt i' hi' b h2; omega
      · rw [if_neg e] at h1
        by_cases e' : i' = j
        · rw [if_pos e'] at h2
          rcases hS' b h2 with h | h
          · exact H9 i j hi hlt e b h1 h
          · have := hSlt i hi b h1; omega
        · rw [if_neg e'] at h2
          exact H9 i i' hi hi' hii b h1 h2
  · rintro b (rfl | ⟨i, hi, h⟩)
    · exact .inl ((H10 b).2 (.inl rfl))
    · by_cases e : i = j
      · rw [if_pos e] at h
        exact (hS' b h).imp (fun h => (H10 b).2 (.inr ⟨j, hlt, h⟩)) id
      · rw [if_neg e] at h
        exact .inl ((H10 b).2 (.inr ⟨i, hi, h⟩))
def StepPost (w0 w : World) (BS : Nat) (s : Int) (B N : Nat) (S : Nat → Prop) (r : NT × Nat × Int) (e : Ending) (w' : World) : Prop :=
  e = .returned (.int .i64 r.2.2) ∧ ∃ S', TreeW w0 N w' B r.1 S' ∧ (∀ b, S' b → S b ∨ w.heap.size ≤ b) ∧ WFr S w w' ∧ SourceAt w' BS s r.2.1 ∧ Ext w0 w' ∧ w.heap.size ≤ w'.heap.size
theorem stepW_draws (R : RulesM) (s : Int) : ∀ (n : Nat) (f : Bool) (t : NT) (k : Nat), k ≤ (stepW R s n f t k).2.1 ∧ (stepW R s n f t k).2.1 ≤ k + 200
  | 0, _, _, k => ⟨Nat.le_refl _, by show k ≤ k + 200; omega⟩
  | n + 1, f, t, k => by
    rcases step_cases R f t with h | ⟨h, rfl, h0⟩ | ⟨h, h0⟩
    · rw [stepW_over h]; exact ⟨Nat.le_refl _, by show k ≤ k + 200; omega⟩
    · rw [stepW_fresh h h0]; exact sample_draws R s 200 t.pos k
    · rw [stepW_open h h0]; exact stepW_draws R s n false _ k

set_option maxHeartbeats 8000000 in
set_option maxRecDepth 100000 in
theorem step_over {w0 w : World} {BX BS B n m k : Nat} {R : RulesM} {s : Int} {V : Int} {P : PosM} {a b : Int} {ex first : Bool} {ks : List NT} {S : Nat → Prop} (hV : Valid R) (x0 : Ext w0 w) (hX : SamplerAt w0 w BX BS R) (hSo : SourceAt w BS s k) (hb : w0.heap.size ≤ BS)
    (s0 : 0 ≤ s) (s1 : s ≤ 100000000) (k1 : k ≤ 90000000) (hT : TreeW w0 (n + 1) w B (.node P a b ex ks) S) (hI : WInv R V (.node P a b ex ks)) (hVm : V ≤ 4000) (hr : resultM R P ≠ 0) :
    Calls Try.prog 37 #[.pointer (some ⟨BX, 0, none⟩), .pointer (some ⟨B, 0, none⟩), .bool first] w (StepPost w0 w BS s B (n + 1) S (stepW R s (m + 1) first (.node P a b ex ks) k)) := by
  have HRES := hide (stepW_over (s := s) (n := m) (f := first) (t := .node P a b ex ks) (k := k) hr)
  replace HRES : Hid (stepW R s (m + 1) first (.node P a b ex ks) k = (.node P (a + 1) (b + pointsW P (resultM R P)) ex ks, k, resultM R P)) := HRES
  generalize stepW R s (m + 1) first (.node P a b ex ks) k = T at *
  have hS : Sound R P := hI.sound
  obtain ⟨i1, i2, i3, i4⟩ := hI.bd
  have HPT := hide hS.turn
  have HAB : Hid (0 ≤ a ∧ a ≤ 5000 ∧ 0 ≤ b ∧ b ≤ 10000) := hide ⟨i1, by have : a ≤ V := i2; omega, i3, by have : b ≤ 2 * a := i4; have : a ≤ V := i2; omega⟩
  clear i1 i2 i3 i4
  have HRS := hide (fun (W : World) (v u : Value) (h1 : RulesAt W v R) (h2 : PosAt W u P) => Result_any R P v u W h1 h2 hV hS)
  obtain ⟨x, hx⟩ : ∃ x, resultM R P = x := ⟨_, rfl⟩
  rw [hx] at HRS HRES hr
  have t0 : (x != 0) = true := by simpa using hr
  clear hx hr
  have HTW := hide hT
  obtain ⟨c0, c1, c2, c3, c4, A, c, bs, Ss, h1, h2, -⟩ := hT
  replace h1 : Blk w B 86 #[c0, c1, c2, c3, c4, .int .i64 a, .int .i64 b, .slice A ks.length c] := h1
  replace h2 : PosS w0 w (.agg #[c0, c1, c2, c3, c4]) P := h2
  have hP := h2.at_ x0
  obtain ⟨cA, cc, aA, ac, bA, bc, e, -⟩ := hP
  simp only [Value.agg.injEq, Array.mk.injEq, List.cons.injEq, and_true] at e
  obtain ⟨rfl, rfl, rfl, rfl, rfl⟩ := e
  have HB1 := hide h1
  have HB2 := hide h2
  have X0 := hide x0
  have HXX := hide hX
  obtain ⟨pA, pc, sA, sc, eA, ec, hBX, hR⟩ := hX
  have HBX := hide hBX
  have HR := hide hR
  have HSO := hide hSo
  have HBB := hide hb
  have HVV := hide hV
  have HII := hide hI
  have HSS := hide hS
  have HK1 := hide k1
  have HVM := hide hVm
  clear h1 h2 x0 hBX hR hSo hb hV hI hS k1 hVm
  go_enter Try.func37, Try.ntmps37
  go_upto_region 1 with fail
  have keepK := hide (fun W (h : Ext w W) => (show (fun W => W.cell? ⟨B, 0, none⟩ = some (.slice cA P.cells.length cc) ∧ W.cell? ⟨B, 1, none⟩ = some (.slice aA P.hand0.length ac) ∧ W.cell? ⟨B, 2, none⟩ = some (.slice bA P.hand1.length bc) ∧ W.cell? ⟨B, 3, none⟩ = some (.int .i64 P.turn) ∧ W.cell? ⟨B, 4, none⟩ = some (.int .i64 P.quiet) ∧ W.cell? ⟨B, 5, none⟩ = some (.int .i64 a) ∧ W.cell? ⟨B, 6, none⟩ = some (.int .i64 b) ∧ W.cell? ⟨B, 7, none⟩ = some (.slice A ks.length c) ∧ W.cell? ⟨BX, 0, none⟩ = some (.string R.name) ∧ W.cell? ⟨BX, 1, none⟩ = some (.int .i64 R.width) ∧ W.cell? ⟨BX, 2, none⟩ = some (.int .i64 R.height) ∧ W.cell? ⟨BX, 3, none⟩ = some (.slice pA R.pieces.length pc) ∧ W.cell? ⟨BX, 4, none⟩ = some (.slice sA R.start.length sc) ∧ W.cell? ⟨BX, 5, none⟩ = some (.bool R.falls) ∧ W.cell? ⟨BX, 6, none⟩ = some (.bool R.keeps) ∧ W.cell? ⟨BX, 7, none⟩ = some (.slice eA R.ends.length ec) ∧ W.cell? ⟨BX, 8, none⟩ = some (.int .i64 R.blocked) ∧ W.cell? ⟨BX, 9, none⟩ = some (.int .i64 R.quiet) ∧ W.cell? ⟨BX, 10, none⟩ = some (.int .i64 R.rept) ∧ W.cell? ⟨BX, 11, none⟩ = some (.pointer (some ⟨BS, 0, none⟩)) ∧ Ext w W) W from ⟨(HB1.out.ext h).cell 0, (HB1.out.ext h).cell 1, (HB1.out.ext h).cell 2, (HB1.out.ext h).cell 3, (HB1.out.ext h).cell 4, (HB1.out.ext h).cell 5, (HB1.out.ext h).cell 6, (HB1.out.ext h).cell 7, (HBX.out.ext h).cell 0, (HBX.out.ext h).cell 1, (HBX.out.ext h).cell 2, (HBX.out.ext h).cell 3, (HBX.out.ext h).cell 4, (HBX.out.ext h).cell 5, (HBX.out.ext h).cell 6, (HBX.out.ext h).cell 7, (HBX.out.ext h).cell 8, (HBX.out.ext h).cell 9, (HBX.out.ext h).cell 10, (HBX.out.ext h).cell 11, h⟩))
  have yy : Ext w w.drew := Below.drew (Below.refl _ _)
  refine region_K (fun W => W.cell? ⟨B, 0, none⟩ = some (.slice cA P.cells.length cc) ∧ W.cell? ⟨B, 1, none⟩ = some (.slice aA P.hand0.length ac) ∧ W.cell? ⟨B, 2, none⟩ = some (.slice bA P.hand1.length bc) ∧ W.cell? ⟨B, 3, none⟩ = some (.int .i64 P.turn) ∧ W.cell? ⟨B, 4, none⟩ = some (.int .i64 P.quiet) ∧ W.cell? ⟨B, 5, none⟩ = some (.int .i64 a) ∧ W.cell? ⟨B, 6, none⟩ = some (.int .i64 b) ∧ W.cell? ⟨B, 7, none⟩ = some (.slice A ks.length c) ∧ W.cell? ⟨BX, 0, none⟩ = some (.string R.name) ∧ W.cell? ⟨BX, 1, none⟩ = some (.int .i64 R.width) ∧ W.cell? ⟨BX, 2, none⟩ = some (.int .i64 R.height) ∧ W.cell? ⟨BX, 3, none⟩ = some (.slice pA R.pieces.length pc) ∧ W.cell? ⟨BX, 4, none⟩ = some (.slice sA R.start.length sc) ∧ W.cell? ⟨BX, 5, none⟩ = some (.bool R.falls) ∧ W.cell? ⟨BX, 6, none⟩ = some (.bool R.keeps) ∧ W.cell? ⟨BX, 7, none⟩ = some (.slice eA R.ends.length ec) ∧ W.cell? ⟨BX, 8, none⟩ = some (.int .i64 R.blocked) ∧ W.cell? ⟨BX, 9, none⟩ = some (.int .i64 R.quiet) ∧ W.cell? ⟨BX, 10, none⟩ = some (.int .i64 R.rept) ∧ W.cell? ⟨BX, 11, none⟩ = some (.pointer (some ⟨BS, 0, none⟩)) ∧ Ext w W) (fun _ => True) [] (by kernel_rfl) ?_
  have hT0 := keepK.out _ yy
  refine anyK_take 0 (oi := ?oo1) ?ho1 (by kernel_rfl) (by kernel_rfl) (by kernel_rfl) (by kernel_rfl) ?hq1 ?hw1 hT0 (fun _ => trivial) (v := ?vv1) ?hy1 ?hk1
  case ho1 => (simp only [List.getElem?_toArray, List.getElem?_cons_succ, List.getElem?_cons_zero]; rfl)
  case hq1 => exact fun _ _ _ h => h
  case hw1 => rfl
  case hy1 =>
    intro W hW
    go_simp
    first | done | with_reducible rfl
  case hk1 =>
  try simp only [Act.put, List.setIfInBounds_toArray, List.set_cons_zero, List.set_cons_succ]
  refine anyK_take 1 (oi := ?oo2) ?ho2 (by kernel_rfl) (by kernel_rfl) (by kernel_rfl) (by kernel_rfl) ?hq2 ?hw2 hT0 (fun _ => trivial) (v := ?vv2) ?hy2 ?hk2
  case ho2 => (simp only [List.getElem?_toArray, List.getElem?_cons_succ, List.getElem?_cons_zero]; rfl)
  case hq2 => exact fun _ _ _ h => h
  case hw2 => rfl
  case hy2 =>
    intro W hW
    go_simp
    first | done | with_reducible rfl
  case hk2 =>
  try simp only [Act.put, List.setIfInBounds_toArray, List.set_cons_zero, List.set_cons_succ]
  refine anyK_take 2 (oi := ?oo3) ?ho3 (by kernel_rfl) (by kernel_rfl) (by kernel_rfl) (by kernel_rfl) ?hq3 ?hw3 hT0 (fun _ => trivial) (v := ?vv3) ?hy3 ?hk3
  case ho3 => (simp only [List.getElem?_toArray, List.getElem?_cons_succ, List.getElem?_cons_zero]; rfl)
  case hq3 => exact fun _ _ _ h => h
  case hw3 => rfl
  case hy3 =>
    intro W hW
    go_simp
    first | done | with_reducible rfl
  case hk3 =>
  try simp only [Act.put, List.setIfInBounds_toArray, List.set_cons_zero, List.set_cons_succ]
  refine anyK_take 3 (oi := ?oo4) ?ho4 (by kernel_rfl) (by kernel_rfl) (by kernel_rfl) (by kernel_rfl) ?hq4 ?hw4 hT0 (fun _ => trivial) (v := ?vv4) ?hy4 ?hk4
  case ho4 => (simp only [List.getElem?_toArray, List.getElem?_cons_succ, List.getElem?_cons_zero]; rfl)
  case hq4 => exact fun _ _ _ h => h
  case hw4 => rfl
  case hy4 =>
    intro W hW
    obtain ⟨z0, z1, z2, z3, z4, z5, z6, z7, z8, z9, z10, z11, z12, z13, z14, z15, z16, z17, z18, z19, z20⟩ := hW
    go_simp
    first | done | with_reducible rfl
  case hk4 =>
  try simp only [Act.put, List.setIfInBounds_toArray, List.set_cons_zero, List.set_cons_succ]
  refine anyK_take 4 (oi := ?oo5) ?ho5 (by kernel_rfl) (by kernel_rfl) (by kernel_rfl) (by kernel_rfl) ?hq5 ?hw5 hT0 (fun _ => trivial) (v := ?vv5) ?hy5 ?hk5
  case ho5 => (simp only [List.getElem?_toArray, List.getElem?_cons_succ, List.getElem?_cons_zero]; rfl)
  case hq5 => exact fun _ _ _ h => h
  case hw5 => rfl
  case hy5 =>
    intro W hW
    go_simp
    first | done | with_reducible rfl
  case hk5 =>
  try simp only [Act.put, List.setIfInBounds_toArray, List.set_cons_zero, List.set_cons_succ]
  refine anyK_take 5 (oi := ?oo6) ?ho6 (by kernel_rfl) (by kernel_rfl) (by kernel_rfl) (by kernel_rfl) ?hq6 ?hw6 hT0 (fun _ => trivial) (v := ?vv6) ?hy6 ?hk6
  case ho6 => (simp only [List.getElem?_toArray, List.getElem?_cons_succ, List.getElem?_cons_zero]; rfl)
  case hq6 => exact fun _ _ _ h => h
  case hw6 => rfl
  case hy6 =>
    intro W hW
    go_simp
    first | done | with_reducible rfl
  case hk6 =>
  try simp only [Act.put, List.setIfInBounds_toArray, List.set_cons_zero, List.set_cons_succ]
  refine anyK_take 6 (oi := ?oo7) ?ho7 (by kernel_rfl) (by kernel_rfl) (by kernel_rfl) (by kernel_rfl) ?hq7 ?hw7 hT0 (fun _ => trivial) (v := ?vv7) ?hy7 ?hk7
  case ho7 => (simp only [List.getElem?_toArray, List.getElem?_cons_succ, List.getElem?_cons_zero]; rfl)
  case hq7 => exact fun _ _ _ h => h
  case hw7 => rfl
  case hy7 =>
    intro W hW
    go_simp
    first | done | with_reducible rfl
  case hk7 =>
  try simp only [Act.put, List.setIfInBounds_toArray, List.set_cons_zero, List.set_cons_succ]
  refine anyK_take 7 (oi := ?oo8) ?ho8 (by kernel_rfl) (by kernel_rfl) (by kernel_rfl) (by kernel_rfl) ?hq8 ?hw8 hT0 (fun _ => trivial) (v := ?vv8) ?hy8 ?hk8
  case ho8 => (simp only [List.getElem?_toArray, List.getElem?_cons_succ, List.getElem?_cons_zero]; rfl)
  case hq8 => exact fun _ _ _ h => h
  case hw8 => rfl
  case hy8 =>
    intro W hW
    obtain ⟨z0, z1, z2, z3, z4, z5, z6, z7, z8, z9, z10, z11, z12, z13, z14, z15, z16, z17, z18, z19, z20⟩ := hW
    go_simp
    first | done | with_reducible rfl
  case hk8 =>
  try simp only [Act.put, List.setIfInBounds_toArray, List.set_cons_zero, List.set_cons_succ]
  refine anyK_on1 8 (by kernel_rfl) ?_
  refine anyK_one 8 (o := ?oo9) ?ho9 ?hk9
  case ho9 => (simp only [List.getElem?_toArray, List.getElem?_cons_succ, List.getElem?_cons_zero]; rfl)
  case hk9 =>
  intro K hK
  go_simp
  refine (HRS.out _ _ _ (HR.out.ext (ext_trans X0.out yy)) ((HB2.out.at_ X0.out).ext yy)).mono ?_
  rintro e wz ⟨rfl, xx⟩
  try go_wp2_with fail
  replace yy := ext_trans yy xx
  have hT1 := keepK.out _ yy
  refine hK.out _ _ hT1 (fun _ => trivial) ?_
  clear hK K
  try simp only [Act.put, List.setIfInBounds_toArray, List.set_cons_zero, List.set_cons_succ]
  refine anyK_take 9 (oi := ?oo10) ?ho10 (by kernel_rfl) (by kernel_rfl) (by kernel_rfl) (by kernel_rfl) ?hq10 ?hw10 hT1 (fun _ => trivial) (v := ?vv10) ?hy10 ?hk10
  case ho10 => (simp only [List.getElem?_toArray, List.getElem?_cons_succ, List.getElem?_cons_zero]; rfl)
  case hq10 => exact fun _ _ _ h => h
  case hw10 => rfl
  case hy10 =>
    intro W hW
    go_simp
    first | done | with_reducible rfl
  case hk10 =>
  try simp only [Act.put, List.setIfInBounds_toArray, List.set_cons_zero, List.set_cons_succ]
  refine anyK_done (by kernel_rfl) ?_ _
  clear keepK hT0 hT1
  have XZ := hide yy
  have HTZ := hide (HTW.out.ext pwn_ne int_ne_twn yy)
  have HSZ0 : Hid (SourceAt wz BS s k) := hide (Blk.ext HSO.out yy)
  have HXZ := hide (HXX.out.ext yy)
  have X0Z := hide (ext_trans X0.out yy)
  have HB1Z := hide (HB1.out.ext yy)
  have HB2Z := hide (HB2.out.tfr (ts := [123]) (by decide) (TFr.of_ext yy))
  have HSB : Hid (S B) := hide HTW.out.root
  clear yy xx HRS HTW HBX HR HXX HSO HB2
  have f := HB1Z.out.cell
  have HT := hide HTZ.out
  obtain ⟨S5, hS5⟩ : ∃ S5, S5 = S := ⟨_, rfl⟩
  have HS5 : Hid (∀ b, S b → S b ∨ w.heap.size ≤ b) := hide (fun b h => .inl h)
  have HW5 := hide (WFr.of_ext (S := S) XZ.out)
  have HSo := hide HSZ0.out
  have X5 := hide X0Z.out
  have HSZ := hide XZ.out.size
  clear f HTZ HSZ0 X0Z HB1Z HB2Z hS5
  unfold StepPost
  obtain ⟨c0, c1, c2, c3, c4, A, c, bs, Ss, h1, h2, h3, h4, h5, h6, h7, h8, h9, h10⟩ := HT.out
  replace h1 : Blk wz B 86 #[c0, c1, c2, c3, c4, .int .i64 a, .int .i64 b, .slice A ks.length c] := h1
  replace h2 : PosS w0 wz (.agg #[c0, c1, c2, c3, c4]) P := h2
  have hP9 := h2.at_ X5.out
  obtain ⟨cA, cc, aA, ac, bA, bc, e9, -⟩ := hP9
  simp only [Value.agg.injEq, Array.mk.injEq, List.cons.injEq, and_true] at e9
  obtain ⟨rfl, rfl, rfl, rfl, rfl⟩ := e9
  obtain ⟨a0, a1, b0, b1⟩ := HAB.out
  have hpt := HPT.out
  have hwa : IntKind.i64.wrap (a + 1) = a + 1 := by rw [IntKind.wrap_i64]; omega
  have hwb : IntKind.i64.wrap (b + 2) = b + 2 := by rw [IntKind.wrap_i64]; omega
  have hwc : IntKind.i64.wrap (b + 1) = b + 1 := by rw [IntKind.wrap_i64]; omega
  have hwd : IntKind.i64.wrap (2 - P.turn) = 2 - P.turn := by rw [IntKind.wrap_i64]; omega
  have H1 := hide h1
  have H2 := hide h2
  have H3 := hide h3
  have H4 := hide h4
  have H5 := hide h5
  have H6 := hide h6
  have H7 := hide h7
  have H8 := hide h8
  have H9 := hide h9
  have H10 := hide h10
  have HNE := hide (blk_ne HSo.out h1 (by decide))
  have f := h1.cell
  have fz := h1.frozen
  have HPW := hide (show pointsW P x = if x = 2 - P.turn then 2 else if x = 3 ∨ x = 0 then 1 else 0 from rfl)
  generalize pointsW P x = pw at *
  clear h1 h2 h3 h4 h5 h6 h7 h8 h9 h10 HT a0 a1 b0 b1 hpt
  go_upto_region 8 with fail
  have K7 := hide (blk_put (i := 5) (u := .int .i64 (a + 1)) H1.out (cs' := #[.slice cA P.cells.length cc, .slice aA P.hand0.length ac, .slice bA P.hand1.length bc, .int .i64 P.turn, .int .i64 P.quiet, .int .i64 (a + 1), .int .i64 b, .slice A ks.length c]) rfl)
  have G7 := hide ((Gr.refl (B := B) wz).set 5 (.int .i64 (a + 1)))
  clear f fz
  generalize wz.setCell ⟨B, 5, none⟩ (.int .i64 (a + 1)) = w7 at *
  have f := K7.out.cell
  have fz := K7.out.frozen
  by_cases hx : x = 2 - P.turn
  · have t1 : (x == 2 - P.turn) = true := by simpa using hx
    obtain rfl : pw = 2 := HPW.out.trans (if_pos hx)
    clear hx HPW hwc hwa
    skip
    go_wp2
    go_ret
    have K9 := hide ((blk_put (i := 6) (u := .int .i64 (b + 2)) K7.out (cs' := #[.slice cA P.cells.length cc, .slice aA P.hand0.length ac, .slice bA P.hand1.length bc, .int .i64 P.turn, .int .i64 P.quiet, .int .i64 (a + 1), .int .i64 (b + 2), .slice A ks.length c]) rfl))
    have G9 := hide ((G7.out.set 6 (.int .i64 (b + 2))))
    exact ⟨by rw [HRES.out]; rfl, S, by rw [HRES.out]; exact node_tree H1.out H2.out H3.out H4.out H5.out H6.out H7.out H8.out H9.out H10.out G9.out K9.out, HS5.out, HW5.out.later (WFr.of_gr G9.out H1.out (S := fun q => q = B) rfl) (fun g hg => .inl (by rw [hg]; exact HSB.out)), by rw [HRES.out]; exact G9.out.blk HSo.out HNE.out, G9.out.to_ext X5.out H5.out, Nat.le_trans HSZ.out G9.out.size⟩
  · have t1 : (x == 2 - P.turn) = false := by simpa using hx
    have HPW2 := hide (HPW.out.trans (if_neg hx))
    clear hx HPW hwb hwa
    by_cases hx3 : x = 3
    · subst hx3
      obtain rfl : pw = 1 := HPW2.out.trans (if_pos (.inl rfl))
      clear HPW2
      skip
      go_wp2
      go_ret
      have K9 := hide ((blk_put (i := 6) (u := .int .i64 (b + 1)) K7.out (cs' := #[.slice cA P.cells.length cc, .slice aA P.hand0.length ac, .slice bA P.hand1.length bc, .int .i64 P.turn, .int .i64 P.quiet, .int .i64 (a + 1), .int .i64 (b + 1), .slice A ks.length c]) rfl))
      have G9 := hide ((G7.out.set 6 (.int .i64 (b + 1))))
      exact ⟨by rw [HRES.out]; rfl, S, by rw [HRES.out]; exact node_tree H1.out H2.out H3.out H4.out H5.out H6.out H7.out H8.out H9.out H10.out G9.out K9.out, HS5.out, HW5.out.later (WFr.of_gr G9.out H1.out (S := fun q => q = B) rfl) (fun g hg => .inl (by rw [hg]; exact HSB.out)), by rw [HRES.out]; exact G9.out.blk HSo.out HNE.out, G9.out.to_ext X5.out H5.out, Nat.le_trans HSZ.out G9.out.size⟩
    · have t2 : (x == 3) = false := by simpa using hx3
      by_cases hx0 : x = 0
      · subst hx0
        obtain rfl : pw = 1 := HPW2.out.trans (if_pos (.inr rfl))
        clear HPW2
        skip
        go_wp2
        go_ret
        have K9 := hide ((blk_put (i := 6) (u := .int .i64 (b + 1)) K7.out (cs' := #[.slice cA P.cells.length cc, .slice aA P.hand0.length ac, .slice bA P.hand1.length bc, .int .i64 P.turn, .int .i64 P.quiet, .int .i64 (a + 1), .int .i64 (b + 1), .slice A ks.length c]) rfl))
        have G9 := hide ((G7.out.set 6 (.int .i64 (b + 1))))
        exact ⟨by rw [HRES.out]; rfl, S, by rw [HRES.out]; exact node_tree H1.out H2.out H3.out H4.out H5.out H6.out H7.out H8.out H9.out H10.out G9.out K9.out, HS5.out, HW5.out.later (WFr.of_gr G9.out H1.out (S := fun q => q = B) rfl) (fun g hg => .inl (by rw [hg]; exact HSB.out)), by rw [HRES.out]; exact G9.out.blk HSo.out HNE.out, G9.out.to_ext X5.out H5.out, Nat.le_trans HSZ.out G9.out.size⟩
      · have t3 : (x == 0) = false := by simpa using hx0
        obtain rfl : pw = 0 := HPW2.out.trans (if_neg (by omega))
        clear HPW2 hwc hx3 hx0
        rw [Int.add_zero] at HRES
        go_wp2
        go_ret
        have K9 := hide (K7.out)
        have G9 := hide (G7.out)
        exact ⟨by rw [HRES.out]; rfl, S, by rw [HRES.out]; exact node_tree H1.out H2.out H3.out H4.out H5.out H6.out H7.out H8.out H9.out H10.out G9.out K9.out, HS5.out, HW5.out.later (WFr.of_gr G9.out H1.out (S := fun q => q = B) rfl) (fun g hg => .inl (by rw [hg]; exact HSB.out)), by rw [HRES.out]; exact G9.out.blk HSo.out HNE.out, G9.out.to_ext X5.out H5.out, Nat.le_trans HSZ.out G9.out.size⟩
set_option maxHeartbeats 8000000 in
set_option maxRecDepth 100000 in
theorem step_fresh {w0 w : World} {BX BS B n m k : Nat} {R : RulesM} {s : Int} {V : Int} {P : PosM} {a b : Int} {ex first : Bool} {ks : List NT} {S : Nat → Prop} (hV : Valid R) (x0 : Ext w0 w) (hX : SamplerAt w0 w BX BS R) (hSo : SourceAt w BS s k) (hb : w0.heap.size ≤ BS)
    (s0 : 0 ≤ s) (s1 : s ≤ 100000000) (k1 : k ≤ 90000000) (hT : TreeW w0 (n + 1) w B (.node P a b ex ks) S) (hI : WInv R V (.node P a b ex ks)) (hVm : V ≤ 4000) (hr : resultM R P = 0) (hf : first = false) (ha : a = 0) :
    Calls Try.prog 37 #[.pointer (some ⟨BX, 0, none⟩), .pointer (some ⟨B, 0, none⟩), .bool first] w (StepPost w0 w BS s B (n + 1) S (stepW R s (m + 1) first (.node P a b ex ks) k)) := by
  subst hf
  have HRES := hide (stepW_fresh (s := s) (n := m) (t := .node P a b ex ks) (k := k) hr ha)
  replace HRES : Hid (stepW R s (m + 1) false (.node P a b ex ks) k = (.node P (a + 1) (b + pointsW P (sampleM R s 200 P k).1) ex ks, (sampleM R s 200 P k).2, (sampleM R s 200 P k).1)) := HRES
  generalize stepW R s (m + 1) false (.node P a b ex ks) k = T at *
  have t2 : (a == 0) = true := by simpa using ha
  clear ha
  have hS : Sound R P := hI.sound
  obtain ⟨i1, i2, i3, i4⟩ := hI.bd
  have HPT := hide hS.turn
  have HAB : Hid (0 ≤ a ∧ a ≤ 5000 ∧ 0 ≤ b ∧ b ≤ 10000) := hide ⟨i1, by have : a ≤ V := i2; omega, i3, by have : b ≤ 2 * a := i4; have : a ≤ V := i2; omega⟩
  clear i1 i2 i3 i4
  have HRS := hide (fun (W : World) (v u : Value) (h1 : RulesAt W v R) (h2 : PosAt W u P) => Result_any R P v u W h1 h2 hV hS)
  rw [hr] at HRS
  clear hr
  have HTW := hide hT
  obtain ⟨c0, c1, c2, c3, c4, A, c, bs, Ss, h1, h2, -⟩ := hT
  replace h1 : Blk w B 86 #[c0, c1, c2, c3, c4, .int .i64 a, .int .i64 b, .slice A ks.length c] := h1
  replace h2 : PosS w0 w (.agg #[c0, c1, c2, c3, c4]) P := h2
  have hP := h2.at_ x0
  obtain ⟨cA, cc, aA, ac, bA, bc, e, -⟩ := hP
  simp only [Value.agg.injEq, Array.mk.injEq, List.cons.injEq, and_true] at e
  obtain ⟨rfl, rfl, rfl, rfl, rfl⟩ := e
  have HB1 := hide h1
  have HB2 := hide h2
  have X0 := hide x0
  have HXX := hide hX
  obtain ⟨pA, pc, sA, sc, eA, ec, hBX, hR⟩ := hX
  have HBX := hide hBX
  have HR := hide hR
  have HSO := hide hSo
  have HBB := hide hb
  have HVV := hide hV
  have HII := hide hI
  have HSS := hide hS
  have HK1 := hide k1
  have HVM := hide hVm
  clear h1 h2 x0 hBX hR hSo hb hV hI hS k1 hVm
  go_enter Try.func37, Try.ntmps37
  go_upto_region 1 with fail
  have keepK := hide (fun W (h : Ext w W) => (show (fun W => W.cell? ⟨B, 0, none⟩ = some (.slice cA P.cells.length cc) ∧ W.cell? ⟨B, 1, none⟩ = some (.slice aA P.hand0.length ac) ∧ W.cell? ⟨B, 2, none⟩ = some (.slice bA P.hand1.length bc) ∧ W.cell? ⟨B, 3, none⟩ = some (.int .i64 P.turn) ∧ W.cell? ⟨B, 4, none⟩ = some (.int .i64 P.quiet) ∧ W.cell? ⟨B, 5, none⟩ = some (.int .i64 a) ∧ W.cell? ⟨B, 6, none⟩ = some (.int .i64 b) ∧ W.cell? ⟨B, 7, none⟩ = some (.slice A ks.length c) ∧ W.cell? ⟨BX, 0, none⟩ = some (.string R.name) ∧ W.cell? ⟨BX, 1, none⟩ = some (.int .i64 R.width) ∧ W.cell? ⟨BX, 2, none⟩ = some (.int .i64 R.height) ∧ W.cell? ⟨BX, 3, none⟩ = some (.slice pA R.pieces.length pc) ∧ W.cell? ⟨BX, 4, none⟩ = some (.slice sA R.start.length sc) ∧ W.cell? ⟨BX, 5, none⟩ = some (.bool R.falls) ∧ W.cell? ⟨BX, 6, none⟩ = some (.bool R.keeps) ∧ W.cell? ⟨BX, 7, none⟩ = some (.slice eA R.ends.length ec) ∧ W.cell? ⟨BX, 8, none⟩ = some (.int .i64 R.blocked) ∧ W.cell? ⟨BX, 9, none⟩ = some (.int .i64 R.quiet) ∧ W.cell? ⟨BX, 10, none⟩ = some (.int .i64 R.rept) ∧ W.cell? ⟨BX, 11, none⟩ = some (.pointer (some ⟨BS, 0, none⟩)) ∧ Ext w W) W from ⟨(HB1.out.ext h).cell 0, (HB1.out.ext h).cell 1, (HB1.out.ext h).cell 2, (HB1.out.ext h).cell 3, (HB1.out.ext h).cell 4, (HB1.out.ext h).cell 5, (HB1.out.ext h).cell 6, (HB1.out.ext h).cell 7, (HBX.out.ext h).cell 0, (HBX.out.ext h).cell 1, (HBX.out.ext h).cell 2, (HBX.out.ext h).cell 3, (HBX.out.ext h).cell 4, (HBX.out.ext h).cell 5, (HBX.out.ext h).cell 6, (HBX.out.ext h).cell 7, (HBX.out.ext h).cell 8, (HBX.out.ext h).cell 9, (HBX.out.ext h).cell 10, (HBX.out.ext h).cell 11, h⟩))
  have yy : Ext w w.drew := Below.drew (Below.refl _ _)
  refine region_K (fun W => W.cell? ⟨B, 0, none⟩ = some (.slice cA P.cells.length cc) ∧ W.cell? ⟨B, 1, none⟩ = some (.slice aA P.hand0.length ac) ∧ W.cell? ⟨B, 2, none⟩ = some (.slice bA P.hand1.length bc) ∧ W.cell? ⟨B, 3, none⟩ = some (.int .i64 P.turn) ∧ W.cell? ⟨B, 4, none⟩ = some (.int .i64 P.quiet) ∧ W.cell? ⟨B, 5, none⟩ = some (.int .i64 a) ∧ W.cell? ⟨B, 6, none⟩ = some (.int .i64 b) ∧ W.cell? ⟨B, 7, none⟩ = some (.slice A ks.length c) ∧ W.cell? ⟨BX, 0, none⟩ = some (.string R.name) ∧ W.cell? ⟨BX, 1, none⟩ = some (.int .i64 R.width) ∧ W.cell? ⟨BX, 2, none⟩ = some (.int .i64 R.height) ∧ W.cell? ⟨BX, 3, none⟩ = some (.slice pA R.pieces.length pc) ∧ W.cell? ⟨BX, 4, none⟩ = some (.slice sA R.start.length sc) ∧ W.cell? ⟨BX, 5, none⟩ = some (.bool R.falls) ∧ W.cell? ⟨BX, 6, none⟩ = some (.bool R.keeps) ∧ W.cell? ⟨BX, 7, none⟩ = some (.slice eA R.ends.length ec) ∧ W.cell? ⟨BX, 8, none⟩ = some (.int .i64 R.blocked) ∧ W.cell? ⟨BX, 9, none⟩ = some (.int .i64 R.quiet) ∧ W.cell? ⟨BX, 10, none⟩ = some (.int .i64 R.rept) ∧ W.cell? ⟨BX, 11, none⟩ = some (.pointer (some ⟨BS, 0, none⟩)) ∧ Ext w W) (fun _ => True) [] (by kernel_rfl) ?_
  have hT0 := keepK.out _ yy
  refine anyK_take 0 (oi := ?oo11) ?ho11 (by kernel_rfl) (by kernel_rfl) (by kernel_rfl) (by kernel_rfl) ?hq11 ?hw11 hT0 (fun _ => trivial) (v := ?vv11) ?hy11 ?hk11
  case ho11 => (simp only [List.getElem?_toArray, List.getElem?_cons_succ, List.getElem?_cons_zero]; rfl)
  case hq11 => exact fun _ _ _ h => h
  case hw11 => rfl
  case hy11 =>
    intro W hW
    go_simp
    first | done | with_reducible rfl
  case hk11 =>
  try simp only [Act.put, List.setIfInBounds_toArray, List.set_cons_zero, List.set_cons_succ]
  refine anyK_take 1 (oi := ?oo12) ?ho12 (by kernel_rfl) (by kernel_rfl) (by kernel_rfl) (by kernel_rfl) ?hq12 ?hw12 hT0 (fun _ => trivial) (v := ?vv12) ?hy12 ?hk12
  case ho12 => (simp only [List.getElem?_toArray, List.getElem?_cons_succ, List.getElem?_cons_zero]; rfl)
  case hq12 => exact fun _ _ _ h => h
  case hw12 => rfl
  case hy12 =>
    intro W hW
    go_simp
    first | done | with_reducible rfl
  case hk12 =>
  try simp only [Act.put, List.setIfInBounds_toArray, List.set_cons_zero, List.set_cons_succ]
  refine anyK_take 2 (oi := ?oo13) ?ho13 (by kernel_rfl) (by kernel_rfl) (by kernel_rfl) (by kernel_rfl) ?hq13 ?hw13 hT0 (fun _ => trivial) (v := ?vv13) ?hy13 ?hk13
  case ho13 => (simp only [List.getElem?_toArray, List.getElem?_cons_succ, List.getElem?_cons_zero]; rfl)
  case hq13 => exact fun _ _ _ h => h
  case hw13 => rfl
  case hy13 =>
    intro W hW
    go_simp
    first | done | with_reducible rfl
  case hk13 =>
  try simp only [Act.put, List.setIfInBounds_toArray, List.set_cons_zero, List.set_cons_succ]
  refine anyK_take 3 (oi := ?oo14) ?ho14 (by kernel_rfl) (by kernel_rfl) (by kernel_rfl) (by kernel_rfl) ?hq14 ?hw14 hT0 (fun _ => trivial) (v := ?vv14) ?hy14 ?hk14
  case ho14 => (simp only [List.getElem?_toArray, List.getElem?_cons_succ, List.getElem?_cons_zero]; rfl)
  case hq14 => exact fun _ _ _ h => h
  case hw14 => rfl
  case hy14 =>
    intro W hW
    obtain ⟨z0, z1, z2, z3, z4, z5, z6, z7, z8, z9, z10, z11, z12, z13, z14, z15, z16, z17, z18, z19, z20⟩ := hW
    go_simp
    first | done | with_reducible rfl
  case hk14 =>
  try simp only [Act.put, List.setIfInBounds_toArray, List.set_cons_zero, List.set_cons_succ]
  refine anyK_take 4 (oi := ?oo15) ?ho15 (by kernel_rfl) (by kernel_rfl) (by kernel_rfl) (by kernel_rfl) ?hq15 ?hw15 hT0 (fun _ => trivial) (v := ?vv15) ?hy15 ?hk15
  case ho15 => (simp only [List.getElem?_toArray, List.getElem?_cons_succ, List.getElem?_cons_zero]; rfl)
  case hq15 => exact fun _ _ _ h => h
  case hw15 => rfl
  case hy15 =>
    intro W hW
    go_simp
    first | done | with_reducible rfl
  case hk15 =>
  try simp only [Act.put, List.setIfInBounds_toArray, List.set_cons_zero, List.set_cons_succ]
  refine anyK_take 5 (oi := ?oo16) ?ho16 (by kernel_rfl) (by kernel_rfl) (by kernel_rfl) (by kernel_rfl) ?hq16 ?hw16 hT0 (fun _ => trivial) (v := ?vv16) ?hy16 ?hk16
  case ho16 => (simp only [List.getElem?_toArray, List.getElem?_cons_succ, List.getElem?_cons_zero]; rfl)
  case hq16 => exact fun _ _ _ h => h
  case hw16 => rfl
  case hy16 =>
    intro W hW
    go_simp
    first | done | with_reducible rfl
  case hk16 =>
  try simp only [Act.put, List.setIfInBounds_toArray, List.set_cons_zero, List.set_cons_succ]
  refine anyK_take 6 (oi := ?oo17) ?ho17 (by kernel_rfl) (by kernel_rfl) (by kernel_rfl) (by kernel_rfl) ?hq17 ?hw17 hT0 (fun _ => trivial) (v := ?vv17) ?hy17 ?hk17
  case ho17 => (simp only [List.getElem?_toArray, List.getElem?_cons_succ, List.getElem?_cons_zero]; rfl)
  case hq17 => exact fun _ _ _ h => h
  case hw17 => rfl
  case hy17 =>
    intro W hW
    go_simp
    first | done | with_reducible rfl
  case hk17 =>
  try simp only [Act.put, List.setIfInBounds_toArray, List.set_cons_zero, List.set_cons_succ]
  refine anyK_take 7 (oi := ?oo18) ?ho18 (by kernel_rfl) (by kernel_rfl) (by kernel_rfl) (by kernel_rfl) ?hq18 ?hw18 hT0 (fun _ => trivial) (v := ?vv18) ?hy18 ?hk18
  case ho18 => (simp only [List.getElem?_toArray, List.getElem?_cons_succ, List.getElem?_cons_zero]; rfl)
  case hq18 => exact fun _ _ _ h => h
  case hw18 => rfl
  case hy18 =>
    intro W hW
    obtain ⟨z0, z1, z2, z3, z4, z5, z6, z7, z8, z9, z10, z11, z12, z13, z14, z15, z16, z17, z18, z19, z20⟩ := hW
    go_simp
    first | done | with_reducible rfl
  case hk18 =>
  try simp only [Act.put, List.setIfInBounds_toArray, List.set_cons_zero, List.set_cons_succ]
  refine anyK_on1 8 (by kernel_rfl) ?_
  refine anyK_one 8 (o := ?oo19) ?ho19 ?hk19
  case ho19 => (simp only [List.getElem?_toArray, List.getElem?_cons_succ, List.getElem?_cons_zero]; rfl)
  case hk19 =>
  intro K hK
  go_simp
  refine (HRS.out _ _ _ (HR.out.ext (ext_trans X0.out yy)) ((HB2.out.at_ X0.out).ext yy)).mono ?_
  rintro e wz ⟨rfl, xx⟩
  try go_wp2_with fail
  replace yy := ext_trans yy xx
  have hT1 := keepK.out _ yy
  refine hK.out _ _ hT1 (fun _ => trivial) ?_
  clear hK K
  try simp only [Act.put, List.setIfInBounds_toArray, List.set_cons_zero, List.set_cons_succ]
  refine anyK_take 9 (oi := ?oo20) ?ho20 (by kernel_rfl) (by kernel_rfl) (by kernel_rfl) (by kernel_rfl) ?hq20 ?hw20 hT1 (fun _ => trivial) (v := ?vv20) ?hy20 ?hk20
  case ho20 => (simp only [List.getElem?_toArray, List.getElem?_cons_succ, List.getElem?_cons_zero]; rfl)
  case hq20 => exact fun _ _ _ h => h
  case hw20 => rfl
  case hy20 =>
    intro W hW
    go_simp
    first | done | with_reducible rfl
  case hk20 =>
  try simp only [Act.put, List.setIfInBounds_toArray, List.set_cons_zero, List.set_cons_succ]
  refine anyK_done (by kernel_rfl) ?_ _
  clear keepK hT0 hT1
  have XZ := hide yy
  have HTZ := hide (HTW.out.ext pwn_ne int_ne_twn yy)
  have HSZ0 : Hid (SourceAt wz BS s k) := hide (Blk.ext HSO.out yy)
  have HXZ := hide (HXX.out.ext yy)
  have X0Z := hide (ext_trans X0.out yy)
  have HB1Z := hide (HB1.out.ext yy)
  have HB2Z := hide (HB2.out.tfr (ts := [123]) (by decide) (TFr.of_ext yy))
  have HSB : Hid (S B) := hide HTW.out.root
  clear yy xx HRS HTW HBX HR HXX HSO HB2
  have HSA := hide (sample_any (k := k) HVV.out HSS.out X0Z.out HXZ.out HSZ0.out HBB.out s0 s1 HK1.out HB2Z.out)
  unfold SamplePost at HSA
  have f := HB1Z.out.cell
  generalize sampleM R s 200 P k = r at *
  obtain ⟨x, k'⟩ := r
  go_wp2_with fail
  refine HSA.out.mono ?_
  rintro e w4 ⟨rfl, hs4, g4⟩
  have TF4 := tfr_source g4 HSZ0.out
  have HT : Hid (TreeW w0 (n + 1) w4 B (.node P a b ex ks) S) := hide (HTZ.out.wfr (T := fun _ => False) (WFr.of_tfr TF4) (fun _ _ h => h))
  have HS5 : Hid (∀ b, S b → S b ∨ w.heap.size ≤ b) := hide (fun b h => .inl h)
  have HW5 := hide ((WFr.of_ext (S := S) XZ.out).trans (WFr.of_tfr TF4))
  have HSo := hide hs4
  have X5 := hide (g4.to_ext X0Z.out HBB.out)
  have HSZ := hide (Nat.le_trans XZ.out.size g4.size)
  clear f HTZ HSZ0 X0Z HB1Z HB2Z hs4 g4 TF4 HSA HXZ
  unfold StepPost
  obtain ⟨c0, c1, c2, c3, c4, A, c, bs, Ss, h1, h2, h3, h4, h5, h6, h7, h8, h9, h10⟩ := HT.out
  replace h1 : Blk w4 B 86 #[c0, c1, c2, c3, c4, .int .i64 a, .int .i64 b, .slice A ks.length c] := h1
  replace h2 : PosS w0 w4 (.agg #[c0, c1, c2, c3, c4]) P := h2
  have hP9 := h2.at_ X5.out
  obtain ⟨cA, cc, aA, ac, bA, bc, e9, -⟩ := hP9
  simp only [Value.agg.injEq, Array.mk.injEq, List.cons.injEq, and_true] at e9
  obtain ⟨rfl, rfl, rfl, rfl, rfl⟩ := e9
  obtain ⟨a0, a1, b0, b1⟩ := HAB.out
  have hpt := HPT.out
  have hwa : IntKind.i64.wrap (a + 1) = a + 1 := by rw [IntKind.wrap_i64]; omega
  have hwb : IntKind.i64.wrap (b + 2) = b + 2 := by rw [IntKind.wrap_i64]; omega
  have hwc : IntKind.i64.wrap (b + 1) = b + 1 := by rw [IntKind.wrap_i64]; omega
  have hwd : IntKind.i64.wrap (2 - P.turn) = 2 - P.turn := by rw [IntKind.wrap_i64]; omega
  have H1 := hide h1
  have H2 := hide h2
  have H3 := hide h3
  have H4 := hide h4
  have H5 := hide h5
  have H6 := hide h6
  have H7 := hide h7
  have H8 := hide h8
  have H9 := hide h9
  have H10 := hide h10
  have HNE := hide (blk_ne HSo.out h1 (by decide))
  have f := h1.cell
  have fz := h1.frozen
  have HPW := hide (show pointsW P x = if x = 2 - P.turn then 2 else if x = 3 ∨ x = 0 then 1 else 0 from rfl)
  generalize pointsW P x = pw at *
  clear h1 h2 h3 h4 h5 h6 h7 h8 h9 h10 HT a0 a1 b0 b1 hpt
  go_upto_region 8 with fail
  have K7 := hide (blk_put (i := 5) (u := .int .i64 (a + 1)) H1.out (cs' := #[.slice cA P.cells.length cc, .slice aA P.hand0.length ac, .slice bA P.hand1.length bc, .int .i64 P.turn, .int .i64 P.quiet, .int .i64 (a + 1), .int .i64 b, .slice A ks.length c]) rfl)
  have G7 := hide ((Gr.refl (B := B) w4).set 5 (.int .i64 (a + 1)))
  clear f fz
  generalize w4.setCell ⟨B, 5, none⟩ (.int .i64 (a + 1)) = w7 at *
  have f := K7.out.cell
  have fz := K7.out.frozen
  by_cases hx : x = 2 - P.turn
  · have t1 : (x == 2 - P.turn) = true := by simpa using hx
    obtain rfl : pw = 2 := HPW.out.trans (if_pos hx)
    clear hx HPW hwc hwa
    skip
    go_wp2
    go_ret
    have K9 := hide ((blk_put (i := 6) (u := .int .i64 (b + 2)) K7.out (cs' := #[.slice cA P.cells.length cc, .slice aA P.hand0.length ac, .slice bA P.hand1.length bc, .int .i64 P.turn, .int .i64 P.quiet, .int .i64 (a + 1), .int .i64 (b + 2), .slice A ks.length c]) rfl))
    have G9 := hide ((G7.out.set 6 (.int .i64 (b + 2))))
    exact ⟨by rw [HRES.out]; rfl, S, by rw [HRES.out]; exact node_tree H1.out H2.out H3.out H4.out H5.out H6.out H7.out H8.out H9.out H10.out G9.out K9.out, HS5.out, HW5.out.later (WFr.of_gr G9.out H1.out (S := fun q => q = B) rfl) (fun g hg => .inl (by rw [hg]; exact HSB.out)), by rw [HRES.out]; exact G9.out.blk HSo.out HNE.out, G9.out.to_ext X5.out H5.out, Nat.le_trans HSZ.out G9.out.size⟩
  · have t1 : (x == 2 - P.turn) = false := by simpa using hx
    have HPW2 := hide (HPW.out.trans (if_neg hx))
    clear hx HPW hwb hwa
    by_cases hx3 : x = 3
    · subst hx3
      obtain rfl : pw = 1 := HPW2.out.trans (if_pos (.inl rfl))
      clear HPW2
      skip
      go_wp2
      go_ret
      have K9 := hide ((blk_put (i := 6) (u := .int .i64 (b + 1)) K7.out (cs' := #[.slice cA P.cells.length cc, .slice aA P.hand0.length ac, .slice bA P.hand1.length bc, .int .i64 P.turn, .int .i64 P.quiet, .int .i64 (a + 1), .int .i64 (b + 1), .slice A ks.length c]) rfl))
      have G9 := hide ((G7.out.set 6 (.int .i64 (b + 1))))
      exact ⟨by rw [HRES.out]; rfl, S, by rw [HRES.out]; exact node_tree H1.out H2.out H3.out H4.out H5.out H6.out H7.out H8.out H9.out H10.out G9.out K9.out, HS5.out, HW5.out.later (WFr.of_gr G9.out H1.out (S := fun q => q = B) rfl) (fun g hg => .inl (by rw [hg]; exact HSB.out)), by rw [HRES.out]; exact G9.out.blk HSo.out HNE.out, G9.out.to_ext X5.out H5.out, Nat.le_trans HSZ.out G9.out.size⟩
    · have t2 : (x == 3) = false := by simpa using hx3
      by_cases hx0 : x = 0
      · subst hx0
        obtain rfl : pw = 1 := HPW2.out.trans (if_pos (.inr rfl))
        clear HPW2
        skip
        go_wp2
        go_ret
        have K9 := hide ((blk_put (i := 6) (u := .int .i64 (b + 1)) K7.out (cs' := #[.slice cA P.cells.length cc, .slice aA P.hand0.length ac, .slice bA P.hand1.length bc, .int .i64 P.turn, .int .i64 P.quiet, .int .i64 (a + 1), .int .i64 (b + 1), .slice A ks.length c]) rfl))
        have G9 := hide ((G7.out.set 6 (.int .i64 (b + 1))))
        exact ⟨by rw [HRES.out]; rfl, S, by rw [HRES.out]; exact node_tree H1.out H2.out H3.out H4.out H5.out H6.out H7.out H8.out H9.out H10.out G9.out K9.out, HS5.out, HW5.out.later (WFr.of_gr G9.out H1.out (S := fun q => q = B) rfl) (fun g hg => .inl (by rw [hg]; exact HSB.out)), by rw [HRES.out]; exact G9.out.blk HSo.out HNE.out, G9.out.to_ext X5.out H5.out, Nat.le_trans HSZ.out G9.out.size⟩
      · have t3 : (x == 0) = false := by simpa using hx0
        obtain rfl : pw = 0 := HPW2.out.trans (if_neg (by omega))
        clear HPW2 hwc hx3 hx0
        rw [Int.add_zero] at HRES
        go_wp2
        go_ret
        have K9 := hide (K7.out)
        have G9 := hide (G7.out)
        exact ⟨by rw [HRES.out]; rfl, S, by rw [HRES.out]; exact node_tree H1.out H2.out H3.out H4.out H5.out H6.out H7.out H8.out H9.out H10.out G9.out K9.out, HS5.out, HW5.out.later (WFr.of_gr G9.out H1.out (S := fun q => q = B) rfl) (fun g hg => .inl (by rw [hg]; exact HSB.out)), by rw [HRES.out]; exact G9.out.blk HSo.out HNE.out, G9.out.to_ext X5.out H5.out, Nat.le_trans HSZ.out G9.out.size⟩
set_option maxHeartbeats 8000000 in
set_option maxRecDepth 100000 in
theorem step_open_true {w0 w : World} {BX BS B n m k : Nat} {R : RulesM} {s : Int} {V : Int} {P : PosM} {a b : Int} {ex : Bool} {ks : List NT} {S : Nat → Prop} (hV : Valid R) (x0 : Ext w0 w) (hX : SamplerAt w0 w BX BS R) (hSo : SourceAt w BS s k) (hb : w0.heap.size ≤ BS)
    (s0 : 0 ≤ s) (s1 : s ≤ 100000000) (k1 : k ≤ 90000000) (hT : TreeW w0 (n + 1) w B (.node P a b ex ks) S) (hI : WInv R V (.node P a b ex ks)) (hVm : V ≤ 4000) (hr : resultM R P = 0) {N N' : Nat} (hN : N ≤ N') (hgr : ∀ (W : World), Ext w W → Calls Try.prog 36 #[.pointer (some ⟨BX, 0, none⟩), .pointer (some ⟨B, 0, none⟩)] W (GrowPost w0 W B (N + 1) S (growW R (.node P a b ex ks))))
    (ih : ∀ (W : World) (bk : Nat) (T : Nat → Prop), Ext w0 W → SamplerAt w0 W BX BS R → SourceAt W BS s k → TreeW w0 N W bk ((growW R (.node P a b ex ks)).kids.getD (chooseW (growW R (.node P a b ex ks))) NT.nil) T →
      Calls Try.prog 37 #[.pointer (some ⟨BX, 0, none⟩), .pointer (some ⟨bk, 0, none⟩), .bool false] W (StepPost w0 W BS s bk N' T (stepW R s m false ((growW R (.node P a b ex ks)).kids.getD (chooseW (growW R (.node P a b ex ks))) NT.nil) k))) :
    Calls Try.prog 37 #[.pointer (some ⟨BX, 0, none⟩), .pointer (some ⟨B, 0, none⟩), .bool true] w (StepPost w0 w BS s B (N' + 1) S (stepW R s (m + 1) true (.node P a b ex ks) k)) := by
  have HRES := hide (stepW_open (s := s) (n := m) (f := true) (t := .node P a b ex ks) (k := k) hr (.inl rfl))
  have HGI := hide (hI.grow hV (by have := hI.bd; omega) hr)
  have HGK := hide (growW_kids (t := .node P a b ex ks) hI.sound hr)
  obtain ⟨ks2, hks2⟩ : ∃ ks2, growW R (.node P a b ex ks) = .node P a b ex ks2 := ⟨(growW R (.node P a b ex ks)).kids, by unfold growW; split <;> rfl⟩
  rw [hks2] at HRES HGI HGK hgr ih
  replace HRES : Hid (stepW R s (m + 1) true (.node P a b ex ks) k = (.node P (a + 1) (b + pointsW P (stepW R s m false (ks2.getD (chooseW (.node P a b ex ks2)) NT.nil) k).2.2) ex (ks2.set (chooseW (.node P a b ex ks2)) (stepW R s m false (ks2.getD (chooseW (.node P a b ex ks2)) NT.nil) k).1),
      (stepW R s m false (ks2.getD (chooseW (.node P a b ex ks2)) NT.nil) k).2.1, (stepW R s m false (ks2.getD (chooseW (.node P a b ex ks2)) NT.nil) k).2.2)) := HRES
  replace ih := fun W bk T (h1 : Ext w0 W) (h2 : SamplerAt w0 W BX BS R) (h3 : SourceAt W BS s k) (h4 : TreeW w0 N W bk (ks2.getD (chooseW (.node P a b ex ks2)) NT.nil) T) => ih W bk T h1 h2 h3 h4
  replace ih : ∀ (W : World) (bk : Nat) (T : Nat → Prop), Ext w0 W → SamplerAt w0 W BX BS R → SourceAt W BS s k → TreeW w0 N W bk (ks2.getD (chooseW (.node P a b ex ks2)) NT.nil) T → Calls Try.prog 37 #[.pointer (some ⟨BX, 0, none⟩), .pointer (some ⟨bk, 0, none⟩), .bool false] W (StepPost w0 W BS s bk N' T (stepW R s m false (ks2.getD (chooseW (.node P a b ex ks2)) NT.nil) k)) := ih
  generalize stepW R s (m + 1) true (.node P a b ex ks) k = T at *
  have HGR := hide hgr
  have HIH := hide ih
  have HNN := hide hN
  have HCLT := hide (choose_lt (t := .node P a b ex ks2) HGK.out)
  replace HCLT : Hid (chooseW (.node P a b ex ks2) < ks2.length) := HCLT
  clear hks2 hgr ih hN
  have hS : Sound R P := hI.sound
  obtain ⟨i1, i2, i3, i4⟩ := hI.bd
  have HPT := hide hS.turn
  have HAB : Hid (0 ≤ a ∧ a ≤ 5000 ∧ 0 ≤ b ∧ b ≤ 10000) := hide ⟨i1, by have : a ≤ V := i2; omega, i3, by have : b ≤ 2 * a := i4; have : a ≤ V := i2; omega⟩
  clear i1 i2 i3 i4
  have HRS := hide (fun (W : World) (v u : Value) (h1 : RulesAt W v R) (h2 : PosAt W u P) => Result_any R P v u W h1 h2 hV hS)
  rw [hr] at HRS
  clear hr
  have HTW := hide hT
  obtain ⟨c0, c1, c2, c3, c4, A, c, bs, Ss, h1, h2, -⟩ := hT
  replace h1 : Blk w B 86 #[c0, c1, c2, c3, c4, .int .i64 a, .int .i64 b, .slice A ks.length c] := h1
  replace h2 : PosS w0 w (.agg #[c0, c1, c2, c3, c4]) P := h2
  have hP := h2.at_ x0
  obtain ⟨cA, cc, aA, ac, bA, bc, e, -⟩ := hP
  simp only [Value.agg.injEq, Array.mk.injEq, List.cons.injEq, and_true] at e
  obtain ⟨rfl, rfl, rfl, rfl, rfl⟩ := e
  have HB1 := hide h1
  have HB2 := hide h2
  have X0 := hide x0
  have HXX := hide hX
  obtain ⟨pA, pc, sA, sc, eA, ec, hBX, hR⟩ := hX
  have HBX := hide hBX
  have HR := hide hR
  have HSO := hide hSo
  have HBB := hide hb
  have HVV := hide hV
  have HII := hide hI
  have HSS := hide hS
  have HK1 := hide k1
  have HVM := hide hVm
  clear h1 h2 x0 hBX hR hSo hb hV hI hS k1 hVm
  go_enter Try.func37, Try.ntmps37
  go_upto_region 1 with fail
  have keepK := hide (fun W (h : Ext w W) => (show (fun W => W.cell? ⟨B, 0, none⟩ = some (.slice cA P.cells.length cc) ∧ W.cell? ⟨B, 1, none⟩ = some (.slice aA P.hand0.length ac) ∧ W.cell? ⟨B, 2, none⟩ = some (.slice bA P.hand1.length bc) ∧ W.cell? ⟨B, 3, none⟩ = some (.int .i64 P.turn) ∧ W.cell? ⟨B, 4, none⟩ = some (.int .i64 P.quiet) ∧ W.cell? ⟨B, 5, none⟩ = some (.int .i64 a) ∧ W.cell? ⟨B, 6, none⟩ = some (.int .i64 b) ∧ W.cell? ⟨B, 7, none⟩ = some (.slice A ks.length c) ∧ W.cell? ⟨BX, 0, none⟩ = some (.string R.name) ∧ W.cell? ⟨BX, 1, none⟩ = some (.int .i64 R.width) ∧ W.cell? ⟨BX, 2, none⟩ = some (.int .i64 R.height) ∧ W.cell? ⟨BX, 3, none⟩ = some (.slice pA R.pieces.length pc) ∧ W.cell? ⟨BX, 4, none⟩ = some (.slice sA R.start.length sc) ∧ W.cell? ⟨BX, 5, none⟩ = some (.bool R.falls) ∧ W.cell? ⟨BX, 6, none⟩ = some (.bool R.keeps) ∧ W.cell? ⟨BX, 7, none⟩ = some (.slice eA R.ends.length ec) ∧ W.cell? ⟨BX, 8, none⟩ = some (.int .i64 R.blocked) ∧ W.cell? ⟨BX, 9, none⟩ = some (.int .i64 R.quiet) ∧ W.cell? ⟨BX, 10, none⟩ = some (.int .i64 R.rept) ∧ W.cell? ⟨BX, 11, none⟩ = some (.pointer (some ⟨BS, 0, none⟩)) ∧ Ext w W) W from ⟨(HB1.out.ext h).cell 0, (HB1.out.ext h).cell 1, (HB1.out.ext h).cell 2, (HB1.out.ext h).cell 3, (HB1.out.ext h).cell 4, (HB1.out.ext h).cell 5, (HB1.out.ext h).cell 6, (HB1.out.ext h).cell 7, (HBX.out.ext h).cell 0, (HBX.out.ext h).cell 1, (HBX.out.ext h).cell 2, (HBX.out.ext h).cell 3, (HBX.out.ext h).cell 4, (HBX.out.ext h).cell 5, (HBX.out.ext h).cell 6, (HBX.out.ext h).cell 7, (HBX.out.ext h).cell 8, (HBX.out.ext h).cell 9, (HBX.out.ext h).cell 10, (HBX.out.ext h).cell 11, h⟩))
  have yy : Ext w w.drew := Below.drew (Below.refl _ _)
  refine region_K (fun W => W.cell? ⟨B, 0, none⟩ = some (.slice cA P.cells.length cc) ∧ W.cell? ⟨B, 1, none⟩ = some (.slice aA P.hand0.length ac) ∧ W.cell? ⟨B, 2, none⟩ = some (.slice bA P.hand1.length bc) ∧ W.cell? ⟨B, 3, none⟩ = some (.int .i64 P.turn) ∧ W.cell? ⟨B, 4, none⟩ = some (.int .i64 P.quiet) ∧ W.cell? ⟨B, 5, none⟩ = some (.int .i64 a) ∧ W.cell? ⟨B, 6, none⟩ = some (.int .i64 b) ∧ W.cell? ⟨B, 7, none⟩ = some (.slice A ks.length c) ∧ W.cell? ⟨BX, 0, none⟩ = some (.string R.name) ∧ W.cell? ⟨BX, 1, none⟩ = some (.int .i64 R.width) ∧ W.cell? ⟨BX, 2, none⟩ = some (.int .i64 R.height) ∧ W.cell? ⟨BX, 3, none⟩ = some (.slice pA R.pieces.length pc) ∧ W.cell? ⟨BX, 4, none⟩ = some (.slice sA R.start.length sc) ∧ W.cell? ⟨BX, 5, none⟩ = some (.bool R.falls) ∧ W.cell? ⟨BX, 6, none⟩ = some (.bool R.keeps) ∧ W.cell? ⟨BX, 7, none⟩ = some (.slice eA R.ends.length ec) ∧ W.cell? ⟨BX, 8, none⟩ = some (.int .i64 R.blocked) ∧ W.cell? ⟨BX, 9, none⟩ = some (.int .i64 R.quiet) ∧ W.cell? ⟨BX, 10, none⟩ = some (.int .i64 R.rept) ∧ W.cell? ⟨BX, 11, none⟩ = some (.pointer (some ⟨BS, 0, none⟩)) ∧ Ext w W) (fun _ => True) [] (by kernel_rfl) ?_
  have hT0 := keepK.out _ yy
  refine anyK_take 0 (oi := ?oo21) ?ho21 (by kernel_rfl) (by kernel_rfl) (by kernel_rfl) (by kernel_rfl) ?hq21 ?hw21 hT0 (fun _ => trivial) (v := ?vv21) ?hy21 ?hk21
  case ho21 => (simp only [List.getElem?_toArray, List.getElem?_cons_succ, List.getElem?_cons_zero]; rfl)
  case hq21 => exact fun _ _ _ h => h
  case hw21 => rfl
  case hy21 =>
    intro W hW
    go_simp
    first | done | with_reducible rfl
  case hk21 =>
  try simp only [Act.put, List.setIfInBounds_toArray, List.set_cons_zero, List.set_cons_succ]
  refine anyK_take 1 (oi := ?oo22) ?ho22 (by kernel_rfl) (by kernel_rfl) (by kernel_rfl) (by kernel_rfl) ?hq22 ?hw22 hT0 (fun _ => trivial) (v := ?vv22) ?hy22 ?hk22
  case ho22 => (simp only [List.getElem?_toArray, List.getElem?_cons_succ, List.getElem?_cons_zero]; rfl)
  case hq22 => exact fun _ _ _ h => h
  case hw22 => rfl
  case hy22 =>
    intro W hW
    go_simp
    first | done | with_reducible rfl
  case hk22 =>
  try simp only [Act.put, List.setIfInBounds_toArray, List.set_cons_zero, List.set_cons_succ]
  refine anyK_take 2 (oi := ?oo23) ?ho23 (by kernel_rfl) (by kernel_rfl) (by kernel_rfl) (by kernel_rfl) ?hq23 ?hw23 hT0 (fun _ => trivial) (v := ?vv23) ?hy23 ?hk23
  case ho23 => (simp only [List.getElem?_toArray, List.getElem?_cons_succ, List.getElem?_cons_zero]; rfl)
  case hq23 => exact fun _ _ _ h => h
  case hw23 => rfl
  case hy23 =>
    intro W hW
    go_simp
    first | done | with_reducible rfl
  case hk23 =>
  try simp only [Act.put, List.setIfInBounds_toArray, List.set_cons_zero, List.set_cons_succ]
  refine anyK_take 3 (oi := ?oo24) ?ho24 (by kernel_rfl) (by kernel_rfl) (by kernel_rfl) (by kernel_rfl) ?hq24 ?hw24 hT0 (fun _ => trivial) (v := ?vv24) ?hy24 ?hk24
  case ho24 => (simp only [List.getElem?_toArray, List.getElem?_cons_succ, List.getElem?_cons_zero]; rfl)
  case hq24 => exact fun _ _ _ h => h
  case hw24 => rfl
  case hy24 =>
    intro W hW
    obtain ⟨z0, z1, z2, z3, z4, z5, z6, z7, z8, z9, z10, z11, z12, z13, z14, z15, z16, z17, z18, z19, z20⟩ := hW
    go_simp
    first | done | with_reducible rfl
  case hk24 =>
  try simp only [Act.put, List.setIfInBounds_toArray, List.set_cons_zero, List.set_cons_succ]
  refine anyK_take 4 (oi := ?oo25) ?ho25 (by kernel_rfl) (by kernel_rfl) (by kernel_rfl) (by kernel_rfl) ?hq25 ?hw25 hT0 (fun _ => trivial) (v := ?vv25) ?hy25 ?hk25
  case ho25 => (simp only [List.getElem?_toArray, List.getElem?_cons_succ, List.getElem?_cons_zero]; rfl)
  case hq25 => exact fun _ _ _ h => h
  case hw25 => rfl
  case hy25 =>
    intro W hW
    go_simp
    first | done | with_reducible rfl
  case hk25 =>
  try simp only [Act.put, List.setIfInBounds_toArray, List.set_cons_zero, List.set_cons_succ]
  refine anyK_take 5 (oi := ?oo26) ?ho26 (by kernel_rfl) (by kernel_rfl) (by kernel_rfl) (by kernel_rfl) ?hq26 ?hw26 hT0 (fun _ => trivial) (v := ?vv26) ?hy26 ?hk26
  case ho26 => (simp only [List.getElem?_toArray, List.getElem?_cons_succ, List.getElem?_cons_zero]; rfl)
  case hq26 => exact fun _ _ _ h => h
  case hw26 => rfl
  case hy26 =>
    intro W hW
    go_simp
    first | done | with_reducible rfl
  case hk26 =>
  try simp only [Act.put, List.setIfInBounds_toArray, List.set_cons_zero, List.set_cons_succ]
  refine anyK_take 6 (oi := ?oo27) ?ho27 (by kernel_rfl) (by kernel_rfl) (by kernel_rfl) (by kernel_rfl) ?hq27 ?hw27 hT0 (fun _ => trivial) (v := ?vv27) ?hy27 ?hk27
  case ho27 => (simp only [List.getElem?_toArray, List.getElem?_cons_succ, List.getElem?_cons_zero]; rfl)
  case hq27 => exact fun _ _ _ h => h
  case hw27 => rfl
  case hy27 =>
    intro W hW
    go_simp
    first | done | with_reducible rfl
  case hk27 =>
  try simp only [Act.put, List.setIfInBounds_toArray, List.set_cons_zero, List.set_cons_succ]
  refine anyK_take 7 (oi := ?oo28) ?ho28 (by kernel_rfl) (by kernel_rfl) (by kernel_rfl) (by kernel_rfl) ?hq28 ?hw28 hT0 (fun _ => trivial) (v := ?vv28) ?hy28 ?hk28
  case ho28 => (simp only [List.getElem?_toArray, List.getElem?_cons_succ, List.getElem?_cons_zero]; rfl)
  case hq28 => exact fun _ _ _ h => h
  case hw28 => rfl
  case hy28 =>
    intro W hW
    obtain ⟨z0, z1, z2, z3, z4, z5, z6, z7, z8, z9, z10, z11, z12, z13, z14, z15, z16, z17, z18, z19, z20⟩ := hW
    go_simp
    first | done | with_reducible rfl
  case hk28 =>
  try simp only [Act.put, List.setIfInBounds_toArray, List.set_cons_zero, List.set_cons_succ]
  refine anyK_on1 8 (by kernel_rfl) ?_
  refine anyK_one 8 (o := ?oo29) ?ho29 ?hk29
  case ho29 => (simp only [List.getElem?_toArray, List.getElem?_cons_succ, List.getElem?_cons_zero]; rfl)
  case hk29 =>
  intro K hK
  go_simp
  refine (HRS.out _ _ _ (HR.out.ext (ext_trans X0.out yy)) ((HB2.out.at_ X0.out).ext yy)).mono ?_
  rintro e wz ⟨rfl, xx⟩
  try go_wp2_with fail
  replace yy := ext_trans yy xx
  have hT1 := keepK.out _ yy
  refine hK.out _ _ hT1 (fun _ => trivial) ?_
  clear hK K
  try simp only [Act.put, List.setIfInBounds_toArray, List.set_cons_zero, List.set_cons_succ]
  refine anyK_take 9 (oi := ?oo30) ?ho30 (by kernel_rfl) (by kernel_rfl) (by kernel_rfl) (by kernel_rfl) ?hq30 ?hw30 hT1 (fun _ => trivial) (v := ?vv30) ?hy30 ?hk30
  case ho30 => (simp only [List.getElem?_toArray, List.getElem?_cons_succ, List.getElem?_cons_zero]; rfl)
  case hq30 => exact fun _ _ _ h => h
  case hw30 => rfl
  case hy30 =>
    intro W hW
    go_simp
    first | done | with_reducible rfl
  case hk30 =>
  try simp only [Act.put, List.setIfInBounds_toArray, List.set_cons_zero, List.set_cons_succ]
  refine anyK_done (by kernel_rfl) ?_ _
  clear keepK hT0 hT1
  have XZ := hide yy
  have HTZ := hide (HTW.out.ext pwn_ne int_ne_twn yy)
  have HSZ0 : Hid (SourceAt wz BS s k) := hide (Blk.ext HSO.out yy)
  have HXZ := hide (HXX.out.ext yy)
  have X0Z := hide (ext_trans X0.out yy)
  have HB1Z := hide (HB1.out.ext yy)
  have HB2Z := hide (HB2.out.tfr (ts := [123]) (by decide) (TFr.of_ext yy))
  have HSB : Hid (S B) := hide HTW.out.root
  clear yy xx HRS HTW HBX HR HXX HSO HB2
  have f := HB1Z.out.cell
  go_wp2_with fail
  refine (HGR.out _ XZ.out).mono ?_
  rintro e w3 ⟨rfl, S3, hT3, hS3, hW3, hx3, hz3⟩
  have HX3 := hide (HXZ.out.wfr (WFr.of_mfr hW3))
  have HSo3 : Hid (SourceAt w3 BS s k) := hide (hW3 _ _ _ HSZ0.out (fun e => absurd e (by decide)))
  clear f HGR HTZ HB1Z HB2Z
  obtain ⟨c0, c1, c2, c3, c4, A3, cc3, bs3, Ss3, h1, h2, h3, h4, h5, h6, h7, h8, h9, h10⟩ := hT3
  replace h1 : Blk w3 B 86 #[c0, c1, c2, c3, c4, .int .i64 a, .int .i64 b, .slice A3 ks2.length cc3] := h1
  have hlen : ks2.length ≤ 1000000 := by
    rcases HGI.out.klen with e | ⟨-, e⟩
    · exact absurd e HGK.out
    · replace e : ks2.length = (listM R P).length := e
      rw [e]
      exact listM_len HVV.out HSS.out
  have HCHO := hide (choose_any (P := P) (ex := ex) h1 (own_cells h3).1 h6 hlen HGK.out HAB.out.1 HAB.out.2.1 (fun i q b' e1 e2 => by
    obtain ⟨n5, n6⟩ := (h7 i q b' e1 e2).numsW
    obtain ⟨j1, j2, j3, j4⟩ := (HGI.out.kid i q e1).bd
    have := HVM.out
    exact ⟨n5, n6, j1, by omega, j3, by omega⟩))
  generalize chooseW (.node P a b ex ks2) = j at *
  generalize hkj : ks2.getD j NT.nil = kj at *
  have hgj : ks2[j]? = some kj := by rw [← hkj]; exact getD_get' HCLT.out
  clear hkj
  have H1 := hide h1
  have H2 := hide h2
  have H3 := hide h3
  have H4 := hide h4
  have H5 := hide h5
  have H6 := hide h6
  have H7 := hide h7
  have H8 := hide h8
  have H9 := hide h9
  have H10 := hide h10
  have HGJ := hide hgj
  have X3 := hide hx3
  have HS3 := hide hS3
  have HW3 := hide (WFr.of_mfr hW3)
  have HZ3 := hide hz3
  clear h1 h2 h3 h4 h5 h6 h7 h8 h9 h10 hgj hx3 hS3 hW3 hz3 hlen
  go_wp2_with fail
  refine HCHO.out.mono ?_
  rintro e w4 ⟨bk, rfl, hbk, x4⟩
  have HBK := hide hbk
  have X4 := hide x4
  have HIH2 := hide (HIH.out w4 bk (Ss3 j) (ext_trans X3.out x4) (HX3.out.ext x4) (Blk.ext HSo3.out x4) ((H7.out j kj bk HGJ.out hbk).ext pwn_ne int_ne_twn x4))
  unfold ptrV
  clear hbk x4 HCHO HIH
  unfold StepPost at HIH2
  generalize stepW R s m false kj k = r at *
  obtain ⟨t', k', x⟩ := r
  go_wp2_with fail
  refine HIH2.out.mono ?_
  rintro e w5 ⟨rfl, S', hT', hS', hM', hs5, hx5, hz5⟩
  have hbr : ∀ b, S' b → Ss3 j b ∨ w3.heap.size ≤ b := fun b hb => (hS' b hb).imp id (fun h => Nat.le_trans X4.out.size h)
  obtain ⟨S5, hT5, hS5, hW5⟩ := kid_tree (ex := ex) HNN.out H1.out H2.out H3.out H4.out H5.out H6.out H7.out H8.out H9.out H10.out HCLT.out HBK.out hT' hbr ((WFr.of_ext X4.out).trans hM')
  have HT := hide hT5
  have HS5 : Hid (∀ b, S5 b → S b ∨ w.heap.size ≤ b) := hide (fun b hb => (hS5 b hb).elim (fun h => (HS3.out b h).imp id (fun h => Nat.le_trans XZ.out.size h)) (fun h => .inr (by have := XZ.out.size; have := HZ3.out; omega)))
  have HW5 := hide (((WFr.of_ext (S := S) XZ.out).trans HW3.out).later hW5 (fun g hg => (HS3.out g hg).imp id (fun h => Nat.le_trans XZ.out.size h)))
  have HSo := hide hs5
  have X5 := hide hx5
  have HSZ : Hid (w.heap.size ≤ w5.heap.size) := hide (by have := XZ.out.size; have := HZ3.out; have := X4.out.size; omega)
  generalize ks2.set j t' = ks5 at *
  clear hT' hS' hM' hs5 hx5 hz5 hbr hT5 hS5 hW5 HIH2 H1 H2 H3 H4 H5 H6 H7 H8 H9 H10 HBK X4 X3 HS3 HW3 HZ3 HGJ HX3 HSo3 HXZ HSZ0 X0Z HB1 HGI HGK HCLT
  have HKS : True := trivial
  unfold StepPost
  obtain ⟨c0, c1, c2, c3, c4, A, c, bs, Ss, h1, h2, h3, h4, h5, h6, h7, h8, h9, h10⟩ := HT.out
  replace h1 : Blk w5 B 86 #[c0, c1, c2, c3, c4, .int .i64 a, .int .i64 b, .slice A ks5.length c] := h1
  replace h2 : PosS w0 w5 (.agg #[c0, c1, c2, c3, c4]) P := h2
  have hP9 := h2.at_ X5.out
  obtain ⟨cA, cc, aA, ac, bA, bc, e9, -⟩ := hP9
  simp only [Value.agg.injEq, Array.mk.injEq, List.cons.injEq, and_true] at e9
  obtain ⟨rfl, rfl, rfl, rfl, rfl⟩ := e9
  obtain ⟨a0, a1, b0, b1⟩ := HAB.out
  have hpt := HPT.out
  have hwa : IntKind.i64.wrap (a + 1) = a + 1 := by rw [IntKind.wrap_i64]; omega
  have hwb : IntKind.i64.wrap (b + 2) = b + 2 := by rw [IntKind.wrap_i64]; omega
  have hwc : IntKind.i64.wrap (b + 1) = b + 1 := by rw [IntKind.wrap_i64]; omega
  have hwd : IntKind.i64.wrap (2 - P.turn) = 2 - P.turn := by rw [IntKind.wrap_i64]; omega
  have H1 := hide h1
  have H2 := hide h2
  have H3 := hide h3
  have H4 := hide h4
  have H5 := hide h5
  have H6 := hide h6
  have H7 := hide h7
  have H8 := hide h8
  have H9 := hide h9
  have H10 := hide h10
  have HNE := hide (blk_ne HSo.out h1 (by decide))
  have f := h1.cell
  have fz := h1.frozen
  have HPW := hide (show pointsW P x = if x = 2 - P.turn then 2 else if x = 3 ∨ x = 0 then 1 else 0 from rfl)
  generalize pointsW P x = pw at *
  clear h1 h2 h3 h4 h5 h6 h7 h8 h9 h10 HT a0 a1 b0 b1 hpt
  go_upto_region 8 with fail
  have K7 := hide (blk_put (i := 5) (u := .int .i64 (a + 1)) H1.out (cs' := #[.slice cA P.cells.length cc, .slice aA P.hand0.length ac, .slice bA P.hand1.length bc, .int .i64 P.turn, .int .i64 P.quiet, .int .i64 (a + 1), .int .i64 b, .slice A ks5.length c]) rfl)
  have G7 := hide ((Gr.refl (B := B) w5).set 5 (.int .i64 (a + 1)))
  clear f fz
  generalize w5.setCell ⟨B, 5, none⟩ (.int .i64 (a + 1)) = w7 at *
  have f := K7.out.cell
  have fz := K7.out.frozen
  by_cases hx : x = 2 - P.turn
  · have t1 : (x == 2 - P.turn) = true := by simpa using hx
    obtain rfl : pw = 2 := HPW.out.trans (if_pos hx)
    clear hx HPW hwc hwa
    skip
    go_wp2
    go_ret
    have K9 := hide ((blk_put (i := 6) (u := .int .i64 (b + 2)) K7.out (cs' := #[.slice cA P.cells.length cc, .slice aA P.hand0.length ac, .slice bA P.hand1.length bc, .int .i64 P.turn, .int .i64 P.quiet, .int .i64 (a + 1), .int .i64 (b + 2), .slice A ks5.length c]) rfl))
    have G9 := hide ((G7.out.set 6 (.int .i64 (b + 2))))
    exact ⟨by rw [HRES.out]; rfl, S5, by rw [HRES.out]; exact node_tree H1.out H2.out H3.out H4.out H5.out H6.out H7.out H8.out H9.out H10.out G9.out K9.out, HS5.out, HW5.out.later (WFr.of_gr G9.out H1.out (S := fun q => q = B) rfl) (fun g hg => .inl (by rw [hg]; exact HSB.out)), by rw [HRES.out]; exact G9.out.blk HSo.out HNE.out, G9.out.to_ext X5.out H5.out, Nat.le_trans HSZ.out G9.out.size⟩
  · have t1 : (x == 2 - P.turn) = false := by simpa using hx
    have HPW2 := hide (HPW.out.trans (if_neg hx))
    clear hx HPW hwb hwa
    by_cases hx3 : x = 3
    · subst hx3
      obtain rfl : pw = 1 := HPW2.out.trans (if_pos (.inl rfl))
      clear HPW2
      skip
      go_wp2
      go_ret
      have K9 := hide ((blk_put (i := 6) (u := .int .i64 (b + 1)) K7.out (cs' := #[.slice cA P.cells.length cc, .slice aA P.hand0.length ac, .slice bA P.hand1.length bc, .int .i64 P.turn, .int .i64 P.quiet, .int .i64 (a + 1), .int .i64 (b + 1), .slice A ks5.length c]) rfl))
      have G9 := hide ((G7.out.set 6 (.int .i64 (b + 1))))
      exact ⟨by rw [HRES.out]; rfl, S5, by rw [HRES.out]; exact node_tree H1.out H2.out H3.out H4.out H5.out H6.out H7.out H8.out H9.out H10.out G9.out K9.out, HS5.out, HW5.out.later (WFr.of_gr G9.out H1.out (S := fun q => q = B) rfl) (fun g hg => .inl (by rw [hg]; exact HSB.out)), by rw [HRES.out]; exact G9.out.blk HSo.out HNE.out, G9.out.to_ext X5.out H5.out, Nat.le_trans HSZ.out G9.out.size⟩
    · have t2 : (x == 3) = false := by simpa using hx3
      by_cases hx0 : x = 0
      · subst hx0
        obtain rfl : pw = 1 := HPW2.out.trans (if_pos (.inr rfl))
        clear HPW2
        skip
        go_wp2
        go_ret
        have K9 := hide ((blk_put (i := 6) (u := .int .i64 (b + 1)) K7.out (cs' := #[.slice cA P.cells.length cc, .slice aA P.hand0.length ac, .slice bA P.hand1.length bc, .int .i64 P.turn, .int .i64 P.quiet, .int .i64 (a + 1), .int .i64 (b + 1), .slice A ks5.length c]) rfl))
        have G9 := hide ((G7.out.set 6 (.int .i64 (b + 1))))
        exact ⟨by rw [HRES.out]; rfl, S5, by rw [HRES.out]; exact node_tree H1.out H2.out H3.out H4.out H5.out H6.out H7.out H8.out H9.out H10.out G9.out K9.out, HS5.out, HW5.out.later (WFr.of_gr G9.out H1.out (S := fun q => q = B) rfl) (fun g hg => .inl (by rw [hg]; exact HSB.out)), by rw [HRES.out]; exact G9.out.blk HSo.out HNE.out, G9.out.to_ext X5.out H5.out, Nat.le_trans HSZ.out G9.out.size⟩
      · have t3 : (x == 0) = false := by simpa using hx0
        obtain rfl : pw = 0 := HPW2.out.trans (if_neg (by omega))
        clear HPW2 hwc hx3 hx0
        rw [Int.add_zero] at HRES
        go_wp2
        go_ret
        have K9 := hide (K7.out)
        have G9 := hide (G7.out)
        exact ⟨by rw [HRES.out]; rfl, S5, by rw [HRES.out]; exact node_tree H1.out H2.out H3.out H4.out H5.out H6.out H7.out H8.out H9.out H10.out G9.out K9.out, HS5.out, HW5.out.later (WFr.of_gr G9.out H1.out (S := fun q => q = B) rfl) (fun g hg => .inl (by rw [hg]; exact HSB.out)), by rw [HRES.out]; exact G9.out.blk HSo.out HNE.out, G9.out.to_ext X5.out H5.out, Nat.le_trans HSZ.out G9.out.size⟩
set_option maxHeartbeats 8000000 in
set_option maxRecDepth 100000 in
theorem step_open_false {w0 w : World} {BX BS B n m k : Nat} {R : RulesM} {s : Int} {V : Int} {P : PosM} {a b : Int} {ex : Bool} {ks : List NT} {S : Nat → Prop} (hV : Valid R) (x0 : Ext w0 w) (hX : SamplerAt w0 w BX BS R) (hSo : SourceAt w BS s k) (hb : w0.heap.size ≤ BS)
    (s0 : 0 ≤ s) (s1 : s ≤ 100000000) (k1 : k ≤ 90000000) (hT : TreeW w0 (n + 1) w B (.node P a b ex ks) S) (hI : WInv R V (.node P a b ex ks)) (hVm : V ≤ 4000) (hr : resultM R P = 0) (ha : a ≠ 0) {N N' : Nat} (hN : N ≤ N') (hgr : ∀ (W : World), Ext w W → Calls Try.prog 36 #[.pointer (some ⟨BX, 0, none⟩), .pointer (some ⟨B, 0, none⟩)] W (GrowPost w0 W B (N + 1) S (growW R (.node P a b ex ks))))
    (ih : ∀ (W : World) (bk : Nat) (T : Nat → Prop), Ext w0 W → SamplerAt w0 W BX BS R → SourceAt W BS s k → TreeW w0 N W bk ((growW R (.node P a b ex ks)).kids.getD (chooseW (growW R (.node P a b ex ks))) NT.nil) T →
      Calls Try.prog 37 #[.pointer (some ⟨BX, 0, none⟩), .pointer (some ⟨bk, 0, none⟩), .bool false] W (StepPost w0 W BS s bk N' T (stepW R s m false ((growW R (.node P a b ex ks)).kids.getD (chooseW (growW R (.node P a b ex ks))) NT.nil) k))) :
    Calls Try.prog 37 #[.pointer (some ⟨BX, 0, none⟩), .pointer (some ⟨B, 0, none⟩), .bool false] w (StepPost w0 w BS s B (N' + 1) S (stepW R s (m + 1) false (.node P a b ex ks) k)) := by
  have HRES := hide (stepW_open (s := s) (n := m) (f := false) (t := .node P a b ex ks) (k := k) hr (.inr ha))
  have HGI := hide (hI.grow hV (by have := hI.bd; omega) hr)
  have HGK := hide (growW_kids (t := .node P a b ex ks) hI.sound hr)
  obtain ⟨ks2, hks2⟩ : ∃ ks2, growW R (.node P a b ex ks) = .node P a b ex ks2 := ⟨(growW R (.node P a b ex ks)).kids, by unfold growW; split <;> rfl⟩
  rw [hks2] at HRES HGI HGK hgr ih
  replace HRES : Hid (stepW R s (m + 1) false (.node P a b ex ks) k = (.node P (a + 1) (b + pointsW P (stepW R s m false (ks2.getD (chooseW (.node P a b ex ks2)) NT.nil) k).2.2) ex (ks2.set (chooseW (.node P a b ex ks2)) (stepW R s m false (ks2.getD (chooseW (.node P a b ex ks2)) NT.nil) k).1),
      (stepW R s m false (ks2.getD (chooseW (.node P a b ex ks2)) NT.nil) k).2.1, (stepW R s m false (ks2.getD (chooseW (.node P a b ex ks2)) NT.nil) k).2.2)) := HRES
  replace ih := fun W bk T (h1 : Ext w0 W) (h2 : SamplerAt w0 W BX BS R) (h3 : SourceAt W BS s k) (h4 : TreeW w0 N W bk (ks2.getD (chooseW (.node P a b ex ks2)) NT.nil) T) => ih W bk T h1 h2 h3 h4
  replace ih : ∀ (W : World) (bk : Nat) (T : Nat → Prop), Ext w0 W → SamplerAt w0 W BX BS R → SourceAt W BS s k → TreeW w0 N W bk (ks2.getD (chooseW (.node P a b ex ks2)) NT.nil) T → Calls Try.prog 37 #[.pointer (some ⟨BX, 0, none⟩), .pointer (some ⟨bk, 0, none⟩), .bool false] W (StepPost w0 W BS s bk N' T (stepW R s m false (ks2.getD (chooseW (.node P a b ex ks2)) NT.nil) k)) := ih
  generalize stepW R s (m + 1) false (.node P a b ex ks) k = T at *
  have HGR := hide hgr
  have HIH := hide ih
  have HNN := hide hN
  have HCLT := hide (choose_lt (t := .node P a b ex ks2) HGK.out)
  replace HCLT : Hid (chooseW (.node P a b ex ks2) < ks2.length) := HCLT
  clear hks2 hgr ih hN
  have HNA := hide ha
  have t2 : (a == 0) = false := by simpa using ha
  clear ha
  have hS : Sound R P := hI.sound
  obtain ⟨i1, i2, i3, i4⟩ := hI.bd
  have HPT := hide hS.turn
  have HAB : Hid (0 ≤ a ∧ a ≤ 5000 ∧ 0 ≤ b ∧ b ≤ 10000) := hide ⟨i1, by have : a ≤ V := i2; omega, i3, by have : b ≤ 2 * a := i4; have : a ≤ V := i2; omega⟩
  clear i1 i2 i3 i4
  have HRS := hide (fun (W : World) (v u : Value) (h1 : RulesAt W v R) (h2 : PosAt W u P) => Result_any R P v u W h1 h2 hV hS)
  rw [hr] at HRS
  clear hr
  have HTW := hide hT
  obtain ⟨c0, c1, c2, c3, c4, A, c, bs, Ss, h1, h2, -⟩ := hT
  replace h1 : Blk w B 86 #[c0, c1, c2, c3, c4, .int .i64 a, .int .i64 b, .slice A ks.length c] := h1
  replace h2 : PosS w0 w (.agg #[c0, c1, c2, c3, c4]) P := h2
  have hP := h2.at_ x0
  obtain ⟨cA, cc, aA, ac, bA, bc, e, -⟩ := hP
  simp only [Value.agg.injEq, Array.mk.injEq, List.cons.injEq, and_true] at e
  obtain ⟨rfl, rfl, rfl, rfl, rfl⟩ := e
  have HB1 := hide h1
  have HB2 := hide h2
  have X0 := hide x0
  have HXX := hide hX
  obtain ⟨pA, pc, sA, sc, eA, ec, hBX, hR⟩ := hX
  have HBX := hide hBX
  have HR := hide hR
  have HSO := hide hSo
  have HBB := hide hb
  have HVV := hide hV
  have HII := hide hI
  have HSS := hide hS
  have HK1 := hide k1
  have HVM := hide hVm
  clear h1 h2 x0 hBX hR hSo hb hV hI hS k1 hVm
  go_enter Try.func37, Try.ntmps37
  go_upto_region 1 with fail
  have keepK := hide (fun W (h : Ext w W) => (show (fun W => W.cell? ⟨B, 0, none⟩ = some (.slice cA P.cells.length cc) ∧ W.cell? ⟨B, 1, none⟩ = some (.slice aA P.hand0.length ac) ∧ W.cell? ⟨B, 2, none⟩ = some (.slice bA P.hand1.length bc) ∧ W.cell? ⟨B, 3, none⟩ = some (.int .i64 P.turn) ∧ W.cell? ⟨B, 4, none⟩ = some (.int .i64 P.quiet) ∧ W.cell? ⟨B, 5, none⟩ = some (.int .i64 a) ∧ W.cell? ⟨B, 6, none⟩ = some (.int .i64 b) ∧ W.cell? ⟨B, 7, none⟩ = some (.slice A ks.length c) ∧ W.cell? ⟨BX, 0, none⟩ = some (.string R.name) ∧ W.cell? ⟨BX, 1, none⟩ = some (.int .i64 R.width) ∧ W.cell? ⟨BX, 2, none⟩ = some (.int .i64 R.height) ∧ W.cell? ⟨BX, 3, none⟩ = some (.slice pA R.pieces.length pc) ∧ W.cell? ⟨BX, 4, none⟩ = some (.slice sA R.start.length sc) ∧ W.cell? ⟨BX, 5, none⟩ = some (.bool R.falls) ∧ W.cell? ⟨BX, 6, none⟩ = some (.bool R.keeps) ∧ W.cell? ⟨BX, 7, none⟩ = some (.slice eA R.ends.length ec) ∧ W.cell? ⟨BX, 8, none⟩ = some (.int .i64 R.blocked) ∧ W.cell? ⟨BX, 9, none⟩ = some (.int .i64 R.quiet) ∧ W.cell? ⟨BX, 10, none⟩ = some (.int .i64 R.rept) ∧ W.cell? ⟨BX, 11, none⟩ = some (.pointer (some ⟨BS, 0, none⟩)) ∧ Ext w W) W from ⟨(HB1.out.ext h).cell 0, (HB1.out.ext h).cell 1, (HB1.out.ext h).cell 2, (HB1.out.ext h).cell 3, (HB1.out.ext h).cell 4, (HB1.out.ext h).cell 5, (HB1.out.ext h).cell 6, (HB1.out.ext h).cell 7, (HBX.out.ext h).cell 0, (HBX.out.ext h).cell 1, (HBX.out.ext h).cell 2, (HBX.out.ext h).cell 3, (HBX.out.ext h).cell 4, (HBX.out.ext h).cell 5, (HBX.out.ext h).cell 6, (HBX.out.ext h).cell 7, (HBX.out.ext h).cell 8, (HBX.out.ext h).cell 9, (HBX.out.ext h).cell 10, (HBX.out.ext h).cell 11, h⟩))
  have yy : Ext w w.drew := Below.drew (Below.refl _ _)
  refine region_K (fun W => W.cell? ⟨B, 0, none⟩ = some (.slice cA P.cells.length cc) ∧ W.cell? ⟨B, 1, none⟩ = some (.slice aA P.hand0.length ac) ∧ W.cell? ⟨B, 2, none⟩ = some (.slice bA P.hand1.length bc) ∧ W.cell? ⟨B, 3, none⟩ = some (.int .i64 P.turn) ∧ W.cell? ⟨B, 4, none⟩ = some (.int .i64 P.quiet) ∧ W.cell? ⟨B, 5, none⟩ = some (.int .i64 a) ∧ W.cell? ⟨B, 6, none⟩ = some (.int .i64 b) ∧ W.cell? ⟨B, 7, none⟩ = some (.slice A ks.length c) ∧ W.cell? ⟨BX, 0, none⟩ = some (.string R.name) ∧ W.cell? ⟨BX, 1, none⟩ = some (.int .i64 R.width) ∧ W.cell? ⟨BX, 2, none⟩ = some (.int .i64 R.height) ∧ W.cell? ⟨BX, 3, none⟩ = some (.slice pA R.pieces.length pc) ∧ W.cell? ⟨BX, 4, none⟩ = some (.slice sA R.start.length sc) ∧ W.cell? ⟨BX, 5, none⟩ = some (.bool R.falls) ∧ W.cell? ⟨BX, 6, none⟩ = some (.bool R.keeps) ∧ W.cell? ⟨BX, 7, none⟩ = some (.slice eA R.ends.length ec) ∧ W.cell? ⟨BX, 8, none⟩ = some (.int .i64 R.blocked) ∧ W.cell? ⟨BX, 9, none⟩ = some (.int .i64 R.quiet) ∧ W.cell? ⟨BX, 10, none⟩ = some (.int .i64 R.rept) ∧ W.cell? ⟨BX, 11, none⟩ = some (.pointer (some ⟨BS, 0, none⟩)) ∧ Ext w W) (fun _ => True) [] (by kernel_rfl) ?_
  have hT0 := keepK.out _ yy
  refine anyK_take 0 (oi := ?oo31) ?ho31 (by kernel_rfl) (by kernel_rfl) (by kernel_rfl) (by kernel_rfl) ?hq31 ?hw31 hT0 (fun _ => trivial) (v := ?vv31) ?hy31 ?hk31
  case ho31 => (simp only [List.getElem?_toArray, List.getElem?_cons_succ, List.getElem?_cons_zero]; rfl)
  case hq31 => exact fun _ _ _ h => h
  case hw31 => rfl
  case hy31 =>
    intro W hW
    go_simp
    first | done | with_reducible rfl
  case hk31 =>
  try simp only [Act.put, List.setIfInBounds_toArray, List.set_cons_zero, List.set_cons_succ]
  refine anyK_take 1 (oi := ?oo32) ?ho32 (by kernel_rfl) (by kernel_rfl) (by kernel_rfl) (by kernel_rfl) ?hq32 ?hw32 hT0 (fun _ => trivial) (v := ?vv32) ?hy32 ?hk32
  case ho32 => (simp only [List.getElem?_toArray, List.getElem?_cons_succ, List.getElem?_cons_zero]; rfl)
  case hq32 => exact fun _ _ _ h => h
  case hw32 => rfl
  case hy32 =>
    intro W hW
    go_simp
    first | done | with_reducible rfl
  case hk32 =>
  try simp only [Act.put, List.setIfInBounds_toArray, List.set_cons_zero, List.set_cons_succ]
  refine anyK_take 2 (oi := ?oo33) ?ho33 (by kernel_rfl) (by kernel_rfl) (by kernel_rfl) (by kernel_rfl) ?hq33 ?hw33 hT0 (fun _ => trivial) (v := ?vv33) ?hy33 ?hk33
  case ho33 => (simp only [List.getElem?_toArray, List.getElem?_cons_succ, List.getElem?_cons_zero]; rfl)
  case hq33 => exact fun _ _ _ h => h
  case hw33 => rfl
  case hy33 =>
    intro W hW
    go_simp
    first | done | with_reducible rfl
  case hk33 =>
  try simp only [Act.put, List.setIfInBounds_toArray, List.set_cons_zero, List.set_cons_succ]
  refine anyK_take 3 (oi := ?oo34) ?ho34 (by kernel_rfl) (by kernel_rfl) (by kernel_rfl) (by kernel_rfl) ?hq34 ?hw34 hT0 (fun _ => trivial) (v := ?vv34) ?hy34 ?hk34
  case ho34 => (simp only [List.getElem?_toArray, List.getElem?_cons_succ, List.getElem?_cons_zero]; rfl)
  case hq34 => exact fun _ _ _ h => h
  case hw34 => rfl
  case hy34 =>
    intro W hW
    obtain ⟨z0, z1, z2, z3, z4, z5, z6, z7, z8, z9, z10, z11, z12, z13, z14, z15, z16, z17, z18, z19, z20⟩ := hW
    go_simp
    first | done | with_reducible rfl
  case hk34 =>
  try simp only [Act.put, List.setIfInBounds_toArray, List.set_cons_zero, List.set_cons_succ]
  refine anyK_take 4 (oi := ?oo35) ?ho35 (by kernel_rfl) (by kernel_rfl) (by kernel_rfl) (by kernel_rfl) ?hq35 ?hw35 hT0 (fun _ => trivial) (v := ?vv35) ?hy35 ?hk35
  case ho35 => (simp only [List.getElem?_toArray, List.getElem?_cons_succ, List.getElem?_cons_zero]; rfl)
  case hq35 => exact fun _ _ _ h => h
  case hw35 => rfl
  case hy35 =>
    intro W hW
    go_simp
    first | done | with_reducible rfl
  case hk35 =>
  try simp only [Act.put, List.setIfInBounds_toArray, List.set_cons_zero, List.set_cons_succ]
  refine anyK_take 5 (oi := ?oo36) ?ho36 (by kernel_rfl) (by kernel_rfl) (by kernel_rfl) (by kernel_rfl) ?hq36 ?hw36 hT0 (fun _ => trivial) (v := ?vv36) ?hy36 ?hk36
  case ho36 => (simp only [List.getElem?_toArray, List.getElem?_cons_succ, List.getElem?_cons_zero]; rfl)
  case hq36 => exact fun _ _ _ h => h
  case hw36 => rfl
  case hy36 =>
    intro W hW
    go_simp
    first | done | with_reducible rfl
  case hk36 =>
  try simp only [Act.put, List.setIfInBounds_toArray, List.set_cons_zero, List.set_cons_succ]
  refine anyK_take 6 (oi := ?oo37) ?ho37 (by kernel_rfl) (by kernel_rfl) (by kernel_rfl) (by kernel_rfl) ?hq37 ?hw37 hT0 (fun _ => trivial) (v := ?vv37) ?hy37 ?hk37
  case ho37 => (simp only [List.getElem?_toArray, List.getElem?_cons_succ, List.getElem?_cons_zero]; rfl)
  case hq37 => exact fun _ _ _ h => h
  case hw37 => rfl
  case hy37 =>
    intro W hW
    go_simp
    first | done | with_reducible rfl
  case hk37 =>
  try simp only [Act.put, List.setIfInBounds_toArray, List.set_cons_zero, List.set_cons_succ]
  refine anyK_take 7 (oi := ?oo38) ?ho38 (by kernel_rfl) (by kernel_rfl) (by kernel_rfl) (by kernel_rfl) ?hq38 ?hw38 hT0 (fun _ => trivial) (v := ?vv38) ?hy38 ?hk38
  case ho38 => (simp only [List.getElem?_toArray, List.getElem?_cons_succ, List.getElem?_cons_zero]; rfl)
  case hq38 => exact fun _ _ _ h => h
  case hw38 => rfl
  case hy38 =>
    intro W hW
    obtain ⟨z0, z1, z2, z3, z4, z5, z6, z7, z8, z9, z10, z11, z12, z13, z14, z15, z16, z17, z18, z19, z20⟩ := hW
    go_simp
    first | done | with_reducible rfl
  case hk38 =>
  try simp only [Act.put, List.setIfInBounds_toArray, List.set_cons_zero, List.set_cons_succ]
  refine anyK_on1 8 (by kernel_rfl) ?_
  refine anyK_one 8 (o := ?oo39) ?ho39 ?hk39
  case ho39 => (simp only [List.getElem?_toArray, List.getElem?_cons_succ, List.getElem?_cons_zero]; rfl)
  case hk39 =>
  intro K hK
  go_simp
  refine (HRS.out _ _ _ (HR.out.ext (ext_trans X0.out yy)) ((HB2.out.at_ X0.out).ext yy)).mono ?_
  rintro e wz ⟨rfl, xx⟩
  try go_wp2_with fail
  replace yy := ext_trans yy xx
  have hT1 := keepK.out _ yy
  refine hK.out _ _ hT1 (fun _ => trivial) ?_
  clear hK K
  try simp only [Act.put, List.setIfInBounds_toArray, List.set_cons_zero, List.set_cons_succ]
  refine anyK_take 9 (oi := ?oo40) ?ho40 (by kernel_rfl) (by kernel_rfl) (by kernel_rfl) (by kernel_rfl) ?hq40 ?hw40 hT1 (fun _ => trivial) (v := ?vv40) ?hy40 ?hk40
  case ho40 => (simp only [List.getElem?_toArray, List.getElem?_cons_succ, List.getElem?_cons_zero]; rfl)
  case hq40 => exact fun _ _ _ h => h
  case hw40 => rfl
  case hy40 =>
    intro W hW
    go_simp
    first | done | with_reducible rfl
  case hk40 =>
  try simp only [Act.put, List.setIfInBounds_toArray, List.set_cons_zero, List.set_cons_succ]
  refine anyK_done (by kernel_rfl) ?_ _
  clear keepK hT0 hT1
  have XZ := hide yy
  have HTZ := hide (HTW.out.ext pwn_ne int_ne_twn yy)
  have HSZ0 : Hid (SourceAt wz BS s k) := hide (Blk.ext HSO.out yy)
  have HXZ := hide (HXX.out.ext yy)
  have X0Z := hide (ext_trans X0.out yy)
  have HB1Z := hide (HB1.out.ext yy)
  have HB2Z := hide (HB2.out.tfr (ts := [123]) (by decide) (TFr.of_ext yy))
  have HSB : Hid (S B) := hide HTW.out.root
  clear yy xx HRS HTW HBX HR HXX HSO HB2
  have f := HB1Z.out.cell
  go_wp2_with fail
  refine (HGR.out _ XZ.out).mono ?_
  rintro e w3 ⟨rfl, S3, hT3, hS3, hW3, hx3, hz3⟩
  have HX3 := hide (HXZ.out.wfr (WFr.of_mfr hW3))
  have HSo3 : Hid (SourceAt w3 BS s k) := hide (hW3 _ _ _ HSZ0.out (fun e => absurd e (by decide)))
  clear f HGR HTZ HB1Z HB2Z
  obtain ⟨c0, c1, c2, c3, c4, A3, cc3, bs3, Ss3, h1, h2, h3, h4, h5, h6, h7, h8, h9, h10⟩ := hT3
  replace h1 : Blk w3 B 86 #[c0, c1, c2, c3, c4, .int .i64 a, .int .i64 b, .slice A3 ks2.length cc3] := h1
  have hlen : ks2.length ≤ 1000000 := by
    rcases HGI.out.klen with e | ⟨-, e⟩
    · exact absurd e HGK.out
    · replace e : ks2.length = (listM R P).length := e
      rw [e]
      exact listM_len HVV.out HSS.out
  have HCHO := hide (choose_any (P := P) (ex := ex) h1 (own_cells h3).1 h6 hlen HGK.out HAB.out.1 HAB.out.2.1 (fun i q b' e1 e2 => by
    obtain ⟨n5, n6⟩ := (h7 i q b' e1 e2).numsW
    obtain ⟨j1, j2, j3, j4⟩ := (HGI.out.kid i q e1).bd
    have := HVM.out
    exact ⟨n5, n6, j1, by omega, j3, by omega⟩))
  generalize chooseW (.node P a b ex ks2) = j at *
  generalize hkj : ks2.getD j NT.nil = kj at *
  have hgj : ks2[j]? = some kj := by rw [← hkj]; exact getD_get' HCLT.out
  clear hkj
  have H1 := hide h1
  have H2 := hide h2
  have H3 := hide h3
  have H4 := hide h4
  have H5 := hide h5
  have H6 := hide h6
  have H7 := hide h7
  have H8 := hide h8
  have H9 := hide h9
  have H10 := hide h10
  have HGJ := hide hgj
  have X3 := hide hx3
  have HS3 := hide hS3
  have HW3 := hide (WFr.of_mfr hW3)
  have HZ3 := hide hz3
  clear h1 h2 h3 h4 h5 h6 h7 h8 h9 h10 hgj hx3 hS3 hW3 hz3 hlen
  go_wp2_with fail
  refine HCHO.out.mono ?_
  rintro e w4 ⟨bk, rfl, hbk, x4⟩
  have HBK := hide hbk
  have X4 := hide x4
  have HIH2 := hide (HIH.out w4 bk (Ss3 j) (ext_trans X3.out x4) (HX3.out.ext x4) (Blk.ext HSo3.out x4) ((H7.out j kj bk HGJ.out hbk).ext pwn_ne int_ne_twn x4))
  unfold ptrV
  clear hbk x4 HCHO HIH
  unfold StepPost at HIH2
  generalize stepW R s m false kj k = r at *
  obtain ⟨t', k', x⟩ := r
  go_wp2_with fail
  refine HIH2.out.mono ?_
  rintro e w5 ⟨rfl, S', hT', hS', hM', hs5, hx5, hz5⟩
  have hbr : ∀ b, S' b → Ss3 j b ∨ w3.heap.size ≤ b := fun b hb => (hS' b hb).imp id (fun h => Nat.le_trans X4.out.size h)
  obtain ⟨S5, hT5, hS5, hW5⟩ := kid_tree (ex := ex) HNN.out H1.out H2.out H3.out H4.out H5.out H6.out H7.out H8.out H9.out H10.out HCLT.out HBK.out hT' hbr ((WFr.of_ext X4.out).trans hM')
  have HT := hide hT5
  have HS5 : Hid (∀ b, S5 b → S b ∨ w.heap.size ≤ b) := hide (fun b hb => (hS5 b hb).elim (fun h => (HS3.out b h).imp id (fun h => Nat.le_trans XZ.out.size h)) (fun h => .inr (by have := XZ.out.size; have := HZ3.out; omega)))
  have HW5 := hide (((WFr.of_ext (S := S) XZ.out).trans HW3.out).later hW5 (fun g hg => (HS3.out g hg).imp id (fun h => Nat.le_trans XZ.out.size h)))
  have HSo := hide hs5
  have X5 := hide hx5
  have HSZ : Hid (w.heap.size ≤ w5.heap.size) := hide (by have := XZ.out.size; have := HZ3.out; have := X4.out.size; omega)
  generalize ks2.set j t' = ks5 at *
  clear hT' hS' hM' hs5 hx5 hz5 hbr hT5 hS5 hW5 HIH2 H1 H2 H3 H4 H5 H6 H7 H8 H9 H10 HBK X4 X3 HS3 HW3 HZ3 HGJ HX3 HSo3 HXZ HSZ0 X0Z HB1 HGI HGK HCLT
  have HKS : True := trivial
  unfold StepPost
  obtain ⟨c0, c1, c2, c3, c4, A, c, bs, Ss, h1, h2, h3, h4, h5, h6, h7, h8, h9, h10⟩ := HT.out
  replace h1 : Blk w5 B 86 #[c0, c1, c2, c3, c4, .int .i64 a, .int .i64 b, .slice A ks5.length c] := h1
  replace h2 : PosS w0 w5 (.agg #[c0, c1, c2, c3, c4]) P := h2
  have hP9 := h2.at_ X5.out
  obtain ⟨cA, cc, aA, ac, bA, bc, e9, -⟩ := hP9
  simp only [Value.agg.injEq, Array.mk.injEq, List.cons.injEq, and_true] at e9
  obtain ⟨rfl, rfl, rfl, rfl, rfl⟩ := e9
  obtain ⟨a0, a1, b0, b1⟩ := HAB.out
  have hpt := HPT.out
  have hwa : IntKind.i64.wrap (a + 1) = a + 1 := by rw [IntKind.wrap_i64]; omega
  have hwb : IntKind.i64.wrap (b + 2) = b + 2 := by rw [IntKind.wrap_i64]; omega
  have hwc : IntKind.i64.wrap (b + 1) = b + 1 := by rw [IntKind.wrap_i64]; omega
  have hwd : IntKind.i64.wrap (2 - P.turn) = 2 - P.turn := by rw [IntKind.wrap_i64]; omega
  have H1 := hide h1
  have H2 := hide h2
  have H3 := hide h3
  have H4 := hide h4
  have H5 := hide h5
  have H6 := hide h6
  have H7 := hide h7
  have H8 := hide h8
  have H9 := hide h9
  have H10 := hide h10
  have HNE := hide (blk_ne HSo.out h1 (by decide))
  have f := h1.cell
  have fz := h1.frozen
  have HPW := hide (show pointsW P x = if x = 2 - P.turn then 2 else if x = 3 ∨ x = 0 then 1 else 0 from rfl)
  generalize pointsW P x = pw at *
  clear h1 h2 h3 h4 h5 h6 h7 h8 h9 h10 HT a0 a1 b0 b1 hpt
  go_upto_region 8 with fail
  have K7 := hide (blk_put (i := 5) (u := .int .i64 (a + 1)) H1.out (cs' := #[.slice cA P.cells.length cc, .slice aA P.hand0.length ac, .slice bA P.hand1.length bc, .int .i64 P.turn, .int .i64 P.quiet, .int .i64 (a + 1), .int .i64 b, .slice A ks5.length c]) rfl)
  have G7 := hide ((Gr.refl (B := B) w5).set 5 (.int .i64 (a + 1)))
  clear f fz
  generalize w5.setCell ⟨B, 5, none⟩ (.int .i64 (a + 1)) = w7 at *
  have f := K7.out.cell
  have fz := K7.out.frozen
  by_cases hx : x = 2 - P.turn
  · have t1 : (x == 2 - P.turn) = true := by simpa using hx
    obtain rfl : pw = 2 := HPW.out.trans (if_pos hx)
    clear hx HPW hwc hwa
    skip
    go_wp2
    go_ret
    have K9 := hide ((blk_put (i := 6) (u := .int .i64 (b + 2)) K7.out (cs' := #[.slice cA P.cells.length cc, .slice aA P.hand0.length ac, .slice bA P.hand1.length bc, .int .i64 P.turn, .int .i64 P.quiet, .int .i64 (a + 1), .int .i64 (b + 2), .slice A ks5.length c]) rfl))
    have G9 := hide ((G7.out.set 6 (.int .i64 (b + 2))))
    exact ⟨by rw [HRES.out]; rfl, S5, by rw [HRES.out]; exact node_tree H1.out H2.out H3.out H4.out H5.out H6.out H7.out H8.out H9.out H10.out G9.out K9.out, HS5.out, HW5.out.later (WFr.of_gr G9.out H1.out (S := fun q => q = B) rfl) (fun g hg => .inl (by rw [hg]; exact HSB.out)), by rw [HRES.out]; exact G9.out.blk HSo.out HNE.out, G9.out.to_ext X5.out H5.out, Nat.le_trans HSZ.out G9.out.size⟩
  · have t1 : (x == 2 - P.turn) = false := by simpa using hx
    have HPW2 := hide (HPW.out.trans (if_neg hx))
    clear hx HPW hwb hwa
    by_cases hx3 : x = 3
    · subst hx3
      obtain rfl : pw = 1 := HPW2.out.trans (if_pos (.inl rfl))
      clear HPW2
      skip
      go_wp2
      go_ret
      have K9 := hide ((blk_put (i := 6) (u := .int .i64 (b + 1)) K7.out (cs' := #[.slice cA P.cells.length cc, .slice aA P.hand0.length ac, .slice bA P.hand1.length bc, .int .i64 P.turn, .int .i64 P.quiet, .int .i64 (a + 1), .int .i64 (b + 1), .slice A ks5.length c]) rfl))
      have G9 := hide ((G7.out.set 6 (.int .i64 (b + 1))))
      exact ⟨by rw [HRES.out]; rfl, S5, by rw [HRES.out]; exact node_tree H1.out H2.out H3.out H4.out H5.out H6.out H7.out H8.out H9.out H10.out G9.out K9.out, HS5.out, HW5.out.later (WFr.of_gr G9.out H1.out (S := fun q => q = B) rfl) (fun g hg => .inl (by rw [hg]; exact HSB.out)), by rw [HRES.out]; exact G9.out.blk HSo.out HNE.out, G9.out.to_ext X5.out H5.out, Nat.le_trans HSZ.out G9.out.size⟩
    · have t2 : (x == 3) = false := by simpa using hx3
      by_cases hx0 : x = 0
      · subst hx0
        obtain rfl : pw = 1 := HPW2.out.trans (if_pos (.inr rfl))
        clear HPW2
        skip
        go_wp2
        go_ret
        have K9 := hide ((blk_put (i := 6) (u := .int .i64 (b + 1)) K7.out (cs' := #[.slice cA P.cells.length cc, .slice aA P.hand0.length ac, .slice bA P.hand1.length bc, .int .i64 P.turn, .int .i64 P.quiet, .int .i64 (a + 1), .int .i64 (b + 1), .slice A ks5.length c]) rfl))
        have G9 := hide ((G7.out.set 6 (.int .i64 (b + 1))))
        exact ⟨by rw [HRES.out]; rfl, S5, by rw [HRES.out]; exact node_tree H1.out H2.out H3.out H4.out H5.out H6.out H7.out H8.out H9.out H10.out G9.out K9.out, HS5.out, HW5.out.later (WFr.of_gr G9.out H1.out (S := fun q => q = B) rfl) (fun g hg => .inl (by rw [hg]; exact HSB.out)), by rw [HRES.out]; exact G9.out.blk HSo.out HNE.out, G9.out.to_ext X5.out H5.out, Nat.le_trans HSZ.out G9.out.size⟩
      · have t3 : (x == 0) = false := by simpa using hx0
        obtain rfl : pw = 0 := HPW2.out.trans (if_neg (by omega))
        clear HPW2 hwc hx3 hx0
        rw [Int.add_zero] at HRES
        go_wp2
        go_ret
        have K9 := hide (K7.out)
        have G9 := hide (G7.out)
        exact ⟨by rw [HRES.out]; rfl, S5, by rw [HRES.out]; exact node_tree H1.out H2.out H3.out H4.out H5.out H6.out H7.out H8.out H9.out H10.out G9.out K9.out, HS5.out, HW5.out.later (WFr.of_gr G9.out H1.out (S := fun q => q = B) rfl) (fun g hg => .inl (by rw [hg]; exact HSB.out)), by rw [HRES.out]; exact G9.out.blk HSo.out HNE.out, G9.out.to_ext X5.out H5.out, Nat.le_trans HSZ.out G9.out.size⟩

end Go.Proofs.Ytdoibgmmijhlfaa
