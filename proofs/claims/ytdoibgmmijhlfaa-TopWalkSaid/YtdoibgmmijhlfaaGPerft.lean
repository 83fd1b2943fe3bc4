/- How many sequences of moves there are, as plain data. No program. Walks: ends.Moves, (*perft.counter).walk. Walk: (*perft.counter).walk. Walks: perft.Check, Count, Tree. Walk: heavy. -/
import Derived.Test.YtdoibgmmijhlfaaGEnds
import Derived.Test.YtdoibgmmijhlfaaGAfter
import Derived.Test.YtdoibgmmijhlfaaRegionK
import Derived.OwnWalk
namespace Go.Proofs.Ytdoibgmmijhlfaa
set_option linter.unusedVariables false
/-- What ends.Moves answers. -/
def movesM (R : RulesM) (P : PosM) : List MoveM := if resultM R P = 0 then listM R P else []
/-- The sequences with at most d moves, and with exactly d. -/
def treeM (R : RulesM) : Nat → PosM → Int
  | 0, _ => 1
  | d + 1, P => 1 + ((movesM R P).map fun m => treeM R d (makeM R P m)).sum
def leafM (R : RulesM) : Nat → PosM → Int
  | 0, _ => 1
  | d + 1, P => ((movesM R P).map fun m => leafM R d (makeM R P m)).sum
theorem sum_nonneg : ∀ l : List Int, (∀ x ∈ l, 0 ≤ x) → 0 ≤ l.sum
  | [], _ => by simp
  | a :: l, h => by
    have h1 := h a (by simp)
    have h2 := sum_nonneg l (fun x hx => h x (by simp [hx]))
    rw [List.sum_cons]; omega
theorem tree_pos (R : RulesM) : ∀ d P, 1 ≤ treeM R d P
  | 0, _ => by show (1 : Int) ≤ 1; omega
  | d + 1, P => by
    have := sum_nonneg ((movesM R P).map fun m => treeM R d (makeM R P m)) (fun x hx => by
      obtain ⟨m, _, rfl⟩ := List.mem_map.1 hx
      have := tree_pos R d (makeM R P m); omega)
    unfold treeM; omega
theorem leaf_nonneg (R : RulesM) : ∀ d P, 0 ≤ leafM R d P
  | 0, _ => by show (0 : Int) ≤ 1; omega
  | d + 1, P => sum_nonneg _ (fun x hx => by
      obtain ⟨m, _, rfl⟩ := List.mem_map.1 hx
      exact leaf_nonneg R d _)
theorem sum_le : ∀ (l : List MoveM) (f g : MoveM → Int), (∀ x ∈ l, f x ≤ g x) → (l.map f).sum ≤ (l.map g).sum
  | [], _, _, _ => by simp
  | a :: l, f, g, h => by
    have h1 := h a (by simp)
    have h2 := sum_le l f g (fun x hx => h x (by simp [hx]))
    simp only [List.map_cons, List.sum_cons]; omega
theorem leaf_le (R : RulesM) : ∀ d P, leafM R d P ≤ treeM R d P
  | 0, _ => by show (1 : Int) ≤ 1; omega
  | d + 1, P => by
    have := sum_le (movesM R P) (fun m => leafM R d (makeM R P m)) (fun m => treeM R d (makeM R P m)) (fun m _ => leaf_le R d _)
    unfold leafM treeM; omega
/-- The sequences that begin with the first k moves. -/
def partS (f : MoveM → Int) (l : List MoveM) (k : Nat) : Int := ((l.take k).map f).sum
theorem partS_zero (f : MoveM → Int) (l : List MoveM) : partS f l 0 = 0 := by simp [partS]
theorem partS_succ {f : MoveM → Int} {l : List MoveM} {k : Nat} {m : MoveM} (h : l[k]? = some m) : partS f l (k + 1) = partS f l k + f m := by
  unfold partS
  rw [List.take_add_one, h, List.map_append, List.sum_append]
  simp
theorem partS_all (f : MoveM → Int) (l : List MoveM) : partS f l l.length = (l.map f).sum := by unfold partS; rw [List.take_length]
theorem sum_drop (f : MoveM → Int) (l : List MoveM) (k : Nat) : (l.map f).sum = partS f l k + ((l.drop k).map f).sum := by
  unfold partS
  rw [← List.sum_append, ← List.map_append, List.take_append_drop]
theorem partS_le {f : MoveM → Int} {l : List MoveM} (hf : ∀ m, 0 ≤ f m) (k : Nat) : partS f l k ≤ (l.map f).sum := by
  have h1 := sum_drop f l k
  have h2 := sum_nonneg ((l.drop k).map f) (fun x hx => by
    obtain ⟨m, _, rfl⟩ := List.mem_map.1 hx
    exact hf m)
  omega
theorem partS_nonneg {f : MoveM → Int} {l : List MoveM} (hf : ∀ m, 0 ≤ f m) (k : Nat) : 0 ≤ partS f l k :=
  sum_nonneg _ (fun x hx => by
    obtain ⟨m, _, rfl⟩ := List.mem_map.1 hx
    exact hf m)
theorem sound_move {R : RulesM} {P : PosM} {m : MoveM} (hV : Valid R) (hS : Sound R P) (h : m ∈ movesM R P) : Sound R (makeM R P m) := by
  unfold movesM at h
  split at h
  · exact sound_make hV hS (mem_listM.1 h)
  · simp at h
theorem raw_move {R : RulesM} {P : PosM} {m : MoveM} (h : m ∈ movesM R P) : m ∈ rawM R P := by
  unfold movesM at h
  split at h
  · exact mem_listM.1 h
  · simp at h
end Go.Proofs.Ytdoibgmmijhlfaa
namespace Go.Proofs.Ytdoibgmmijhlfaa
open Go.ChangeShapes Go.WideShapes Go.ChangeAt Go.RowKit Go.Shelf
set_option linter.unusedVariables false
set_option linter.unusedSimpArgs false
def EMovesPost (w : World) (L : List MoveM) (e : Ending) (w' : World) : Prop := ∃ v', e = .returned v' ∧ OwnM w w' v' L ∧ Ext w w'
set_option maxHeartbeats 2000000 in
set_option maxRecDepth 100000 in
theorem EMoves_any (R : RulesM) (P : PosM) (v u : Value) (w : World) (hR : RulesAt w v R) (hP : PosAt w u P) (hV : Valid R) (hS : Sound R P) :
    Calls Try.prog 109 #[v, u] w (EMovesPost w (movesM R P)) := by
  have HC := hide (fun W (hW : Ext w W) => Result_any R P v u W (hR.ext hW) (hP.ext hW) hV hS)
  have HL := hide (fun W (hW : Ext w W) => List_any R P v u W (hR.ext hW) (hP.ext hW) hV hS)
  obtain ⟨pA, pc, sA, sc, eA, ec, rfl, -⟩ := hR
  obtain ⟨cA, cc, aA, ac, bA, bc, rfl, -⟩ := hP
  have HM := hide (show movesM R P = if resultM R P = 0 then listM R P else [] from rfl)
  clear hV hS
  generalize movesM R P = L at *
  generalize resultM R P = z at *
  obtain ⟨x1, k1, k2⟩ := blks2 w #[.string R.name, .int .i64 R.width, .int .i64 R.height, .slice pA R.pieces.length pc, .slice sA R.start.length sc, .bool R.falls, .bool R.keeps, .slice eA R.ends.length ec, .int .i64 R.blocked, .int .i64 R.quiet, .int .i64 R.rept] 26 #[.slice cA P.cells.length cc, .slice aA P.hand0.length ac, .slice bA P.hand1.length bc, .int .i64 P.turn, .int .i64 P.quiet] 29
  have HX := hide x1
  have K1 := hide k1
  have K2 := hide k2
  clear x1 k1 k2
  have f1 := K1.out.cell
  have f2 := K2.out.cell
  go_enter Try.func109, Try.ntmps109
  go_wp2_with fail
  refine (HC.out _ HX.out).mono ?_
  rintro e w2 ⟨rfl, x2⟩
  have X2 := hide (ext_trans HX.out x2)
  have g1 := (K1.out.ext x2).cell
  have g2 := (K2.out.ext x2).cell
  clear f1 f2 x2
  by_cases hz : z = 0
  · have HM2 := hide (HM.out.trans (if_pos hz))
    clear HM
    subst hz
    go_wp2_with fail
    refine (HL.out _ X2.out).mono ?_
    rintro e w3 ⟨v3, rfl, own3, x3⟩
    have O3 := hide (own3.base X2.out)
    have X3 := hide x3
    clear g1 g2 x3 own3
    go_wp2
    go_ret
    exact ⟨_, rfl, by rw [HM2.out]; exact O3.out, ext_trans X2.out X3.out⟩
  · have HM2 := hide (HM.out.trans (if_neg hz))
    have t0 : (z != 0) = true := by simpa using hz
    clear HM hz g1 g2
    go_wp2
    go_ret
    exact ⟨.slice none 0 0, rfl, by rw [HM2.out]; exact OwnM.nil _ _, X2.out⟩
/-- Old memory but for block B is as it was. -/
def Gr (B : Nat) (w w' : World) : Prop := w.grownBy w' (some B)
section
variable {B : Nat} {a b c : World}
theorem Gr.refl (a : World) : Gr B a a := ⟨rfl, rfl, rfl, Nat.le_refl _, fun _ _ _ => rfl⟩
theorem Gr.trans (h : Gr B a b) (k : Gr B b c) : Gr B a c :=
  ⟨k.os.trans h.os, k.tape.trans h.tape, k.output.trans h.output, Nat.le_trans h.size k.size, fun g hg hn => (k.block g (Nat.lt_of_lt_of_le hg h.size) hn).trans (h.block g hg hn)⟩
theorem Gr.of_ext (h : Ext a b) : Gr B a b := ⟨h.os, h.tape, h.output, h.size, fun g hg _ => h.block g hg⟩
theorem Gr.ext (h : Gr B a b) (k : Ext b c) : Gr B a c := h.trans (Gr.of_ext k)
theorem Gr.set (h : Gr B a b) (i : Nat) (u : Value) : Gr B a (b.setCell ⟨B, i, none⟩ u) :=
  ⟨h.os, h.tape, h.output, by simpa using h.size, fun g hg hn => (Below.heap_setCell b _ u g (by rintro rfl; exact hn rfl)).trans (h.block g hg hn)⟩
theorem Gr.blk {g : Nat} {t : TypeId} {cs : Array Value} (h : Gr B a b) (k : Blk a g t cs) (hne : g ≠ B) : Blk b g t cs := (h.block g k.lt (by simpa using hne)).trans k
/-- Where block B is new since w0, the rest is as it was since w0. -/
theorem Gr.to_ext {w0 : World} (h : Gr B a b) (h0 : Ext w0 a) (hb : w0.heap.size ≤ B) : Ext w0 b :=
  ⟨h.os.trans h0.os, h.tape.trans h0.tape, h.output.trans h0.output, Nat.le_trans h0.size h.size, fun g hg => (h.block g (Nat.lt_of_lt_of_le hg h0.size) (by simp; omega)).trans (h0.block g hg)⟩
end
/-- What a position needs: it does not lie in block B. -/
def Far (B : Nat) (w : World) (X : World → Prop) : Prop := ∀ W, Gr B w W → X W
theorem Far.gr {B : Nat} {w w' : World} {X : World → Prop} (h : Far B w X) (k : Gr B w w') : Far B w' X := fun W hW => h W (k.trans hW)
theorem Far.now {B : Nat} {w : World} {X : World → Prop} (h : Far B w X) : X w := h w (Gr.refl w)
theorem irow_gr {B g : Nat} {w W : World} {zs : List Int} (h : IRow w g zs) (k : Gr B w W) (hne : g ≠ B) : IRow W g zs := h.same (k.block g h.lt (by simpa using hne))
theorem far_own {B N : Nat} {w : World} {v : Value} {P : PosM} (h : PosOwn w N v P) (hb : B < N) : Far B w (fun W => PosAt W v P) := by
  intro W hW
  obtain ⟨g0, c0, g1, c1, g2, c2, rfl, b0, b1, b2, r0, r1, r2, m⟩ := h
  exact ⟨_, c0, _, c1, _, c2, rfl, (irow_gr r0 hW (by omega)).ints, (irow_gr r1 hW (by omega)).ints, (irow_gr r2 hW (by omega)).ints, m⟩
theorem far_moves {B : Nat} {w0 w : World} {v : Value} {L : List MoveM} (h : OwnM w0 w v L) (hb : B < w0.heap.size) : Far B w (fun W => MovesAt W v L) := by
  intro W hW
  obtain ⟨A, c, e, h⟩ := h
  have h' : W.ownsRow w0.heap.size 37 3 (.slice A L.length c) L.length (L.flatMap MoveM.vals) := by
    refine ⟨h.1, h.2.imp id ?_⟩
    rintro ⟨g, cap, cur, h1, h2, h3, h4⟩
    exact ⟨g, cap, cur, h1, h2, (hW.block g (Array.getElem?_eq_some_iff.1 h3).1 (by simp; omega)).trans h3, h4⟩
  exact ⟨A, c, e, (own_cells h').1⟩
end Go.Proofs.Ytdoibgmmijhlfaa
namespace Go.Proofs.Ytdoibgmmijhlfaa
open Go.ChangeShapes Go.WideShapes Go.ChangeAt Go.RowKit Go.Shelf
set_option linter.unusedVariables false
set_option linter.unusedSimpArgs false
theorem Blk.blk' {B g : Nat} {w W : World} {t : TypeId} {cs : Array Value} (k : Blk w g t cs) (h : Gr B w W) (hne : g ≠ B) : Blk W g t cs := h.blk k hne
/-- What the counting from a position tells: T sequences, F of them with all moves, ahead of them n and l. -/
def WalkPost (R : RulesM) (pA : Option Addr) (pc : Nat) (sA : Option Addr) (sc : Nat) (eA : Option Addr) (ec : Nat) (Bc : Nat) (w : World) (n l T F : Int) (e : Ending) (w' : World) : Prop :=
  ∃ (ok : Bool) (n' l' : Int), e = .returned (.bool ok) ∧ Blk w' Bc 176 #[.string R.name, .int .i64 R.width, .int .i64 R.height, .slice pA R.pieces.length pc, .slice sA R.start.length sc, .bool R.falls, .bool R.keeps, .slice eA R.ends.length ec, .int .i64 R.blocked, .int .i64 R.quiet, .int .i64 R.rept, .int .i64 n', .int .i64 l'] ∧ Gr Bc w w' ∧ (ok = true → n' = n + T ∧ l' = l + F ∧ n + T ≤ 50000) ∧ (ok = false → 50000 < n + T)
theorem partS_lt {tr : MoveM → Int} (h : ∀ m, 1 ≤ tr m) {L : List MoveM} {k : Nat} {m : MoveM} (hm : L[k]? = some m) : partS tr L k + tr m ≤ (L.map tr).sum := by
  have := partS_le (f := tr) (l := L) (fun m => by have := h m; omega) (k + 1)
  rwa [partS_succ hm] at this
set_option maxHeartbeats 4000000 in
set_option maxRecDepth 100000 in
theorem walk_any (R : RulesM) (hV : Valid R) (pA : Option Addr) (pc : Nat) (sA : Option Addr) (sc : Nat) (eA : Option Addr) (ec : Nat) (Bc : Nat) : ∀ (d : Nat) (P : PosM) (u : Value) (w : World) (D n l : Int), D = d → d ≤ 12 → Sound R P → Blk w Bc 176 #[.string R.name, .int .i64 R.width, .int .i64 R.height, .slice pA R.pieces.length pc, .slice sA R.start.length sc, .bool R.falls, .bool R.keeps, .slice eA R.ends.length ec, .int .i64 R.blocked, .int .i64 R.quiet, .int .i64 R.rept, .int .i64 n, .int .i64 l] → Far Bc w (fun W => RulesAt W (.agg #[.string R.name, .int .i64 R.width, .int .i64 R.height, .slice pA R.pieces.length pc, .slice sA R.start.length sc, .bool R.falls, .bool R.keeps, .slice eA R.ends.length ec, .int .i64 R.blocked, .int .i64 R.quiet, .int .i64 R.rept]) R) → Far Bc w (fun W => PosAt W u P) → 0 ≤ n → n ≤ 50000 → 0 ≤ l → l ≤ n →
    Calls Try.prog 115 #[.pointer (some ⟨Bc, 0, none⟩), u, .int .i64 D] w (WalkPost R pA pc sA sc eA ec Bc w n l (treeM R d P) (leafM R d P)) := by
  intro d
  induction d with
  | zero =>
    intro P u w D n l hD hd hS kC hR hP n0 n1 l0 l1
    obtain ⟨cA, cc, aA, ac, bA, bc, rfl, -⟩ := hP.now
    obtain rfl : D = 0 := by omega
    obtain ⟨x1, k1⟩ := blks1 w #[.slice cA P.cells.length cc, .slice aA P.hand0.length ac, .slice bA P.hand1.length bc, .int .i64 P.turn, .int .i64 P.quiet] 29
    have KC := hide (kC.ext x1)
    have X1 := hide x1
    have hwn : IntKind.i64.wrap (n + 1) = n + 1 := by rw [IntKind.wrap_i64]; omega
    have hwl : IntKind.i64.wrap (l + 1) = l + 1 := by rw [IntKind.wrap_i64]; omega
    clear hR hP hS hV kC k1 x1 hD hd n0 l0
    have kf := KC.out.frozen
    have kc := KC.out.cell
    go_enter Try.func115, Try.ntmps115
    go_upto_region 1 with fail
    generalize w.alloc (.cells #[.slice cA P.cells.length cc, .slice aA P.hand0.length ac, .slice bA P.hand1.length bc, .int .i64 P.turn, .int .i64 P.quiet] 29) = w1 at *
    go_upto_region 2 with fail
    have k2 := blk_put (i := 11) (u := .int .i64 (n + 1)) KC.out (cs' := #[.string R.name, .int .i64 R.width, .int .i64 R.height, .slice pA R.pieces.length pc, .slice sA R.start.length sc, .bool R.falls, .bool R.keeps, .slice eA R.ends.length ec, .int .i64 R.blocked, .int .i64 R.quiet, .int .i64 R.rept, .int .i64 (n + 1), .int .i64 l]) rfl
    have G2 := hide ((Gr.of_ext (B := Bc) X1.out).set 11 (.int .i64 (n + 1)))
    have K2 := hide k2
    clear k2 X1 KC kf kc
    generalize w1.setCell ⟨Bc, 11, none⟩ (.int .i64 (n + 1)) = w2 at *
    have kf := K2.out.frozen
    have kc := K2.out.cell
    by_cases hn : 50000 < n + 1
    · have t0 : decide ((50000 : Int) < n + 1) = true := by simpa using hn
      go_wp2
      go_ret
      exact ⟨false, n + 1, l, rfl, K2.out, G2.out, nofun, fun _ => hn⟩
    · have t0 : decide ((50000 : Int) < n + 1) = false := by simpa using hn
      go_wp2
      go_ret
      exact ⟨true, n + 1, l + 1, rfl, blk_put (i := 12) K2.out rfl, G2.out.set 12 _, fun _ => ⟨rfl, rfl, by show n + 1 ≤ 50000; omega⟩, nofun⟩
  | succ d ih =>
    intro P u w D n l hD hd hS kC hR hP n0 n1 l0 l1
    have HRF := hide hR
    have HPF := hide hP
    obtain ⟨cA, cc, aA, ac, bA, bc, rfl, -⟩ := hP.now
    obtain ⟨x1, k1⟩ := blks1 w #[.slice cA P.cells.length cc, .slice aA P.hand0.length ac, .slice bA P.hand1.length bc, .int .i64 P.turn, .int .i64 P.quiet] 29
    have KC := hide (kC.ext x1)
    have K1 := hide k1
    have X1 := hide x1
    have HBW : Hid (Bc < w.heap.size) := hide kC.lt
    have hne : w.heap.size ≠ Bc := by have := kC.lt; omega
    have HNE := hide hne
    have hwn : IntKind.i64.wrap (n + 1) = n + 1 := by rw [IntKind.wrap_i64]; omega
    have hwd : IntKind.i64.wrap (D - 1) = D - 1 := by rw [IntKind.wrap_i64]; omega
    have td : (D == 0) = false := by simp; omega
    have HD : Hid (D - 1 = (d : Int) ∧ d ≤ 12) := hide ⟨by omega, by omega⟩
    obtain ⟨tr, htr⟩ : ∃ tr : MoveM → Int, ∀ m, tr m = treeM R d (makeM R P m) := ⟨_, fun _ => rfl⟩
    obtain ⟨lf, hlf⟩ : ∃ lf : MoveM → Int, ∀ m, lf m = leafM R d (makeM R P m) := ⟨_, fun _ => rfl⟩
    have HT : Hid (treeM R (d + 1) P = 1 + ((movesM R P).map tr).sum) := hide (by rw [show tr = fun m => treeM R d (makeM R P m) from funext htr]; rfl)
    have HF : Hid (leafM R (d + 1) P = ((movesM R P).map lf).sum) := hide (by rw [show lf = fun m => leafM R d (makeM R P m) from funext hlf]; rfl)
    have HB : Hid (∀ m, 1 ≤ tr m ∧ 0 ≤ lf m ∧ lf m ≤ tr m) := hide (fun m => by rw [htr m, hlf m]; exact ⟨tree_pos _ _ _, leaf_nonneg _ _ _, leaf_le _ _ _⟩)
    have HIH : Hid (∀ m, m ∈ movesM R P → ∀ (v : Value) (W : World) (n l : Int), Blk W Bc 176 #[.string R.name, .int .i64 R.width, .int .i64 R.height, .slice pA R.pieces.length pc, .slice sA R.start.length sc, .bool R.falls, .bool R.keeps, .slice eA R.ends.length ec, .int .i64 R.blocked, .int .i64 R.quiet, .int .i64 R.rept, .int .i64 n, .int .i64 l] → Far Bc W (fun W => RulesAt W (.agg #[.string R.name, .int .i64 R.width, .int .i64 R.height, .slice pA R.pieces.length pc, .slice sA R.start.length sc, .bool R.falls, .bool R.keeps, .slice eA R.ends.length ec, .int .i64 R.blocked, .int .i64 R.quiet, .int .i64 R.rept]) R) → Far Bc W (fun W => PosAt W v (makeM R P m)) → 0 ≤ n → n ≤ 50000 → 0 ≤ l → l ≤ n →
        Calls Try.prog 115 #[.pointer (some ⟨Bc, 0, none⟩), v, .int .i64 (D - 1)] W (WalkPost R pA pc sA sc eA ec Bc W n l (tr m) (lf m))) := hide (fun m hm v W n l b1 b2 b3 b4 b5 b6 b7 => by
      rw [htr m, hlf m]
      exact ih _ v W _ n l HD.out.1 HD.out.2 (sound_move hV hS hm) b1 b2 b3 b4 b5 b6 b7)
    have HMK : Hid (∀ m, m ∈ movesM R P → ∀ W, Bc < W.heap.size → RulesAt W (.agg #[.string R.name, .int .i64 R.width, .int .i64 R.height, .slice pA R.pieces.length pc, .slice sA R.start.length sc, .bool R.falls, .bool R.keeps, .slice eA R.ends.length ec, .int .i64 R.blocked, .int .i64 R.quiet, .int .i64 R.rept]) R → PosAt W (.agg #[.slice cA P.cells.length cc, .slice aA P.hand0.length ac, .slice bA P.hand1.length bc, .int .i64 P.turn, .int .i64 P.quiet]) P → Calls Try.prog 42 #[.agg #[.string R.name, .int .i64 R.width, .int .i64 R.height, .slice pA R.pieces.length pc, .slice sA R.start.length sc, .bool R.falls, .bool R.keeps, .slice eA R.ends.length ec, .int .i64 R.blocked, .int .i64 R.quiet, .int .i64 R.rept], .agg #[.slice cA P.cells.length cc, .slice aA P.hand0.length ac, .slice bA P.hand1.length bc, .int .i64 P.turn, .int .i64 P.quiet], .agg #[.int .i64 m.src, .int .i64 m.dst, .int .i64 m.piece]] W (fun e w' => ∃ v', e = .returned v' ∧ Far Bc w' (fun W => PosAt W v' (makeM R P m)) ∧ Ext W w')) := hide (fun m hm W hb h1 h2 => by
      refine (Make_any R P m _ _ W h1 h2 hV hS (raw_move hm)).mono ?_
      rintro e w' ⟨v', rfl, o, x⟩
      exact ⟨v', rfl, far_own o hb, x⟩)
    have HEM : Hid (∀ W, Bc < W.heap.size → RulesAt W (.agg #[.string R.name, .int .i64 R.width, .int .i64 R.height, .slice pA R.pieces.length pc, .slice sA R.start.length sc, .bool R.falls, .bool R.keeps, .slice eA R.ends.length ec, .int .i64 R.blocked, .int .i64 R.quiet, .int .i64 R.rept]) R → PosAt W (.agg #[.slice cA P.cells.length cc, .slice aA P.hand0.length ac, .slice bA P.hand1.length bc, .int .i64 P.turn, .int .i64 P.quiet]) P → Calls Try.prog 109 #[.agg #[.string R.name, .int .i64 R.width, .int .i64 R.height, .slice pA R.pieces.length pc, .slice sA R.start.length sc, .bool R.falls, .bool R.keeps, .slice eA R.ends.length ec, .int .i64 R.blocked, .int .i64 R.quiet, .int .i64 R.rept], .agg #[.slice cA P.cells.length cc, .slice aA P.hand0.length ac, .slice bA P.hand1.length bc, .int .i64 P.turn, .int .i64 P.quiet]] W (fun e w' => ∃ A c, e = .returned (.slice A (movesM R P).length c) ∧ Far Bc w' (fun W => MovesAt W (.slice A (movesM R P).length c) (movesM R P)) ∧ (movesM R P).length ≤ 1000000 ∧ Ext W w')) := hide (fun W hb h1 h2 => by
      refine (EMoves_any R P _ _ W h1 h2 hV hS).mono ?_
      rintro e w' ⟨v', rfl, o, x⟩
      have f := far_moves o hb
      obtain ⟨A, c, rfl, -⟩ := o
      refine ⟨A, c, rfl, f, ?_, x⟩
      unfold movesM
      split
      · exact listM_len hV hS
      · simp)
    generalize treeM R (d + 1) P = T at *
    generalize leafM R (d + 1) P = F at *
    generalize movesM R P = L at *
    clear hR hP hS hV kC k1 x1 hD hd ih htr hlf
    have kf := KC.out.frozen
    have kc := KC.out.cell
    go_enter Try.func115, Try.ntmps115
    go_upto_region 1 with fail
    generalize w.alloc (.cells #[.slice cA P.cells.length cc, .slice aA P.hand0.length ac, .slice bA P.hand1.length bc, .int .i64 P.turn, .int .i64 P.quiet] 29) = w1 at *
    generalize w.heap.size = BP at *
    go_upto_region 2 with fail
    have k2 := blk_put (i := 11) (u := .int .i64 (n + 1)) KC.out (cs' := #[.string R.name, .int .i64 R.width, .int .i64 R.height, .slice pA R.pieces.length pc, .slice sA R.start.length sc, .bool R.falls, .bool R.keeps, .slice eA R.ends.length ec, .int .i64 R.blocked, .int .i64 R.quiet, .int .i64 R.rept, .int .i64 (n + 1), .int .i64 l]) rfl
    have G2 := hide ((Gr.of_ext (B := Bc) X1.out).set 11 (.int .i64 (n + 1)))
    have KP := hide (((Gr.refl (B := Bc) w1).set 11 (.int .i64 (n + 1))).blk K1.out HNE.out)
    have K2 := hide k2
    clear k2 X1 KC kf kc K1
    generalize w1.setCell ⟨Bc, 11, none⟩ (.int .i64 (n + 1)) = w2 at *
    have kf := K2.out.frozen
    have kc := K2.out.cell
    by_cases hn : 50000 < n + 1
    · have t0 : decide ((50000 : Int) < n + 1) = true := by simpa using hn
      go_wp2
      go_ret
      exact ⟨false, n + 1, l, rfl, K2.out, G2.out, nofun, fun _ => by
        have h1 := HT.out
        have h2 := sum_nonneg (L.map tr) (fun x hx => by
          obtain ⟨m, _, rfl⟩ := List.mem_map.1 hx
          have := (HB.out m).1; omega)
        omega⟩
    · have t0 : decide ((50000 : Int) < n + 1) = false := by simpa using hn
      go_upto_region 7 with fail
      clear kf kc t0
      have HLT : Hid (Bc < w2.heap.size) := hide K2.out.lt
      have keepK := hide (fun W (h : Ext w2 W) => (show (fun W => W.cell? ⟨Bc, 0, none⟩ = some (.string R.name) ∧ W.cell? ⟨Bc, 1, none⟩ = some (.int .i64 R.width) ∧ W.cell? ⟨Bc, 2, none⟩ = some (.int .i64 R.height) ∧ W.cell? ⟨Bc, 3, none⟩ = some (.slice pA R.pieces.length pc) ∧ W.cell? ⟨Bc, 4, none⟩ = some (.slice sA R.start.length sc) ∧ W.cell? ⟨Bc, 5, none⟩ = some (.bool R.falls) ∧ W.cell? ⟨Bc, 6, none⟩ = some (.bool R.keeps) ∧ W.cell? ⟨Bc, 7, none⟩ = some (.slice eA R.ends.length ec) ∧ W.cell? ⟨Bc, 8, none⟩ = some (.int .i64 R.blocked) ∧ W.cell? ⟨Bc, 9, none⟩ = some (.int .i64 R.quiet) ∧ W.cell? ⟨Bc, 10, none⟩ = some (.int .i64 R.rept) ∧ W.cell? ⟨Bc, 11, none⟩ = some (.int .i64 (n + 1)) ∧ W.cell? ⟨Bc, 12, none⟩ = some (.int .i64 l) ∧ W.cell? ⟨BP, 0, none⟩ = some (.slice cA P.cells.length cc) ∧ W.cell? ⟨BP, 1, none⟩ = some (.slice aA P.hand0.length ac) ∧ W.cell? ⟨BP, 2, none⟩ = some (.slice bA P.hand1.length bc) ∧ W.cell? ⟨BP, 3, none⟩ = some (.int .i64 P.turn) ∧ W.cell? ⟨BP, 4, none⟩ = some (.int .i64 P.quiet) ∧ Ext w2 W) W from ⟨(K2.out.ext h).cell 0, (K2.out.ext h).cell 1, (K2.out.ext h).cell 2, (K2.out.ext h).cell 3, (K2.out.ext h).cell 4, (K2.out.ext h).cell 5, (K2.out.ext h).cell 6, (K2.out.ext h).cell 7, (K2.out.ext h).cell 8, (K2.out.ext h).cell 9, (K2.out.ext h).cell 10, (K2.out.ext h).cell 11, (K2.out.ext h).cell 12, (KP.out.ext h).cell 0, (KP.out.ext h).cell 1, (KP.out.ext h).cell 2, (KP.out.ext h).cell 3, (KP.out.ext h).cell 4, h⟩))
      have yy : Ext w2 w2.drew := Below.drew (Below.refl _ _)
      refine region_K (fun W => W.cell? ⟨Bc, 0, none⟩ = some (.string R.name) ∧ W.cell? ⟨Bc, 1, none⟩ = some (.int .i64 R.width) ∧ W.cell? ⟨Bc, 2, none⟩ = some (.int .i64 R.height) ∧ W.cell? ⟨Bc, 3, none⟩ = some (.slice pA R.pieces.length pc) ∧ W.cell? ⟨Bc, 4, none⟩ = some (.slice sA R.start.length sc) ∧ W.cell? ⟨Bc, 5, none⟩ = some (.bool R.falls) ∧ W.cell? ⟨Bc, 6, none⟩ = some (.bool R.keeps) ∧ W.cell? ⟨Bc, 7, none⟩ = some (.slice eA R.ends.length ec) ∧ W.cell? ⟨Bc, 8, none⟩ = some (.int .i64 R.blocked) ∧ W.cell? ⟨Bc, 9, none⟩ = some (.int .i64 R.quiet) ∧ W.cell? ⟨Bc, 10, none⟩ = some (.int .i64 R.rept) ∧ W.cell? ⟨Bc, 11, none⟩ = some (.int .i64 (n + 1)) ∧ W.cell? ⟨Bc, 12, none⟩ = some (.int .i64 l) ∧ W.cell? ⟨BP, 0, none⟩ = some (.slice cA P.cells.length cc) ∧ W.cell? ⟨BP, 1, none⟩ = some (.slice aA P.hand0.length ac) ∧ W.cell? ⟨BP, 2, none⟩ = some (.slice bA P.hand1.length bc) ∧ W.cell? ⟨BP, 3, none⟩ = some (.int .i64 P.turn) ∧ W.cell? ⟨BP, 4, none⟩ = some (.int .i64 P.quiet) ∧ Ext w2 W) (fun _ => True) [] (by kernel_rfl) ?_
      have hT0 := keepK.out _ yy
      refine anyK_take 0 (oi := ?oo1) ?ho1 (by kernel_rfl) (by kernel_rfl) (by kernel_rfl) (by kernel_rfl) ?hq1 ?hw1 hT0 (fun _ => trivial) (v := ?vv1) ?hy1 ?hk1
      case ho1 => (simp only [List.getElem?_toArray, List.getElem?_cons_succ, List.getElem?_cons_zero]; rfl)
      case hq1 => exact fun _ _ _ h => h
      case hw1 => rfl
      case hy1 =>
        intro W hW
        go_simp
        first | done | with_reducible rfl
      case hk1 =>
      try simp only [Act.put, List.setIfInBounds_toArray, List.set_cons_zero, List.set_cons_succ]
      refine anyK_take 1 (oi := ?oo2) ?ho2 (by kernel_rfl) (by kernel_rfl) (by kernel_rfl) (by kernel_rfl) ?hq2 ?hw2 hT0 (fun _ => trivial) (v := ?vv2) ?hy2 ?hk2
      case ho2 => (simp only [List.getElem?_toArray, List.getElem?_cons_succ, List.getElem?_cons_zero]; rfl)
      case hq2 => exact fun _ _ _ h => h
      case hw2 => rfl
      case hy2 =>
        intro W hW
        go_simp
        first | done | with_reducible rfl
      case hk2 =>
      try simp only [Act.put, List.setIfInBounds_toArray, List.set_cons_zero, List.set_cons_succ]
      refine anyK_take 2 (oi := ?oo3) ?ho3 (by kernel_rfl) (by kernel_rfl) (by kernel_rfl) (by kernel_rfl) ?hq3 ?hw3 hT0 (fun _ => trivial) (v := ?vv3) ?hy3 ?hk3
      case ho3 => (simp only [List.getElem?_toArray, List.getElem?_cons_succ, List.getElem?_cons_zero]; rfl)
      case hq3 => exact fun _ _ _ h => h
      case hw3 => rfl
      case hy3 =>
        intro W hW
        go_simp
        first | done | with_reducible rfl
      case hk3 =>
      try simp only [Act.put, List.setIfInBounds_toArray, List.set_cons_zero, List.set_cons_succ]
      refine anyK_take 3 (oi := ?oo4) ?ho4 (by kernel_rfl) (by kernel_rfl) (by kernel_rfl) (by kernel_rfl) ?hq4 ?hw4 hT0 (fun _ => trivial) (v := ?vv4) ?hy4 ?hk4
      case ho4 => (simp only [List.getElem?_toArray, List.getElem?_cons_succ, List.getElem?_cons_zero]; rfl)
      case hq4 => exact fun _ _ _ h => h
      case hw4 => rfl
      case hy4 =>
        intro W hW
        obtain ⟨z0, z1, z2, z3, z4, z5, z6, z7, z8, z9, z10, z11, z12, z13, z14, z15, z16, z17, z18⟩ := hW
        go_simp
        first | done | with_reducible rfl
      case hk4 =>
      try simp only [Act.put, List.setIfInBounds_toArray, List.set_cons_zero, List.set_cons_succ]
      refine anyK_take 4 (oi := ?oo5) ?ho5 (by kernel_rfl) (by kernel_rfl) (by kernel_rfl) (by kernel_rfl) ?hq5 ?hw5 hT0 (fun _ => trivial) (v := ?vv5) ?hy5 ?hk5
      case ho5 => (simp only [List.getElem?_toArray, List.getElem?_cons_succ, List.getElem?_cons_zero]; rfl)
      case hq5 => exact fun _ _ _ h => h
      case hw5 => rfl
      case hy5 =>
        intro W hW
        obtain ⟨z0, z1, z2, z3, z4, z5, z6, z7, z8, z9, z10, z11, z12, z13, z14, z15, z16, z17, z18⟩ := hW
        go_simp
        first | done | with_reducible rfl
      case hk5 =>
      try simp only [Act.put, List.setIfInBounds_toArray, List.set_cons_zero, List.set_cons_succ]
      refine anyK_take 7 (oi := ?oo6) ?ho6 (by kernel_rfl) (by kernel_rfl) (by kernel_rfl) (by kernel_rfl) ?hq6 ?hw6 hT0 (fun _ => trivial) (v := ?vv6) ?hy6 ?hk6
      case ho6 => (simp only [List.getElem?_toArray, List.getElem?_cons_succ, List.getElem?_cons_zero]; rfl)
      case hq6 => exact fun _ _ _ h => h
      case hw6 => rfl
      case hy6 =>
        intro W hW
        go_simp
        first | done | with_reducible rfl
      case hk6 =>
      try simp only [Act.put, List.setIfInBounds_toArray, List.set_cons_zero, List.set_cons_succ]
      refine anyK_on1 5 (by kernel_rfl) ?_
      refine anyK_one 5 (o := ?oo7) ?ho7 ?hk7
      case ho7 => (simp only [List.getElem?_toArray, List.getElem?_cons_succ, List.getElem?_cons_zero]; rfl)
      case hk7 =>
      intro K hK
      go_simp
      refine (HEM.out _ (Nat.lt_of_lt_of_le HLT.out yy.size) (HRF.out _ (G2.out.ext yy)) (HPF.out _ (G2.out.ext yy))).mono ?_
      rintro e wm ⟨A5, c5, rfl, hm5, hln, xx⟩
      try go_wp2_with fail
      replace yy := ext_trans yy xx
      have HM5 := hide hm5
      have X5 := hide yy
      clear hm5
      have hT1 := keepK.out _ yy
      refine hK.out _ _ hT1 (fun _ => trivial) ?_
      clear hK K
      try simp only [Act.put, List.setIfInBounds_toArray, List.set_cons_zero, List.set_cons_succ]
      refine anyK_take 6 (oi := ?oo8) ?ho8 (by kernel_rfl) (by kernel_rfl) (by kernel_rfl) (by kernel_rfl) ?hq8 ?hw8 hT1 (fun _ => trivial) (v := ?vv8) ?hy8 ?hk8
      case ho8 => (simp only [List.getElem?_toArray, List.getElem?_cons_succ, List.getElem?_cons_zero]; rfl)
      case hq8 => exact fun _ _ _ h => h
      case hw8 => rfl
      case hy8 =>
        intro W hW
        go_simp
        first | done | with_reducible rfl
      case hk8 =>
      try simp only [Act.put, List.setIfInBounds_toArray, List.set_cons_zero, List.set_cons_succ]
      refine anyK_done (by kernel_rfl) ?_ _
      clear keepK hT0 hT1
      have G3 := hide (G2.out.ext X5.out)
      have KP3 := hide (KP.out.ext X5.out)
      have K3 := hide (K2.out.ext X5.out)
      clear yy
      go_wp2
      go_loopw [37] (fun i wr => ∃ (k : Nat) (n' l' : Int), k ≤ L.length ∧ i = .int .i64 k ∧ Blk wr Bc 176 #[.string R.name, .int .i64 R.width, .int .i64 R.height, .slice pA R.pieces.length pc, .slice sA R.start.length sc, .bool R.falls, .bool R.keeps, .slice eA R.ends.length ec, .int .i64 R.blocked, .int .i64 R.quiet, .int .i64 R.rept, .int .i64 n', .int .i64 l'] ∧ Gr Bc wm wr ∧ Hid (n' = n + 1 + partS tr L k ∧ l' = l + partS lf L k ∧ n' ≤ 50000)) (fun i _ => L.length - (intOf i).toNat)
      case atStart => exact ⟨0, n + 1, l, Nat.zero_le _, rfl, K3.out, Gr.refl _, hide ⟨by rw [partS_zero]; omega, by rw [partS_zero]; omega, by omega⟩⟩
      case round =>
        obtain ⟨k, n', l', hk, rfl, kC, gr, hsum⟩ := hrel
        by_cases hlt : k < L.length
        · obtain ⟨m, hm⟩ : ∃ m, L[k]? = some m := ⟨L[k], List.getElem?_eq_getElem _⟩
          have hmv := HM5.out wr gr
          obtain ⟨A', c', e', hc'⟩ := hmv
          obtain ⟨b, o, rfl, m0, m1, m2⟩ := moves_get hc' hm
          simp only [Value.slice.injEq] at e'
          obtain ⟨rfl, -, rfl⟩ := e'
          have HKC := hide kC
          have HKP := hide (KP3.out.blk' gr HNE.out)
          have HGR := hide gr
          have HM := hide hm
          have hml := List.mem_of_getElem? hm
          have HW := hide (HIH.out m hml)
          have HMK2 := hide (HMK.out m hml)
          have hsz := kC.lt
          have hbd := partS_lt (fun m => (HB.out m).1) hm
          have HPS := hide (partS_nonneg (f := lf) (l := L) (fun m => (HB.out m).2.1) k)
          have HPT := hide (partS_nonneg (f := tr) (l := L) (fun m => by have := (HB.out m).1; omega) k)
          have HPL : Hid (partS lf L k ≤ partS tr L k) := hide (sum_le _ _ _ (fun m _ => (HB.out m).2.2))
          have HBD := hide hbd
          clear gr hm kC hml hbd hc'
          go_upto_region 10 with fail
          obtain ⟨x4, k4⟩ := blks1 wr #[.int .i64 m.src, .int .i64 m.dst, .int .i64 m.piece] 37
          have K4 := hide k4
          have X4 := hide x4
          have NE4 : Hid (wr.heap.size ≠ Bc) := hide (by omega)
          have HLT4 : Hid (Bc < wr.heap.size) := hide hsz
          clear k4 x4 m0 m1 m2 hsz
          have KC4 := hide (HKC.out.ext X4.out)
          have KP4 := hide (HKP.out.ext X4.out)
          have G4 := hide (HGR.out.ext X4.out)
          clear HKC HKP HGR
          generalize wr.alloc (.cells #[.int .i64 m.src, .int .i64 m.dst, .int .i64 m.piece] 37) = w4 at *
          generalize hBM : wr.heap.size = BM at *
          clear hBM
          have HSZ4 := hide (fun W (h : Gr Bc w4 W) => Nat.lt_of_lt_of_le KC4.out.lt h.size)
          have HR4 := hide (fun W (h : Gr Bc w4 W) => HRF.out W (G3.out.trans (G4.out.trans h)))
          have HP4 := hide (fun W (h : Gr Bc w4 W) => HPF.out W (G3.out.trans (G4.out.trans h)))
          have zz : Ext w4 w4.drew := Below.drew (Below.refl _ _)
          have keepK := hide (fun W (h : Gr Bc w4 W ∧ ∃ n l, Blk W Bc 176 #[.string R.name, .int .i64 R.width, .int .i64 R.height, .slice pA R.pieces.length pc, .slice sA R.start.length sc, .bool R.falls, .bool R.keeps, .slice eA R.ends.length ec, .int .i64 R.blocked, .int .i64 R.quiet, .int .i64 R.rept, .int .i64 n, .int .i64 l]) => (show (fun W => W.cell? ⟨Bc, 0, none⟩ = some (.string R.name) ∧ W.cell? ⟨Bc, 1, none⟩ = some (.int .i64 R.width) ∧ W.cell? ⟨Bc, 2, none⟩ = some (.int .i64 R.height) ∧ W.cell? ⟨Bc, 3, none⟩ = some (.slice pA R.pieces.length pc) ∧ W.cell? ⟨Bc, 4, none⟩ = some (.slice sA R.start.length sc) ∧ W.cell? ⟨Bc, 5, none⟩ = some (.bool R.falls) ∧ W.cell? ⟨Bc, 6, none⟩ = some (.bool R.keeps) ∧ W.cell? ⟨Bc, 7, none⟩ = some (.slice eA R.ends.length ec) ∧ W.cell? ⟨Bc, 8, none⟩ = some (.int .i64 R.blocked) ∧ W.cell? ⟨Bc, 9, none⟩ = some (.int .i64 R.quiet) ∧ W.cell? ⟨Bc, 10, none⟩ = some (.int .i64 R.rept) ∧ W.cell? ⟨BP, 0, none⟩ = some (.slice cA P.cells.length cc) ∧ W.cell? ⟨BP, 1, none⟩ = some (.slice aA P.hand0.length ac) ∧ W.cell? ⟨BP, 2, none⟩ = some (.slice bA P.hand1.length bc) ∧ W.cell? ⟨BP, 3, none⟩ = some (.int .i64 P.turn) ∧ W.cell? ⟨BP, 4, none⟩ = some (.int .i64 P.quiet) ∧ W.cell? ⟨BM, 0, none⟩ = some (.int .i64 m.src) ∧ W.cell? ⟨BM, 1, none⟩ = some (.int .i64 m.dst) ∧ W.cell? ⟨BM, 2, none⟩ = some (.int .i64 m.piece) ∧ Gr Bc w4 W ∧ ∃ n l, Blk W Bc 176 #[.string R.name, .int .i64 R.width, .int .i64 R.height, .slice pA R.pieces.length pc, .slice sA R.start.length sc, .bool R.falls, .bool R.keeps, .slice eA R.ends.length ec, .int .i64 R.blocked, .int .i64 R.quiet, .int .i64 R.rept, .int .i64 n, .int .i64 l]) W from ⟨(match h with | ⟨_, _, _, hb⟩ => hb.cell 0), (match h with | ⟨_, _, _, hb⟩ => hb.cell 1), (match h with | ⟨_, _, _, hb⟩ => hb.cell 2), (match h with | ⟨_, _, _, hb⟩ => hb.cell 3), (match h with | ⟨_, _, _, hb⟩ => hb.cell 4), (match h with | ⟨_, _, _, hb⟩ => hb.cell 5), (match h with | ⟨_, _, _, hb⟩ => hb.cell 6), (match h with | ⟨_, _, _, hb⟩ => hb.cell 7), (match h with | ⟨_, _, _, hb⟩ => hb.cell 8), (match h with | ⟨_, _, _, hb⟩ => hb.cell 9), (match h with | ⟨_, _, _, hb⟩ => hb.cell 10), (KP4.out.blk' h.1 HNE.out).cell 0, (KP4.out.blk' h.1 HNE.out).cell 1, (KP4.out.blk' h.1 HNE.out).cell 2, (KP4.out.blk' h.1 HNE.out).cell 3, (KP4.out.blk' h.1 HNE.out).cell 4, (K4.out.blk' h.1 NE4.out).cell 0, (K4.out.blk' h.1 NE4.out).cell 1, (K4.out.blk' h.1 NE4.out).cell 2, h⟩))
          have yy := (⟨Gr.of_ext zz, _, _, KC4.out.ext zz⟩ : (fun W => Gr Bc w4 W ∧ ∃ n l, Blk W Bc 176 #[.string R.name, .int .i64 R.width, .int .i64 R.height, .slice pA R.pieces.length pc, .slice sA R.start.length sc, .bool R.falls, .bool R.keeps, .slice eA R.ends.length ec, .int .i64 R.blocked, .int .i64 R.quiet, .int .i64 R.rept, .int .i64 n, .int .i64 l]) w4.drew)
          refine region_K (fun W => W.cell? ⟨Bc, 0, none⟩ = some (.string R.name) ∧ W.cell? ⟨Bc, 1, none⟩ = some (.int .i64 R.width) ∧ W.cell? ⟨Bc, 2, none⟩ = some (.int .i64 R.height) ∧ W.cell? ⟨Bc, 3, none⟩ = some (.slice pA R.pieces.length pc) ∧ W.cell? ⟨Bc, 4, none⟩ = some (.slice sA R.start.length sc) ∧ W.cell? ⟨Bc, 5, none⟩ = some (.bool R.falls) ∧ W.cell? ⟨Bc, 6, none⟩ = some (.bool R.keeps) ∧ W.cell? ⟨Bc, 7, none⟩ = some (.slice eA R.ends.length ec) ∧ W.cell? ⟨Bc, 8, none⟩ = some (.int .i64 R.blocked) ∧ W.cell? ⟨Bc, 9, none⟩ = some (.int .i64 R.quiet) ∧ W.cell? ⟨Bc, 10, none⟩ = some (.int .i64 R.rept) ∧ W.cell? ⟨BP, 0, none⟩ = some (.slice cA P.cells.length cc) ∧ W.cell? ⟨BP, 1, none⟩ = some (.slice aA P.hand0.length ac) ∧ W.cell? ⟨BP, 2, none⟩ = some (.slice bA P.hand1.length bc) ∧ W.cell? ⟨BP, 3, none⟩ = some (.int .i64 P.turn) ∧ W.cell? ⟨BP, 4, none⟩ = some (.int .i64 P.quiet) ∧ W.cell? ⟨BM, 0, none⟩ = some (.int .i64 m.src) ∧ W.cell? ⟨BM, 1, none⟩ = some (.int .i64 m.dst) ∧ W.cell? ⟨BM, 2, none⟩ = some (.int .i64 m.piece) ∧ Gr Bc w4 W ∧ ∃ n l, Blk W Bc 176 #[.string R.name, .int .i64 R.width, .int .i64 R.height, .slice pA R.pieces.length pc, .slice sA R.start.length sc, .bool R.falls, .bool R.keeps, .slice eA R.ends.length ec, .int .i64 R.blocked, .int .i64 R.quiet, .int .i64 R.rept, .int .i64 n, .int .i64 l]) (fun _ => True) [] (by kernel_rfl) ?_
          have hT0 := keepK.out _ yy
          refine anyK_take 0 (oi := ?oo9) ?ho9 (by kernel_rfl) (by kernel_rfl) (by kernel_rfl) (by kernel_rfl) ?hq9 ?hw9 hT0 (fun _ => trivial) (v := ?vv9) ?hy9 ?hk9
          case ho9 => (simp only [List.getElem?_toArray, List.getElem?_cons_succ, List.getElem?_cons_zero]; rfl)
          case hq9 => exact fun _ _ _ h => h
          case hw9 => rfl
          case hy9 =>
            intro W hW
            go_simp
            first | done | with_reducible rfl
          case hk9 =>
          try simp only [Act.put, List.setIfInBounds_toArray, List.set_cons_zero, List.set_cons_succ]
          refine anyK_take 1 (oi := ?oo10) ?ho10 (by kernel_rfl) (by kernel_rfl) (by kernel_rfl) (by kernel_rfl) ?hq10 ?hw10 hT0 (fun _ => trivial) (v := ?vv10) ?hy10 ?hk10
          case ho10 => (simp only [List.getElem?_toArray, List.getElem?_cons_succ, List.getElem?_cons_zero]; rfl)
          case hq10 => exact fun _ _ _ h => h
          case hw10 => rfl
          case hy10 =>
            intro W hW
            go_simp
            first | done | with_reducible rfl
          case hk10 =>
          try simp only [Act.put, List.setIfInBounds_toArray, List.set_cons_zero, List.set_cons_succ]
          refine anyK_take 2 (oi := ?oo11) ?ho11 (by kernel_rfl) (by kernel_rfl) (by kernel_rfl) (by kernel_rfl) ?hq11 ?hw11 hT0 (fun _ => trivial) (v := ?vv11) ?hy11 ?hk11
          case ho11 => (simp only [List.getElem?_toArray, List.getElem?_cons_succ, List.getElem?_cons_zero]; rfl)
          case hq11 => exact fun _ _ _ h => h
          case hw11 => rfl
          case hy11 =>
            intro W hW
            go_simp
            first | done | with_reducible rfl
          case hk11 =>
          try simp only [Act.put, List.setIfInBounds_toArray, List.set_cons_zero, List.set_cons_succ]
          refine anyK_take 3 (oi := ?oo12) ?ho12 (by kernel_rfl) (by kernel_rfl) (by kernel_rfl) (by kernel_rfl) ?hq12 ?hw12 hT0 (fun _ => trivial) (v := ?vv12) ?hy12 ?hk12
          case ho12 => (simp only [List.getElem?_toArray, List.getElem?_cons_succ, List.getElem?_cons_zero]; rfl)
          case hq12 => exact fun _ _ _ h => h
          case hw12 => rfl
          case hy12 =>
            intro W hW
            go_simp
            first | done | with_reducible rfl
          case hk12 =>
          try simp only [Act.put, List.setIfInBounds_toArray, List.set_cons_zero, List.set_cons_succ]
          refine anyK_take 4 (oi := ?oo13) ?ho13 (by kernel_rfl) (by kernel_rfl) (by kernel_rfl) (by kernel_rfl) ?hq13 ?hw13 hT0 (fun _ => trivial) (v := ?vv13) ?hy13 ?hk13
          case ho13 => (simp only [List.getElem?_toArray, List.getElem?_cons_succ, List.getElem?_cons_zero]; rfl)
          case hq13 => exact fun _ _ _ h => h
          case hw13 => rfl
          case hy13 =>
            intro W hW
            obtain ⟨z0, z1, z2, z3, z4, z5, z6, z7, z8, z9, z10, z11, z12, z13, z14, z15, z16, z17, z18, z19⟩ := hW
            go_simp
            first | done | with_reducible rfl
          case hk13 =>
          try simp only [Act.put, List.setIfInBounds_toArray, List.set_cons_zero, List.set_cons_succ]
          refine anyK_take 5 (oi := ?oo14) ?ho14 (by kernel_rfl) (by kernel_rfl) (by kernel_rfl) (by kernel_rfl) ?hq14 ?hw14 hT0 (fun _ => trivial) (v := ?vv14) ?hy14 ?hk14
          case ho14 => (simp only [List.getElem?_toArray, List.getElem?_cons_succ, List.getElem?_cons_zero]; rfl)
          case hq14 => exact fun _ _ _ h => h
          case hw14 => rfl
          case hy14 =>
            intro W hW
            obtain ⟨z0, z1, z2, z3, z4, z5, z6, z7, z8, z9, z10, z11, z12, z13, z14, z15, z16, z17, z18, z19⟩ := hW
            go_simp
            first | done | with_reducible rfl
          case hk14 =>
          try simp only [Act.put, List.setIfInBounds_toArray, List.set_cons_zero, List.set_cons_succ]
          refine anyK_take 6 (oi := ?oo15) ?ho15 (by kernel_rfl) (by kernel_rfl) (by kernel_rfl) (by kernel_rfl) ?hq15 ?hw15 hT0 (fun _ => trivial) (v := ?vv15) ?hy15 ?hk15
          case ho15 => (simp only [List.getElem?_toArray, List.getElem?_cons_succ, List.getElem?_cons_zero]; rfl)
          case hq15 => exact fun _ _ _ h => h
          case hw15 => rfl
          case hy15 =>
            intro W hW
            obtain ⟨z0, z1, z2, z3, z4, z5, z6, z7, z8, z9, z10, z11, z12, z13, z14, z15, z16, z17, z18, z19⟩ := hW
            go_simp
            first | done | with_reducible rfl
          case hk15 =>
          try simp only [Act.put, List.setIfInBounds_toArray, List.set_cons_zero, List.set_cons_succ]
          refine anyK_take 8 (oi := ?oo16) ?ho16 (by kernel_rfl) (by kernel_rfl) (by kernel_rfl) (by kernel_rfl) ?hq16 ?hw16 hT0 (fun _ => trivial) (v := ?vv16) ?hy16 ?hk16
          case ho16 => (simp only [List.getElem?_toArray, List.getElem?_cons_succ, List.getElem?_cons_zero]; rfl)
          case hq16 => exact fun _ _ _ h => h
          case hw16 => rfl
          case hy16 =>
            intro W hW
            go_simp
            first | done | with_reducible rfl
          case hk16 =>
          try simp only [Act.put, List.setIfInBounds_toArray, List.set_cons_zero, List.set_cons_succ]
          refine anyK_take 9 (oi := ?oo17) ?ho17 (by kernel_rfl) (by kernel_rfl) (by kernel_rfl) (by kernel_rfl) ?hq17 ?hw17 hT0 (fun _ => trivial) (v := ?vv17) ?hy17 ?hk17
          case ho17 => (simp only [List.getElem?_toArray, List.getElem?_cons_succ, List.getElem?_cons_zero]; rfl)
          case hq17 => exact fun _ _ _ h => h
          case hw17 => rfl
          case hy17 =>
            intro W hW
            go_simp
            first | done | with_reducible rfl
          case hk17 =>
          try simp only [Act.put, List.setIfInBounds_toArray, List.set_cons_zero, List.set_cons_succ]
          refine anyK_on1 7 (by kernel_rfl) ?_
          refine anyK_one 7 (o := ?oo18) ?ho18 ?hk18
          case ho18 => (simp only [List.getElem?_toArray, List.getElem?_cons_succ, List.getElem?_cons_zero]; rfl)
          case hk18 =>
          intro K hK
          go_simp
          refine (HMK2.out _ (HSZ4.out _ yy.1) (HR4.out _ yy.1) (HP4.out _ yy.1)).mono ?_
          rintro e wk ⟨v6, rfl, hp6, xx⟩
          try go_wp2_with fail
          replace yy := (⟨yy.1.ext xx, match yy with | ⟨_, a, b, h⟩ => ⟨a, b, h.ext xx⟩⟩ : (fun W => Gr Bc w4 W ∧ ∃ n l, Blk W Bc 176 #[.string R.name, .int .i64 R.width, .int .i64 R.height, .slice pA R.pieces.length pc, .slice sA R.start.length sc, .bool R.falls, .bool R.keeps, .slice eA R.ends.length ec, .int .i64 R.blocked, .int .i64 R.quiet, .int .i64 R.rept, .int .i64 n, .int .i64 l]) wk)
          have HP6 := hide hp6
          have zz2 := ext_trans zz xx
          clear hp6
          have hT1 := keepK.out _ yy
          refine hK.out _ _ hT1 (fun _ => trivial) ?_
          clear hK K
          try simp only [Act.put, List.setIfInBounds_toArray, List.set_cons_zero, List.set_cons_succ]
          refine anyK_on1 10 (by kernel_rfl) ?_
          refine anyK_one 10 (o := ?oo19) ?ho19 ?hk19
          case ho19 => (simp only [List.getElem?_toArray, List.getElem?_cons_succ, List.getElem?_cons_zero]; rfl)
          case hk19 =>
          intro K hK
          go_simp
          refine (HW.out v6 _ n' l' (KC4.out.ext zz2) (fun W h => HR4.out W ((Gr.of_ext zz2).trans h)) HP6.out (by have := hsum.out; have := HPT.out; omega) (by have := hsum.out; omega) (by have := hsum.out; have := HPS.out; omega) (by have := hsum.out; have := HPL.out; omega)).mono ?_
          rintro e wz ⟨ok, n2, l2, rfl, kz, gz, hok, hfl⟩
          try go_wp2_with fail
          replace yy := (⟨yy.1.trans gz, n2, l2, kz⟩ : (fun W => Gr Bc w4 W ∧ ∃ n l, Blk W Bc 176 #[.string R.name, .int .i64 R.width, .int .i64 R.height, .slice pA R.pieces.length pc, .slice sA R.start.length sc, .bool R.falls, .bool R.keeps, .slice eA R.ends.length ec, .int .i64 R.blocked, .int .i64 R.quiet, .int .i64 R.rept, .int .i64 n, .int .i64 l]) wz)
          have hT2 := keepK.out _ yy
          refine hK.out _ _ hT2 (fun _ => trivial) ?_
          clear hK K
          try simp only [Act.put, List.setIfInBounds_toArray, List.set_cons_zero, List.set_cons_succ]
          refine anyK_take 11 (oi := ?oo20) ?ho20 (by kernel_rfl) (by kernel_rfl) (by kernel_rfl) (by kernel_rfl) ?hq20 ?hw20 hT2 (fun _ => trivial) (v := ?vv20) ?hy20 ?hk20
          case ho20 => (simp only [List.getElem?_toArray, List.getElem?_cons_succ, List.getElem?_cons_zero]; rfl)
          case hq20 => exact fun _ _ _ h => h
          case hw20 => rfl
          case hy20 =>
            intro W hW
            go_simp
            first | done | with_reducible rfl
          case hk20 =>
          try simp only [Act.put, List.setIfInBounds_toArray, List.set_cons_zero, List.set_cons_succ]
          refine anyK_done (by kernel_rfl) ?_ _
          clear keepK hT0 hT1 hT2
          obtain ⟨G9, -⟩ := yy
          have GZ := hide (G4.out.trans G9)
          have HS := hsum.out
          cases ok
          · have hnn : 50000 < n + T := by
              have := hfl rfl
              have := HBD.out
              have := HT.out
              omega
            clear hok hfl HS
            go_wp2
            go_ret
            exact ⟨false, n2, l2, rfl, kz, G3.out.trans GZ.out, nofun, fun _ => hnn⟩
          · obtain ⟨e1, e2, e3⟩ := hok rfl
            have HNW : Hid (n2 = n + 1 + partS tr L (k + 1) ∧ l2 = l + partS lf L (k + 1) ∧ n2 ≤ 50000) := hide (by
              rw [partS_succ HM.out, partS_succ HM.out]
              omega)
            clear hok hfl HS e1 e2 e3
            have KZ := hide kz
            clear kz G9
            go_wp2
            go_roundw
            case rel => exact ⟨k + 1, n2, l2, by omega, by go_num, KZ.out, GZ.out, HNW⟩
            case measure => simp [intOf]; omega
        · obtain rfl : k = L.length := by omega
          have HS := hsum.out
          rw [partS_all, partS_all] at HS
          clear hk hlt
          have KC := hide kC
          have HGR := hide gr
          clear kC gr
          go_wp2
          go_ret
          exact ⟨true, n', l', rfl, KC.out, G3.out.trans HGR.out, fun _ => ⟨by rw [HT.out]; omega, by rw [HF.out]; omega, by rw [HT.out]; omega⟩, nofun⟩
end Go.Proofs.Ytdoibgmmijhlfaa
namespace Go.Proofs.Ytdoibgmmijhlfaa
open Go.ChangeShapes Go.WideShapes Go.ChangeAt Go.RowKit Go.Shelf
set_option linter.unusedVariables false
set_option linter.unusedSimpArgs false
/-- The error of the counting to depth D, and what it counts. -/
def perftE (R : RulesM) (P : PosM) (D : Int) : Int := if checkE R P ≠ 0 then checkE R P else if D < 0 ∨ 12 < D then 1 else if 50000 < treeM R D.toNat P then 17 else 0
def perftN (R : RulesM) (P : PosM) (D : Int) : Int := if perftE R P D = 0 then treeM R D.toNat P else 0
def perftL (R : RulesM) (P : PosM) (D : Int) : Int := if perftE R P D = 0 then leafM R D.toNat P else 0
theorem perftE_chk {R : RulesM} {P : PosM} {D : Int} (h : checkE R P ≠ 0) : perftE R P D = checkE R P ∧ perftN R P D = 0 ∧ perftL R P D = 0 := by
  have e : perftE R P D = checkE R P := if_pos h
  exact ⟨e, if_neg (by rw [e]; exact h), if_neg (by rw [e]; exact h)⟩
theorem perftE_arg {R : RulesM} {P : PosM} {D : Int} (h : checkE R P = 0) (hd : D < 0 ∨ 12 < D) : perftE R P D = 1 ∧ perftN R P D = 0 ∧ perftL R P D = 0 := by
  have e : perftE R P D = 1 := by unfold perftE; rw [if_neg (by simpa using h), if_pos hd]
  exact ⟨e, if_neg (by rw [e]; decide), if_neg (by rw [e]; decide)⟩
theorem perftE_bound {R : RulesM} {P : PosM} {D : Int} (h : checkE R P = 0) (hd : ¬(D < 0 ∨ 12 < D)) (ht : 50000 < treeM R D.toNat P) : perftE R P D = 17 ∧ perftN R P D = 0 ∧ perftL R P D = 0 := by
  have e : perftE R P D = 17 := by unfold perftE; rw [if_neg (by simpa using h), if_neg hd, if_pos ht]
  exact ⟨e, if_neg (by rw [e]; decide), if_neg (by rw [e]; decide)⟩
theorem perftE_ok {R : RulesM} {P : PosM} {D : Int} (h : checkE R P = 0) (hd : ¬(D < 0 ∨ 12 < D)) (ht : ¬50000 < treeM R D.toNat P) : perftE R P D = 0 ∧ perftN R P D = treeM R D.toNat P ∧ perftL R P D = leafM R D.toNat P := by
  have e : perftE R P D = 0 := by unfold perftE; rw [if_neg (by simpa using h), if_neg hd, if_neg ht]
  exact ⟨e, if_pos e, if_pos e⟩
set_option maxHeartbeats 4000000 in
set_option maxRecDepth 100000 in
theorem PfCheck_any (R : RulesM) (P : PosM) (v u : Value) (D : Int) (w : World) (hR : RulesAt w v R) (hP : PosAt w u P) :
    Calls Try.prog 75 #[v, u, .int .i64 D] w fun e w' => e = .returned (.tuple #[.int .i64 (perftN R P D), .int .i64 (perftL R P D), .int .i64 (perftE R P D)]) ∧ Ext w w' := by
  have HC := hide (fun W (hW : Ext w W) => PCheck_any R P v u W (hR.ext hW) (hP.ext hW))
  have HRF := hide (fun W (hW : Ext w W) => hR.ext hW)
  have HPF := hide (fun W (hW : Ext w W) => hP.ext hW)
  obtain ⟨pA, pc, sA, sc, eA, ec, rfl, -⟩ := hR
  obtain ⟨cA, cc, aA, ac, bA, bc, rfl, -⟩ := hP
  obtain ⟨x1, k1, k2⟩ := blks2 w #[.string R.name, .int .i64 R.width, .int .i64 R.height, .slice pA R.pieces.length pc, .slice sA R.start.length sc, .bool R.falls, .bool R.keeps, .slice eA R.ends.length ec, .int .i64 R.blocked, .int .i64 R.quiet, .int .i64 R.rept] 26 #[.slice cA P.cells.length cc, .slice aA P.hand0.length ac, .slice bA P.hand1.length bc, .int .i64 P.turn, .int .i64 P.quiet] 29
  have HX := hide x1
  have K1 := hide k1
  have K2 := hide k2
  clear x1 k1 k2
  have f1 := K1.out.cell
  have f2 := K2.out.cell
  by_cases hc : checkE R P = 0
  · obtain ⟨hV, hS⟩ := check_iff.1 hc
    have HVS := hide (And.intro hV hS)
    clear hV hS
    have HC2 := hide hc
    rw [hc] at HC
    clear hc
    by_cases hd : D < 0 ∨ 12 < D
    · obtain ⟨e1, e2, e3⟩ := perftE_arg HC2.out hd
      rw [e1, e2, e3]
      clear e1 e2 e3 HVS
      rcases hd with hd | hd
      · have t0 : decide (D < 0) = true := by simpa using hd
        clear hd
        go_enter Try.func75, Try.ntmps75
        go_wp2_with fail
        refine (HC.out _ HX.out).mono ?_
        rintro e w2 ⟨rfl, x2⟩
        clear f1 f2
        have X2 := hide x2
        clear x2
        go_wp2
        go_ret3
        exact ⟨rfl, ext_trans HX.out X2.out⟩
      · have t0 : decide (D < 0) = false := by simp; omega
        have t1 : decide (12 < D) = true := by simpa using hd
        clear hd
        go_enter Try.func75, Try.ntmps75
        go_wp2_with fail
        refine (HC.out _ HX.out).mono ?_
        rintro e w2 ⟨rfl, x2⟩
        clear f1 f2
        have X2 := hide x2
        clear x2
        go_wp2
        go_ret3
        exact ⟨rfl, ext_trans HX.out X2.out⟩
    · have HD := hide hd
      have t0 : decide (D < 0) = false := by simp; omega
      have t1 : decide (12 < D) = false := by simp; omega
      clear hd
      go_enter Try.func75, Try.ntmps75
      go_wp2_with fail
      refine (HC.out _ HX.out).mono ?_
      rintro e w2 ⟨rfl, x2⟩
      have X2 := hide (ext_trans HX.out x2)
      have g1 := (K1.out.ext x2).cell
      have g2 := (K2.out.ext x2).cell
      have HXX := hide x2
      clear f1 f2 x2
      generalize (w.alloc (.cells #[.string R.name, .int .i64 R.width, .int .i64 R.height, .slice pA R.pieces.length pc, .slice sA R.start.length sc, .bool R.falls, .bool R.keeps, .slice eA R.ends.length ec, .int .i64 R.blocked, .int .i64 R.quiet, .int .i64 R.rept] 26)).alloc (.cells #[.slice cA P.cells.length cc, .slice aA P.hand0.length ac, .slice bA P.hand1.length bc, .int .i64 P.turn, .int .i64 P.quiet] 29) = w1 at *
      generalize w.heap.size + 1 = BP at *
      generalize w.heap.size = BR at *
      go_upto_region 7 with fail
      obtain ⟨x3, k3⟩ := blks1 w2 #[.string R.name, .int .i64 R.width, .int .i64 R.height, .slice pA R.pieces.length pc, .slice sA R.start.length sc, .bool R.falls, .bool R.keeps, .slice eA R.ends.length ec, .int .i64 R.blocked, .int .i64 R.quiet, .int .i64 R.rept, .int .i64 0, .int .i64 0] 176
      have FR := hide (fun W (h : Gr w2.heap.size (w2.alloc (.cells #[.string R.name, .int .i64 R.width, .int .i64 R.height, .slice pA R.pieces.length pc, .slice sA R.start.length sc, .bool R.falls, .bool R.keeps, .slice eA R.ends.length ec, .int .i64 R.blocked, .int .i64 R.quiet, .int .i64 R.rept, .int .i64 0, .int .i64 0] 176)) W) => HRF.out W (ext_trans X2.out (h.to_ext x3 (Nat.le_refl _))))
      have FP := hide (fun W (h : Gr w2.heap.size (w2.alloc (.cells #[.string R.name, .int .i64 R.width, .int .i64 R.height, .slice pA R.pieces.length pc, .slice sA R.start.length sc, .bool R.falls, .bool R.keeps, .slice eA R.ends.length ec, .int .i64 R.blocked, .int .i64 R.quiet, .int .i64 R.rept, .int .i64 0, .int .i64 0] 176)) W) => HPF.out W (ext_trans X2.out (h.to_ext x3 (Nat.le_refl _))))
      have GX := hide (fun W (h : Gr w2.heap.size (w2.alloc (.cells #[.string R.name, .int .i64 R.width, .int .i64 R.height, .slice pA R.pieces.length pc, .slice sA R.start.length sc, .bool R.falls, .bool R.keeps, .slice eA R.ends.length ec, .int .i64 R.blocked, .int .i64 R.quiet, .int .i64 R.rept, .int .i64 0, .int .i64 0] 176)) W) => ext_trans X2.out (h.to_ext x3 (Nat.le_refl _)))
      have X3 := hide x3
      have K3 := hide k3
      have g3 := ((K2.out.ext (Below.refl _ _)).ext (HXX.out)).ext X3.out
      clear g1 g2 k3 x3
      have g2 := g3.cell
      clear g3
      generalize w2.alloc (.cells #[.string R.name, .int .i64 R.width, .int .i64 R.height, .slice pA R.pieces.length pc, .slice sA R.start.length sc, .bool R.falls, .bool R.keeps, .slice eA R.ends.length ec, .int .i64 R.blocked, .int .i64 R.quiet, .int .i64 R.rept, .int .i64 0, .int .i64 0] 176) = w3 at *
      generalize w2.heap.size = Bc at *
      have HWK := hide (walk_any R HVS.out.1 pA pc sA sc eA ec Bc D.toNat P _ w3 D 0 0 (by have := HD.out; omega) (by have := HD.out; omega) HVS.out.2 K3.out FR.out FP.out (by decide) (by decide) (by decide) (by decide))
      go_wp2_with fail
      refine HWK.out.mono ?_
      rintro e w4 ⟨ok, n', l', rfl, k4, g4, hok, hfl⟩
      have K4 := hide k4
      have X4 := hide (GX.out _ g4)
      clear g2 k4 g4 HWK FR FP GX K3 X3 X2
      cases ok
      · have HE := hide (perftE_bound HC2.out HD.out (by have := hfl rfl; omega))
        clear hok hfl
        go_wp2
        go_ret3
        exact ⟨by rw [HE.out.1, HE.out.2.1, HE.out.2.2]; rfl, X4.out⟩
      · obtain ⟨a1, a2, a3⟩ := hok rfl
        obtain rfl : n' = treeM R D.toNat P := by omega
        obtain rfl : l' = leafM R D.toNat P := by omega
        have HE := hide (perftE_ok HC2.out HD.out (by omega))
        clear hok hfl a1 a2 a3
        generalize treeM R D.toNat P = n' at *
        generalize leafM R D.toNat P = l' at *
        go_upto_region 9 with fail
        have keepK := hide (fun W (h : Ext w4 W) => (show (fun W => W.cell? ⟨Bc, 0, none⟩ = some (.string R.name) ∧ W.cell? ⟨Bc, 1, none⟩ = some (.int .i64 R.width) ∧ W.cell? ⟨Bc, 2, none⟩ = some (.int .i64 R.height) ∧ W.cell? ⟨Bc, 3, none⟩ = some (.slice pA R.pieces.length pc) ∧ W.cell? ⟨Bc, 4, none⟩ = some (.slice sA R.start.length sc) ∧ W.cell? ⟨Bc, 5, none⟩ = some (.bool R.falls) ∧ W.cell? ⟨Bc, 6, none⟩ = some (.bool R.keeps) ∧ W.cell? ⟨Bc, 7, none⟩ = some (.slice eA R.ends.length ec) ∧ W.cell? ⟨Bc, 8, none⟩ = some (.int .i64 R.blocked) ∧ W.cell? ⟨Bc, 9, none⟩ = some (.int .i64 R.quiet) ∧ W.cell? ⟨Bc, 10, none⟩ = some (.int .i64 R.rept) ∧ W.cell? ⟨Bc, 11, none⟩ = some (.int .i64 n') ∧ W.cell? ⟨Bc, 12, none⟩ = some (.int .i64 l') ∧ Ext w4 W) W from ⟨(K4.out.ext h).cell 0, (K4.out.ext h).cell 1, (K4.out.ext h).cell 2, (K4.out.ext h).cell 3, (K4.out.ext h).cell 4, (K4.out.ext h).cell 5, (K4.out.ext h).cell 6, (K4.out.ext h).cell 7, (K4.out.ext h).cell 8, (K4.out.ext h).cell 9, (K4.out.ext h).cell 10, (K4.out.ext h).cell 11, (K4.out.ext h).cell 12, h⟩))
        have yy : Ext w4 w4.drew := Below.drew (Below.refl _ _)
        refine region_K (fun W => W.cell? ⟨Bc, 0, none⟩ = some (.string R.name) ∧ W.cell? ⟨Bc, 1, none⟩ = some (.int .i64 R.width) ∧ W.cell? ⟨Bc, 2, none⟩ = some (.int .i64 R.height) ∧ W.cell? ⟨Bc, 3, none⟩ = some (.slice pA R.pieces.length pc) ∧ W.cell? ⟨Bc, 4, none⟩ = some (.slice sA R.start.length sc) ∧ W.cell? ⟨Bc, 5, none⟩ = some (.bool R.falls) ∧ W.cell? ⟨Bc, 6, none⟩ = some (.bool R.keeps) ∧ W.cell? ⟨Bc, 7, none⟩ = some (.slice eA R.ends.length ec) ∧ W.cell? ⟨Bc, 8, none⟩ = some (.int .i64 R.blocked) ∧ W.cell? ⟨Bc, 9, none⟩ = some (.int .i64 R.quiet) ∧ W.cell? ⟨Bc, 10, none⟩ = some (.int .i64 R.rept) ∧ W.cell? ⟨Bc, 11, none⟩ = some (.int .i64 n') ∧ W.cell? ⟨Bc, 12, none⟩ = some (.int .i64 l') ∧ Ext w4 W) (fun _ => True) [] (by kernel_rfl) ?_
        have hT0 := keepK.out _ yy
        refine anyK_take 0 (oi := ?oo1) ?ho1 (by kernel_rfl) (by kernel_rfl) (by kernel_rfl) (by kernel_rfl) ?hq1 ?hw1 hT0 (fun _ => trivial) (v := ?vv1) ?hy1 ?hk1
        case ho1 => (simp only [List.getElem?_toArray, List.getElem?_cons_succ, List.getElem?_cons_zero]; rfl)
        case hq1 => exact fun _ _ _ h => h
        case hw1 => rfl
        case hy1 =>
          intro W hW
          go_simp
          first | done | with_reducible rfl
        case hk1 =>
        try simp only [Act.put, List.setIfInBounds_toArray, List.set_cons_zero, List.set_cons_succ]
        refine anyK_take 1 (oi := ?oo2) ?ho2 (by kernel_rfl) (by kernel_rfl) (by kernel_rfl) (by kernel_rfl) ?hq2 ?hw2 hT0 (fun _ => trivial) (v := ?vv2) ?hy2 ?hk2
        case ho2 => (simp only [List.getElem?_toArray, List.getElem?_cons_succ, List.getElem?_cons_zero]; rfl)
        case hq2 => exact fun _ _ _ h => h
        case hw2 => rfl
        case hy2 =>
          intro W hW
          go_simp
          first | done | with_reducible rfl
        case hk2 =>
        try simp only [Act.put, List.setIfInBounds_toArray, List.set_cons_zero, List.set_cons_succ]
        refine anyK_take 2 (oi := ?oo3) ?ho3 (by kernel_rfl) (by kernel_rfl) (by kernel_rfl) (by kernel_rfl) ?hq3 ?hw3 hT0 (fun _ => trivial) (v := ?vv3) ?hy3 ?hk3
        case ho3 => (simp only [List.getElem?_toArray, List.getElem?_cons_succ, List.getElem?_cons_zero]; rfl)
        case hq3 => exact fun _ _ _ h => h
        case hw3 => rfl
        case hy3 =>
          intro W hW
          go_simp
          first | done | with_reducible rfl
        case hk3 =>
        try simp only [Act.put, List.setIfInBounds_toArray, List.set_cons_zero, List.set_cons_succ]
        refine anyK_take 3 (oi := ?oo4) ?ho4 (by kernel_rfl) (by kernel_rfl) (by kernel_rfl) (by kernel_rfl) ?hq4 ?hw4 hT0 (fun _ => trivial) (v := ?vv4) ?hy4 ?hk4
        case ho4 => (simp only [List.getElem?_toArray, List.getElem?_cons_succ, List.getElem?_cons_zero]; rfl)
        case hq4 => exact fun _ _ _ h => h
        case hw4 => rfl
        case hy4 =>
          intro W hW
          obtain ⟨z0, z1, z2, z3, z4, z5, z6, z7, z8, z9, z10, z11, z12, z13⟩ := hW
          go_simp
          first | done | with_reducible rfl
        case hk4 =>
        try simp only [Act.put, List.setIfInBounds_toArray, List.set_cons_zero, List.set_cons_succ]
        refine anyK_take 4 (oi := ?oo5) ?ho5 (by kernel_rfl) (by kernel_rfl) (by kernel_rfl) (by kernel_rfl) ?hq5 ?hw5 hT0 (fun _ => trivial) (v := ?vv5) ?hy5 ?hk5
        case ho5 => (simp only [List.getElem?_toArray, List.getElem?_cons_succ, List.getElem?_cons_zero]; rfl)
        case hq5 => exact fun _ _ _ h => h
        case hw5 => rfl
        case hy5 =>
          intro W hW
          go_simp
          first | done | with_reducible rfl
        case hk5 =>
        try simp only [Act.put, List.setIfInBounds_toArray, List.set_cons_zero, List.set_cons_succ]
        refine anyK_take 5 (oi := ?oo6) ?ho6 (by kernel_rfl) (by kernel_rfl) (by kernel_rfl) (by kernel_rfl) ?hq6 ?hw6 hT0 (fun _ => trivial) (v := ?vv6) ?hy6 ?hk6
        case ho6 => (simp only [List.getElem?_toArray, List.getElem?_cons_succ, List.getElem?_cons_zero]; rfl)
        case hq6 => exact fun _ _ _ h => h
        case hw6 => rfl
        case hy6 =>
          intro W hW
          go_simp
          first | done | with_reducible rfl
        case hk6 =>
        try simp only [Act.put, List.setIfInBounds_toArray, List.set_cons_zero, List.set_cons_succ]
        refine anyK_take 6 (oi := ?oo7) ?ho7 (by kernel_rfl) (by kernel_rfl) (by kernel_rfl) (by kernel_rfl) ?hq7 ?hw7 hT0 (fun _ => trivial) (v := ?vv7) ?hy7 ?hk7
        case ho7 => (simp only [List.getElem?_toArray, List.getElem?_cons_succ, List.getElem?_cons_zero]; rfl)
        case hq7 => exact fun _ _ _ h => h
        case hw7 => rfl
        case hy7 =>
          intro W hW
          go_simp
          first | done | with_reducible rfl
        case hk7 =>
        try simp only [Act.put, List.setIfInBounds_toArray, List.set_cons_zero, List.set_cons_succ]
        refine anyK_take 7 (oi := ?oo8) ?ho8 (by kernel_rfl) (by kernel_rfl) (by kernel_rfl) (by kernel_rfl) ?hq8 ?hw8 hT0 (fun _ => trivial) (v := ?vv8) ?hy8 ?hk8
        case ho8 => (simp only [List.getElem?_toArray, List.getElem?_cons_succ, List.getElem?_cons_zero]; rfl)
        case hq8 => exact fun _ _ _ h => h
        case hw8 => rfl
        case hy8 =>
          intro W hW
          obtain ⟨z0, z1, z2, z3, z4, z5, z6, z7, z8, z9, z10, z11, z12, z13⟩ := hW
          go_simp
          first | done | with_reducible rfl
        case hk8 =>
        try simp only [Act.put, List.setIfInBounds_toArray, List.set_cons_zero, List.set_cons_succ]
        refine anyK_take 8 (oi := ?oo9) ?ho9 (by kernel_rfl) (by kernel_rfl) (by kernel_rfl) (by kernel_rfl) ?hq9 ?hw9 hT0 (fun _ => trivial) (v := ?vv9) ?hy9 ?hk9
        case ho9 => (simp only [List.getElem?_toArray, List.getElem?_cons_succ, List.getElem?_cons_zero]; rfl)
        case hq9 => exact fun _ _ _ h => h
        case hw9 => rfl
        case hy9 =>
          intro W hW
          go_simp
          first | done | with_reducible rfl
        case hk9 =>
        try simp only [Act.put, List.setIfInBounds_toArray, List.set_cons_zero, List.set_cons_succ]
        refine anyK_take 9 (oi := ?oo10) ?ho10 (by kernel_rfl) (by kernel_rfl) (by kernel_rfl) (by kernel_rfl) ?hq10 ?hw10 hT0 (fun _ => trivial) (v := ?vv10) ?hy10 ?hk10
        case ho10 => (simp only [List.getElem?_toArray, List.getElem?_cons_succ, List.getElem?_cons_zero]; rfl)
        case hq10 => exact fun _ _ _ h => h
        case hw10 => rfl
        case hy10 =>
          intro W hW
          go_simp
          first | done | with_reducible rfl
        case hk10 =>
        try simp only [Act.put, List.setIfInBounds_toArray, List.set_cons_zero, List.set_cons_succ]
        refine anyK_take 10 (oi := ?oo11) ?ho11 (by kernel_rfl) (by kernel_rfl) (by kernel_rfl) (by kernel_rfl) ?hq11 ?hw11 hT0 (fun _ => trivial) (v := ?vv11) ?hy11 ?hk11
        case ho11 => (simp only [List.getElem?_toArray, List.getElem?_cons_succ, List.getElem?_cons_zero]; rfl)
        case hq11 => exact fun _ _ _ h => h
        case hw11 => rfl
        case hy11 =>
          intro W hW
          go_simp
          first | done | with_reducible rfl
        case hk11 =>
        try simp only [Act.put, List.setIfInBounds_toArray, List.set_cons_zero, List.set_cons_succ]
        refine anyK_done (by kernel_rfl) ?_ _
        clear keepK hT0
        go_wp2
        go_ret3
        exact ⟨by rw [HE.out.1, HE.out.2.1, HE.out.2.2]; rfl, ext_trans X4.out yy⟩
  · obtain ⟨e1, e2, e3⟩ := perftE_chk (D := D) hc
    rw [e1, e2, e3]
    have t0 : (checkE R P != 0) = true := by simpa using hc
    clear e1 e2 e3 hc
    generalize checkE R P = E at *
    go_enter Try.func75, Try.ntmps75
    go_wp2_with fail
    refine (HC.out _ HX.out).mono ?_
    rintro e w2 ⟨rfl, x2⟩
    have X2 := hide x2
    clear f1 f2 x2
    go_wp2
    go_ret3
    exact ⟨rfl, ext_trans HX.out X2.out⟩
set_option maxHeartbeats 2000000 in
set_option maxRecDepth 100000 in
theorem PfTree_any (R : RulesM) (P : PosM) (v u : Value) (D : Int) (w : World) (hR : RulesAt w v R) (hP : PosAt w u P) :
    Calls Try.prog 39 #[v, u, .int .i64 D] w fun e w' => e = .returned (.tuple #[.int .i64 (perftN R P D), .int .i64 (perftE R P D)]) ∧ Ext w w' := by
  have HC := hide (fun W (hW : Ext w W) => PfCheck_any R P v u D W (hR.ext hW) (hP.ext hW))
  obtain ⟨pA, pc, sA, sc, eA, ec, rfl, -⟩ := hR
  obtain ⟨cA, cc, aA, ac, bA, bc, rfl, -⟩ := hP
  obtain ⟨x1, k1, k2⟩ := blks2 w #[.string R.name, .int .i64 R.width, .int .i64 R.height, .slice pA R.pieces.length pc, .slice sA R.start.length sc, .bool R.falls, .bool R.keeps, .slice eA R.ends.length ec, .int .i64 R.blocked, .int .i64 R.quiet, .int .i64 R.rept] 26 #[.slice cA P.cells.length cc, .slice aA P.hand0.length ac, .slice bA P.hand1.length bc, .int .i64 P.turn, .int .i64 P.quiet] 29
  have HX := hide x1
  have f1 := k1.cell
  have f2 := k2.cell
  clear x1 k1 k2
  generalize perftE R P D = E at *
  generalize perftN R P D = N at *
  generalize perftL R P D = l at *
  go_enter Try.func39, Try.ntmps39
  go_wp2_with fail
  refine (HC.out _ HX.out).mono ?_
  rintro e w2 ⟨rfl, x2⟩
  have X2 := hide x2
  clear f1 f2 x2
  go_wp2
  go_ret2
  exact ⟨rfl, ext_trans HX.out X2.out⟩
end Go.Proofs.Ytdoibgmmijhlfaa
namespace Go.Proofs.Ytdoibgmmijhlfaa
open Go.ChangeShapes Go.WideShapes Go.ChangeAt Go.RowKit Go.Shelf
set_option linter.unusedVariables false
set_option linter.unusedSimpArgs false
def heavyB (R : RulesM) (P : PosM) (D : Int) : Bool := perftE R P D == 17 || decide (3000 < perftN R P D) || decide ((20 : Int) < (P.cells.length : Int))
end Go.Proofs.Ytdoibgmmijhlfaa
