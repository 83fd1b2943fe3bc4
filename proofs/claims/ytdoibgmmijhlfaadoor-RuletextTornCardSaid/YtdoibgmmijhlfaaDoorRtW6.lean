/- Walk: reader.rows. -/
import Derived.Test.YtdoibgmmijhlfaaDoorRtH
import Derived.Test.YtdoibgmmijhlfaaDoorRegionK
import Derived.Test.YtdoibgmmijhlfaaDoorGTxtE
namespace Go.Proofs.YtdoibgmmijhlfaaDoor
open Go.RowKit
set_option linter.unusedVariables false
set_option linter.unusedSimpArgs false
theorem kwraps {K : Int} (h : 0 ≤ K ∧ K ≤ 8193) : IntKind.i64.wrap (2 * K) = 2 * K ∧ IntKind.i64.wrap (2 * K + 2) = 2 * K + 2 ∧ IntKind.i64.wrap (2 * K + 1) = 2 * K + 1 := by
  refine ⟨?_, ?_, ?_⟩ <;> (rw [IntKind.wrap_i64]; omega)
theorem runeK_rng (ps : List PieceM) (m : Nat) (h : ps.length ≤ 8193) {K : Int} (hK : K = max (runeIx ps m) 0) : 0 ≤ K ∧ K ≤ 8193 := by
  have h1 := pieceIx_rng ps (runeT m)
  rw [rune_ix] at h1
  omega
theorem rpiece_rune (g : Nat) (c0 c1 c2 c3 c5 c6 c7 c8 c9 c10 c11 c12 : Value) (bad : Bool) (pA : Option Addr) (pc : Nat) (ps : List PieceM) (m : Nat) (K : Int) (hK : K = max (runeIx ps m) 0) (w : World) (hg : Blk w g RT #[c0, c1, c2, c3, .slice pA ps.length pc, c5, c6, c7, c8, c9, c10, c11, c12, .bool bad]) (hp : PiecesAt w pA ps) (hn : ps.length ≤ 1000000) :
    Calls Tryd.prog 71 #[.pointer (some ⟨g, 0, none⟩), .string (strU (runeT m))] w fun e w' => e = .returned (.int .i64 K) ∧ Blk w' g RT #[c0, c1, c2, c3, .slice pA ps.length pc, c5, c6, c7, c8, c9, c10, c11, c12, .bool (bad || decide (runeIx ps m < 0))] ∧ w.grownBy w' (some g) := by
  subst hK
  have h := rpiece_any g c0 c1 c2 c3 c5 c6 c7 c8 c9 c10 c11 c12 bad pA pc ps (runeT m) w hg hp hn
  rwa [rune_ix] at h
theorem cell_low {ps : List PieceM} {ch : UInt8} {x m : Nat} (hx : x = ch.toNat) (h : 97 ≤ x ∧ x ≤ 122) (hm : m = x - 32) : cellV ps ch = 2 * max (runeIx ps m) 0 + 2 ∧ cellBad ps ch = decide (runeIx ps m < 0) := by
  have hne : ¬ ch = 46 := fun e => by subst e; rw [hx] at h; exact absurd h.1 (by decide)
  have h1 : 97 ≤ ch.toNat ∧ ch.toNat ≤ 122 := by rw [← hx]; exact h
  unfold cellV cellBad cellIx
  rw [if_neg hne, if_pos h1, if_pos h1, decide_eq_false hne, ← hx, ← hm]
  simp
theorem cell_high {ps : List PieceM} {ch : UInt8} {x : Nat} (hx : x = ch.toNat) (h : ¬ (97 ≤ x ∧ x ≤ 122)) (h46 : x ≠ 46) : cellV ps ch = 2 * max (runeIx ps x) 0 + 1 ∧ cellBad ps ch = decide (runeIx ps x < 0) := by
  have hne : ¬ ch = 46 := fun e => by subst e; exact h46 hx
  have h1 : ¬ (97 ≤ ch.toNat ∧ ch.toNat ≤ 122) := by rw [← hx]; exact h
  unfold cellV cellBad cellIx
  rw [if_neg hne, if_neg h1, if_neg h1, decide_eq_false hne, ← hx]
  simp
set_option maxHeartbeats 8000000 in
set_option maxRecDepth 100000 in
theorem rrows_any (g : Nat) (c1 c5 c6 c7 c8 c9 c10 c11 c12 : Value) (x : RdM) (wd ht : Nat) (pA : Option Addr) (pc : Nat) (A0 : Option Addr) (c : Nat) (w : World) (hw : LibW w) (hg4 : 4 ≤ g) (hwd : x.r.width = (wd : Int)) (hht : x.r.height = (ht : Int)) (h1 : 1 ≤ wd ∧ wd ≤ 8) (h2 : 1 ≤ ht ∧ ht ≤ 8) (hg : Blk w g RT #[.slice A0 x.lines.length c, c1, .int .i64 (wd : Int), .int .i64 (ht : Int), .slice pA x.r.pieces.length pc, c5, c6, c7, c8, c9, c10, c11, c12, .bool x.bad]) (hL : LinesAt w g A0 c x.lines) (hA0 : ∀ a, A0 = some a → a.block < w.heap.size) (hs : ∀ s ∈ x.lines, s.length ≤ 8192) (hp : ∀ W, Fr [g] w W → PiecesAt W pA x.r.pieces) (hps : x.r.pieces.length ≤ 8193) :
    Calls Tryd.prog 42 #[.pointer (some ⟨g, 0, none⟩)] w fun e w' => ∃ B d sv, e = .returned (.tuple #[]) ∧ LinesAt w' g B d (rowsR x).lines ∧ (∀ b, B = some b → b.block < w.heap.size) ∧ Blk w' g RT #[.slice B (rowsR x).lines.length d, c1, .int .i64 (wd : Int), .int .i64 (ht : Int), .slice pA x.r.pieces.length pc, sv, c6, c7, c8, c9, c10, c11, c12, .bool (rowsR x).bad] ∧ OwnR 3 1 w w' sv (rowsR x).r.start.length ((rowsR x).r.start.map (Value.int .i64)) ∧ (∀ s ∈ (rowsR x).lines, s.length ≤ 8192) ∧ Fr [g] w w' := by
  obtain ⟨L0, r0, t0, b0⟩ := x
  simp only at hg hL hs hp hps hwd hht
  obtain ⟨ps, hpq⟩ : ∃ ps, ps = r0.pieces := ⟨_, rfl⟩
  obtain ⟨n, hn⟩ : ∃ n, n = wd * ht := ⟨_, rfl⟩
  have hn64 : n ≤ 64 := by
    have : wd * ht ≤ 8 * 8 := Nat.mul_le_mul h1.2 h2.2
    omega
  obtain ⟨RES, hRES⟩ : ∃ R, R = rowsL ht (stS r0 t0 L0 (List.replicate n 0) b0) := ⟨_, rfl⟩
  have hrr : rowsR ⟨L0, r0, t0, b0⟩ = RES := by
    have e1 : r0.height.toNat = ht := by rw [hht, Int.toNat_natCast]
    have e2 : (r0.width * r0.height).toNat = n := by rw [hwd, hht, ← Int.natCast_mul, Int.toNat_natCast, ← hn]
    show rowsL r0.height.toNat (stS r0 t0 L0 (List.replicate (r0.width * r0.height).toNat 0) b0) = RES
    rw [hRES, e1, e2]
  rw [hrr]
  rw [← hpq] at hg hp hps ⊢
  have hmw : IntKind.i64.wrap ((wd : Int) * (ht : Int)) = (n : Int) := by rw [← Int.natCast_mul, ← hn, IntKind.wrap_i64]; omega
  have hmk : ∀ W : World, (Instr.makeSlice 23 (.int .i64 (n : Int)) (.int .i64 (n : Int))).run Tryd.prog W = .ok (.slice (some ⟨W.heap.size, 0, none⟩) n n) (W.alloc (.cells (Array.replicate n (Value.int .i64 0)) 3)) := fun W => by
    have h := makeG n (by omega) W
    rw [show ((List.replicate n (0 : Int)).map (Value.int .i64)).toArray = Array.replicate n (Value.int .i64 0) by simp] at h
    exact h
  have HG := Lib.hid (show Blk w.drew g RT #[.slice A0 L0.length c, c1, .int .i64 (wd : Int), .int .i64 (ht : Int), .slice pA ps.length pc, c5, c6, c7, c8, c9, c10, c11, c12, .bool b0] from hg)
  have HBA := Lib.hid (show Blk (w.alloc (.cells (Array.replicate n (Value.int .i64 0)) 3)).drew g RT _ from (hg.alloc _).drew)
  have HBB := Lib.hid (blk_put (i := 5) (u := .slice (some ⟨w.heap.size, 0, none⟩) n n) HBA.out (cs' := #[.slice A0 L0.length c, c1, .int .i64 (wd : Int), .int .i64 (ht : Int), .slice pA ps.length pc, .slice (some ⟨w.heap.size, 0, none⟩) n n, c6, c7, c8, c9, c10, c11, c12, .bool b0]) rfl)
  have HGN := Lib.hid (Blk.lt hg)
  have HSG0 := Lib.hid (show w.heap.size ≠ g from fun e => by have h1 := HGN.out; omega)
  have HM0 := Lib.hid (show RMem w g #[.slice A0 L0.length c, c1, .int .i64 (wd : Int), .int .i64 (ht : Int), .slice pA ps.length pc, .slice (some ⟨w.heap.size, 0, none⟩) n n, c6, c7, c8, c9, c10, c11, c12, .bool b0] A0 L0 A0 c 3 1 (.slice (some ⟨w.heap.size, 0, none⟩) n n) n ((List.replicate n (0 : Int)).map (Value.int .i64)) ((w.alloc (.cells (Array.replicate n (Value.int .i64 0)) 3)).drew.setCell ⟨g, 5, none⟩ (.slice (some ⟨w.heap.size, 0, none⟩) n n)) from by
    have hx : Ext w (w.alloc (.cells (Array.replicate n (Value.int .i64 0)) 3)).drew := Below.drew (ext_alloc (Below.refl _ _) _)
    have hf2 : Fr [g] (w.alloc (.cells (Array.replicate n (Value.int .i64 0)) 3)).drew ((w.alloc (.cells (Array.replicate n (Value.int .i64 0)) 3)).drew.setCell ⟨g, 5, none⟩ (.slice (some ⟨w.heap.size, 0, none⟩) n n)) := (Fr.refl _ _).set _ (.inl (by simp)) _
    refine ⟨HBB.out, lines_far (w := w) (hL.ext hx) hA0 hf2 (fun x hx => .inl (by simpa using hx)), hA0, fun a b h1 h2 => by rw [h1] at h2; cases h2; rfl, ?_, (Fr.of_ext hx).trans hf2, hs⟩
    refine OwnR.fr ⟨_, _, rfl, ?_⟩ hf2 (fun x hx e => ?_)
    · have h := World.ownsRow_lit (base := w.heap.size) (e := 3) (size := 1) w (Array.replicate n (Value.int .i64 0)) n (Nat.le_refl _) (by simp only [maxLen]; omega) (by simp)
      have h2 : World.ownsRow (w.alloc (.cells (Array.replicate n (Value.int .i64 0)) 3)) w.heap.size 3 1 (.slice (some ⟨w.heap.size, 0, none⟩) n n) n ((List.replicate n (0 : Int)).map (Value.int .i64)) := by simpa using h
      exact own_ext h2 (Below.drew (Below.refl _ _))
    · obtain rfl := List.mem_singleton.1 hx
      exact HSG0.out (Option.some.inj e))
  have HW := Lib.hid hw
  have HP := Lib.hid hp
  have HPS := Lib.hid hps
  have HG4 := Lib.hid hg4
  have HRES := Lib.hid hRES
  have HPQ0 := Lib.hid hpq
  have HWD := Lib.hid hwd
  have HN := Lib.hid hn
  clear hg hL hA0 hs hp hps hw hg4 hRES hpq hwd hht hrr hn
  go_enter Tryd.func42, Tryd.ntmps42
  go_wp2_with fail
  have keepK := hide (fun W (h : (World.cell? W ⟨g, 2, none⟩ = some (Value.int .i64 (wd : Int)) ∧ World.cell? W ⟨g, 3, none⟩ = some (Value.int .i64 (ht : Int)))) => (show (fun W => W.cell? ⟨g, 2, none⟩ = some (Value.int .i64 (wd : Int)) ∧ W.cell? ⟨g, 3, none⟩ = some (Value.int .i64 (ht : Int)) ∧ (World.cell? W ⟨g, 2, none⟩ = some (Value.int .i64 (wd : Int)) ∧ World.cell? W ⟨g, 3, none⟩ = some (Value.int .i64 (ht : Int)))) W from ⟨h.1, h.2, h⟩))
  have yy := And.intro (HG.out.cell 2) (HG.out.cell 3)
  refine region_K (fun W => W.cell? ⟨g, 2, none⟩ = some (Value.int .i64 (wd : Int)) ∧ W.cell? ⟨g, 3, none⟩ = some (Value.int .i64 (ht : Int)) ∧ (World.cell? W ⟨g, 2, none⟩ = some (Value.int .i64 (wd : Int)) ∧ World.cell? W ⟨g, 3, none⟩ = some (Value.int .i64 (ht : Int)))) (fun _ => True) [] (by kernel_rfl) ?_
  have hT0 := keepK.out _ yy
  refine anyK_take 0 (oi := ?oo1) ?ho1 (by kernel_rfl) (by kernel_rfl) (by kernel_rfl) (by kernel_rfl) ?hq1 ?hw1 hT0 (fun _ => trivial) (v := ?vv1) ?hy1 ?hk1
  case ho1 => (simp only [List.getElem?_toArray, List.getElem?_cons_succ, List.getElem?_cons_zero]; rfl)
  case hq1 => exact fun _ _ _ h => h
  case hw1 => rfl
  case hy1 =>
    intro W hW
    go_simp
    first | done | with_reducible rfl
  case hk1 =>
  try simp only [Act.put, List.setIfInBounds_toArray, List.set_cons_zero, List.set_cons_succ]
  refine anyK_take 1 (oi := ?oo2) ?ho2 (by kernel_rfl) (by kernel_rfl) (by kernel_rfl) (by kernel_rfl) ?hq2 ?hw2 hT0 (fun _ => trivial) (v := ?vv2) ?hy2 ?hk2
  case ho2 => (simp only [List.getElem?_toArray, List.getElem?_cons_succ, List.getElem?_cons_zero]; rfl)
  case hq2 => exact fun _ _ _ h => h
  case hw2 => rfl
  case hy2 =>
    intro W hW
    go_simp
    first | done | with_reducible rfl
  case hk2 =>
  try simp only [Act.put, List.setIfInBounds_toArray, List.set_cons_zero, List.set_cons_succ]
  refine anyK_take 2 (oi := ?oo3) ?ho3 (by kernel_rfl) (by kernel_rfl) (by kernel_rfl) (by kernel_rfl) ?hq3 ?hw3 hT0 (fun _ => trivial) (v := ?vv3) ?hy3 ?hk3
  case ho3 => (simp only [List.getElem?_toArray, List.getElem?_cons_succ, List.getElem?_cons_zero]; rfl)
  case hq3 => exact fun _ _ _ h => h
  case hw3 => rfl
  case hy3 =>
    intro W hW
    go_simp
    first | done | with_reducible rfl
  case hk3 =>
  try simp only [Act.put, List.setIfInBounds_toArray, List.set_cons_zero, List.set_cons_succ]
  refine anyK_take 3 (oi := ?oo4) ?ho4 (by kernel_rfl) (by kernel_rfl) (by kernel_rfl) (by kernel_rfl) ?hq4 ?hw4 hT0 (fun _ => trivial) (v := ?vv4) ?hy4 ?hk4
  case ho4 => (simp only [List.getElem?_toArray, List.getElem?_cons_succ, List.getElem?_cons_zero]; rfl)
  case hq4 => exact fun _ _ _ h => h
  case hw4 => rfl
  case hy4 =>
    intro W hW
    go_simp
    first | done | with_reducible rfl
  case hk4 =>
  try simp only [Act.put, List.setIfInBounds_toArray, List.set_cons_zero, List.set_cons_succ]
  refine anyK_take 4 (oi := ?oo5) ?ho5 (by kernel_rfl) (by kernel_rfl) (by kernel_rfl) (by kernel_rfl) ?hq5 ?hw5 hT0 (fun _ => trivial) (v := ?vv5) ?hy5 ?hk5
  case ho5 => (simp only [List.getElem?_toArray, List.getElem?_cons_succ, List.getElem?_cons_zero]; rfl)
  case hq5 => exact fun _ _ _ h => h
  case hw5 => rfl
  case hy5 =>
    intro W hW
    go_simp
    first | done | with_reducible rfl
  case hk5 =>
  try simp only [Act.put, List.setIfInBounds_toArray, List.set_cons_zero, List.set_cons_succ]
  refine anyK_take 5 (oi := ?oo6) ?ho6 (by kernel_rfl) (by kernel_rfl) (by kernel_rfl) (by kernel_rfl) ?hq6 ?hw6 hT0 (fun _ => trivial) (v := ?vv6) ?hy6 ?hk6
  case ho6 => (simp only [List.getElem?_toArray, List.getElem?_cons_succ, List.getElem?_cons_zero]; rfl)
  case hq6 => exact fun _ _ _ h => h
  case hw6 => rfl
  case hy6 =>
    intro W hW
    obtain ⟨z0, z1, z2⟩ := hW
    go_simp
    first | done | with_reducible rfl
  case hk6 =>
  try simp only [Act.put, List.setIfInBounds_toArray, List.set_cons_zero, List.set_cons_succ]
  refine anyK_take 6 (oi := ?oo7) ?ho7 (by kernel_rfl) (by kernel_rfl) (by kernel_rfl) (by kernel_rfl) ?hq7 ?hw7 hT0 (fun _ => trivial) (v := ?vv7) ?hy7 ?hk7
  case ho7 => (simp only [List.getElem?_toArray, List.getElem?_cons_succ, List.getElem?_cons_zero]; rfl)
  case hq7 => exact fun _ _ _ h => h
  case hw7 => rfl
  case hy7 =>
    intro W hW
    go_simp
    first | done | with_reducible rfl
  case hk7 =>
  try simp only [Act.put, List.setIfInBounds_toArray, List.set_cons_zero, List.set_cons_succ]
  refine anyK_take 7 (oi := ?oo8) ?ho8 (by kernel_rfl) (by kernel_rfl) (by kernel_rfl) (by kernel_rfl) ?hq8 ?hw8 hT0 (fun _ => trivial) (v := ?vv8) ?hy8 ?hk8
  case ho8 => (simp only [List.getElem?_toArray, List.getElem?_cons_succ, List.getElem?_cons_zero]; rfl)
  case hq8 => exact fun _ _ _ h => h
  case hw8 => rfl
  case hy8 =>
    intro W hW
    go_simp
    first | done | with_reducible rfl
  case hk8 =>
  try simp only [Act.put, List.setIfInBounds_toArray, List.set_cons_zero, List.set_cons_succ]
  refine anyK_take 8 (oi := ?oo9) ?ho9 (by kernel_rfl) (by kernel_rfl) (by kernel_rfl) (by kernel_rfl) ?hq9 ?hw9 hT0 (fun _ => trivial) (v := ?vv9) ?hy9 ?hk9
  case ho9 => (simp only [List.getElem?_toArray, List.getElem?_cons_succ, List.getElem?_cons_zero]; rfl)
  case hq9 => exact fun _ _ _ h => h
  case hw9 => rfl
  case hy9 =>
    intro W hW
    go_simp
    first | done | with_reducible rfl
  case hk9 =>
  try simp only [Act.put, List.setIfInBounds_toArray, List.set_cons_zero, List.set_cons_succ]
  refine anyK_take 9 (oi := ?oo10) ?ho10 (by kernel_rfl) (by kernel_rfl) (by kernel_rfl) (by kernel_rfl) ?hq10 ?hw10 hT0 (fun _ => trivial) (v := ?vv10) ?hy10 ?hk10
  case ho10 => (simp only [List.getElem?_toArray, List.getElem?_cons_succ, List.getElem?_cons_zero]; rfl)
  case hq10 => exact fun _ _ _ h => h
  case hw10 => rfl
  case hy10 =>
    intro W hW
    go_simp
    first | done | with_reducible rfl
  case hk10 =>
  try simp only [Act.put, List.setIfInBounds_toArray, List.set_cons_zero, List.set_cons_succ]
  refine anyK_take 10 (oi := ?oo11) ?ho11 (by kernel_rfl) (by kernel_rfl) (by kernel_rfl) (by kernel_rfl) ?hq11 ?hw11 hT0 (fun _ => trivial) (v := ?vv11) ?hy11 ?hk11
  case ho11 => (simp only [List.getElem?_toArray, List.getElem?_cons_succ, List.getElem?_cons_zero]; rfl)
  case hq11 => exact fun _ _ _ h => h
  case hw11 => rfl
  case hy11 =>
    intro W hW
    obtain ⟨z0, z1, z2⟩ := hW
    go_simp
    first | done | with_reducible rfl
  case hk11 =>
  try simp only [Act.put, List.setIfInBounds_toArray, List.set_cons_zero, List.set_cons_succ]
  refine anyK_take 11 (oi := ?oo12) ?ho12 (by kernel_rfl) (by kernel_rfl) (by kernel_rfl) (by kernel_rfl) ?hq12 ?hw12 hT0 (fun _ => trivial) (v := ?vv12) ?hy12 ?hk12
  case ho12 => (simp only [List.getElem?_toArray, List.getElem?_cons_succ, List.getElem?_cons_zero]; rfl)
  case hq12 => exact fun _ _ _ h => h
  case hw12 => rfl
  case hy12 =>
    intro W hW
    go_simp
    first | done | with_reducible rfl
  case hk12 =>
  try simp only [Act.put, List.setIfInBounds_toArray, List.set_cons_zero, List.set_cons_succ]
  refine anyK_on1 12 (by kernel_rfl) ?_
  refine anyK_one 12 (o := ?oo13) ?ho13 ?hk13
  case ho13 => (simp only [List.getElem?_toArray, List.getElem?_cons_succ, List.getElem?_cons_zero]; rfl)
  case hk13 =>
  intro K hK
  go_simp
  replace yy := And.intro (Ext.cell (ext_alloc (Below.refl _ _) (.cells (Array.replicate n (Value.int .i64 0)) 3)) yy.1) (Ext.cell (ext_alloc (Below.refl _ _) (.cells (Array.replicate n (Value.int .i64 0)) 3)) yy.2)
  have hT1 := keepK.out _ yy
  refine hK.out _ _ hT1 (fun _ => trivial) ?_
  clear hK K
  try simp only [Act.put, List.setIfInBounds_toArray, List.set_cons_zero, List.set_cons_succ]
  refine anyK_take 13 (oi := ?oo14) ?ho14 (by kernel_rfl) (by kernel_rfl) (by kernel_rfl) (by kernel_rfl) ?hq14 ?hw14 hT1 (fun _ => trivial) (v := ?vv14) ?hy14 ?hk14
  case ho14 => (simp only [List.getElem?_toArray, List.getElem?_cons_succ, List.getElem?_cons_zero]; rfl)
  case hq14 => exact fun _ _ _ h => h
  case hw14 => rfl
  case hy14 =>
    intro W hW
    go_simp
    first | done | with_reducible rfl
  case hk14 =>
  try simp only [Act.put, List.setIfInBounds_toArray, List.set_cons_zero, List.set_cons_succ]
  refine anyK_take 14 (oi := ?oo15) ?ho15 (by kernel_rfl) (by kernel_rfl) (by kernel_rfl) (by kernel_rfl) ?hq15 ?hw15 hT1 (fun _ => trivial) (v := ?vv15) ?hy15 ?hk15
  case ho15 => (simp only [List.getElem?_toArray, List.getElem?_cons_succ, List.getElem?_cons_zero]; rfl)
  case hq15 => exact fun _ _ _ h => h
  case hw15 => rfl
  case hy15 =>
    intro W hW
    go_simp
    first | done | with_reducible rfl
  case hk15 =>
  try simp only [Act.put, List.setIfInBounds_toArray, List.set_cons_zero, List.set_cons_succ]
  refine anyK_take 15 (oi := ?oo16) ?ho16 (by kernel_rfl) (by kernel_rfl) (by kernel_rfl) (by kernel_rfl) ?hq16 ?hw16 hT1 (fun _ => trivial) (v := ?vv16) ?hy16 ?hk16
  case ho16 => (simp only [List.getElem?_toArray, List.getElem?_cons_succ, List.getElem?_cons_zero]; rfl)
  case hq16 => exact fun _ _ _ h => h
  case hw16 => rfl
  case hy16 =>
    intro W hW
    go_simp
    first | done | with_reducible rfl
  case hk16 =>
  try simp only [Act.put, List.setIfInBounds_toArray, List.set_cons_zero, List.set_cons_succ]
  refine anyK_on1 16 (by kernel_rfl) ?_
  refine anyK_one 16 (o := ?oo17) ?ho17 ?hk17
  case ho17 => (simp only [List.getElem?_toArray, List.getElem?_cons_succ, List.getElem?_cons_zero]; rfl)
  case hk17 =>
  intro K hK
  have zc := HBA.out.cell
  have zf := HBA.out.frozen
  go_simp
  clear zc zf
  replace yy := And.intro (HBB.out.cell 2) (HBB.out.cell 3)
  have hT2 := keepK.out _ yy
  refine hK.out _ _ hT2 (fun _ => trivial) ?_
  clear hK K
  try simp only [Act.put, List.setIfInBounds_toArray, List.set_cons_zero, List.set_cons_succ]
  refine anyK_done (by kernel_rfl) ?_ _
  clear keepK hT0 hT1 hT2
  have HM1 := Lib.hid (show RMem w g #[.slice A0 L0.length c, c1, .int .i64 (wd : Int), .int .i64 (ht : Int), .slice pA ps.length pc, .slice (some ⟨w.heap.size, 0, none⟩) n n, c6, c7, c8, c9, c10, c11, c12, .bool b0] A0 L0 A0 c 3 1 (.slice (some ⟨w.heap.size, 0, none⟩) n n) n ((List.replicate n (0 : Int)).map (Value.int .i64)) ((w.alloc (.cells (Array.replicate n (Value.int .i64 0)) 3)).setCell ⟨g, 5, none⟩ (.slice (some ⟨w.heap.size, 0, none⟩) n n)).drew from HM0.out)
  generalize ((w.alloc (.cells (Array.replicate n (Value.int .i64 0)) 3)).setCell ⟨g, 5, none⟩ (.slice (some ⟨w.heap.size, 0, none⟩) n n)).drew = w1 at *
  obtain ⟨sg, hsg⟩ : ∃ sg, sg = w.heap.size := ⟨_, rfl⟩
  rw [← hsg] at HM1
  have HSG := Lib.hid (show sg ≠ g from fun e => HSG0.out (by rw [← hsg]; exact e))
  have hc3 : w1.cell? ⟨g, 3, none⟩ = some (.int .i64 (ht : Int)) := HM1.out.blk.cell 3
  have hwh : IntKind.i64.wrap ((ht : Int) - 1) = (ht : Int) - 1 := by rw [IntKind.wrap_i64]; omega
  clear yy hmk hsg HSG0 HM0 HBA HBB HG
  go_wp2_with fail
  go_loopw [2] (fun yv wr => ∃ (y : Nat) (z : Int) (L : List BL) (ss : List Int) (b : Bool) (B : Option Addr) (d : Nat), yv = .int .i64 z ∧ z = (y : Int) - 1 ∧ y ≤ ht ∧ RMem w g #[.slice B L.length d, c1, .int .i64 (wd : Int), .int .i64 (ht : Int), .slice pA ps.length pc, .slice (some ⟨sg, 0, none⟩) n n, c6, c7, c8, c9, c10, c11, c12, .bool b] A0 L B d 3 1 (.slice (some ⟨sg, 0, none⟩) n n) n (ss.map (Value.int .i64)) wr ∧ ss.length = n ∧ rowsL y (stS r0 t0 L ss b) = RES) (fun yv wr => (RowKit.intOf yv + 1).toNat)
  case atStart => exact ⟨ht, _, L0, _, b0, A0, c, rfl, rfl, Nat.le_refl _, HM1.out, by simp, HRES.out.symm⟩
  case round =>
    obtain ⟨y, z, L, ss, b, B, d, rfl, hz, hyh, hm, hsl, heq⟩ := hrel
    have HM := Lib.hid hm
    have HSL := Lib.hid hsl
    clear hc3 HM1 hwh
    rcases y with _ | y
    · obtain rfl : z = -1 := by omega
      have HFE := Lib.hid (show RES = stS r0 t0 L ss b from heq.symm)
      clear hm heq hz hyh hsl
      go_wp2_with fail
      (try simp only [Exit.inBlock, Exit.then]); refine bodyPost_end (results_none rfl _ _ _) rfl ?_
      rw [HFE.out]
      exact ⟨B, d, _, rfl, HM.out.lin, HM.out.low, HM.out.blk, by show OwnR _ _ _ _ _ ss.length _; rw [HSL.out]; exact HM.out.own, HM.out.l8, HM.out.fr⟩
    · obtain rfl : z = (y : Int) := by omega
      have HEQ := Lib.hid heq
      have HSL := Lib.hid hsl
      have hy8 : y < 8 := by omega
      have HYH := Lib.hid hyh
      have HMU := Lib.hid (must_any wRow 1 g c1 (.int .i64 (wd : Int)) (.int .i64 (ht : Int)) (.slice pA ps.length pc) (.slice (some ⟨sg, 0, none⟩) n n) c6 c7 c8 c9 c10 c11 c12 b B d L wr (HW.out.fr hm.fr (by have := HG4.out; simpa using this)) hm.blk hm.lin hm.l8 (by decide))
      have hyz : decide ((0 : Int) ≤ (y : Int)) = true := decide_eq_true (by omega)
      clear hm heq hsl hz hyh
      go_wp2_with fail
      refine HMU.out.mono ?_
      rintro e w2 ⟨l, ls, A2, c2', B1, d1, b1, hres, hl1, rfl, hl2, hl3, hbk, hgr, hnew, hlow⟩
      obtain ⟨s, rfl⟩ := list1 hl1
      obtain ⟨qb, qo, rfl, hqg, hq⟩ := words_at hl2
      have hc0 : w2.cell? ⟨qb, qo, none⟩ = some (.string (strU s)) := hq 0 _ rfl
      have hk1 : 1 ≤ c2' := hl2.2.1
      have HMR := Lib.hid (must_eq (x := stS r0 t0 L ss b) hres)
      have HLE := Lib.hid (rowsL_succ r0 t0 L ss b y HMR.out)
      have hsub : ∀ x ∈ ls, x ∈ L := by
        rcases hres with ⟨h, -⟩ | ⟨-, -, rfl, -⟩
        · exact (nextL_some h).2.2.1
        · exact fun x hx => hx
      have HM1 := Lib.hid (HM.out.step hgr HGN.out hbk hl3 hlow hsub)
      have HSZ := Lib.hid (strU_size s)
      have hsz := strU_size s
      have hc2 : w2.cell? ⟨g, 2, none⟩ = some (.int .i64 (wd : Int)) := HM1.out.blk.cell 2
      have HQG := Lib.hid hqg
      clear hl2 hl3 hbk hgr hnew hlow hq hqg hsub hres HMU HM HMR
      by_cases hlen : s.length = wd
      · have HLEN := Lib.hid hlen
        have HLX := Lib.hid (show rowsL y (stS r0 t0 ls (putAt ss (y * wd) (s.map (cellV ps))) (b1 || s.any (cellBad ps))) = RES by
          rw [← HEQ.out, HLE.out, if_pos (by rw [HWD.out, HLEN.out]), HWD.out, Int.toNat_natCast, ← HPQ0.out])
        have hs0 : (strU s).size = wd := by rw [HSZ.out]; exact hlen
        have HS0 := Lib.hid hs0
        have e1 : ((((strU s).size : Nat) : Int) != (wd : Int)) = false := by simp [hs0]
        have e2 : ((wd : Int) != (wd : Int)) = false := by simp
        clear hlen hsz HLE HEQ
        go_wp2_with fail
        go_loopw [50] (fun jv wr => ∃ (j : Nat) (ss' : List Int) (b' : Bool), jv = .int .i64 (j : Int) ∧ j ≤ wd ∧ RMem w g #[.slice B1 ls.length d1, c1, .int .i64 (wd : Int), .int .i64 (ht : Int), .slice pA ps.length pc, .slice (some ⟨sg, 0, none⟩) n n, c6, c7, c8, c9, c10, c11, c12, .bool b'] A0 ls B1 d1 3 1 (.slice (some ⟨sg, 0, none⟩) n n) n (ss'.map (Value.int .i64)) wr ∧ ss' = putAt ss (y * wd) ((s.take j).map (cellV ps)) ∧ b' = (b1 || (s.take j).any (cellBad ps))) (fun jv wr => wd - (RowKit.intOf jv).toNat)
        case atStart => exact ⟨0, ss, b1, rfl, Nat.zero_le _, HM1.out, rfl, by simp⟩
        case round =>
          obtain ⟨j, ss', b', rfl, hj, hm, hss, hb2⟩ := hrel
          have HM2 := Lib.hid hm
          have HSS := Lib.hid hss
          have HBB2 := Lib.hid hb2
          have HSL2 := Lib.hid (show ss'.length = n by rw [hss, putAt_len]; exact HSL.out)
          clear hm hss hb2 hc2 HM1
          by_cases hjw : j < wd
          · obtain ⟨ch, hch⟩ : ∃ ch, s[j]? = some ch := ⟨_, List.getElem?_eq_getElem (by have := HLEN.out; omega)⟩
            have HTK := Lib.hid (show s.take (j + 1) = s.take j ++ [ch] by rw [List.take_add_one, hch]; rfl)
            have HJW := Lib.hid hjw
            have hib : ∀ h : j < (strU s).size, ((strU s)[j]'h).toNat = ch.toNat := fun h => strU_get hch h
            have hjs : j < (strU s).size := by rw [HS0.out]; exact hjw
            obtain ⟨x, hx⟩ : ∃ x, x = ch.toNat := ⟨_, rfl⟩
            have HX := Lib.hid hx
            have hx256 : x < 256 := by rw [hx]; exact ch.toNat_lt
            rw [← hx] at hib
            obtain ⟨a, ha⟩ : ∃ a, a = y * wd := ⟨_, rfl⟩
            obtain ⟨p, hp⟩ : ∃ p, p = a + j := ⟨_, rfl⟩
            have hale : a + wd ≤ n := by
              have h1 := HYH.out
              have h2 : (y + 1) * wd ≤ ht * wd := Nat.mul_le_mul_right _ h1
              rw [Nat.add_mul, Nat.one_mul, ← ha, Nat.mul_comm ht, ← HN.out] at h2
              exact h2
            have hpn : p < n := by omega
            have HPN := Lib.hid hpn
            have hm1 : IntKind.i64.wrap ((y : Int) * (wd : Int)) = (a : Int) := by rw [← Int.natCast_mul, ← ha, IntKind.wrap_i64]; omega
            have hm2 : IntKind.i64.wrap ((a : Int) + (j : Int)) = (p : Int) := by rw [IntKind.wrap_i64]; omega
            have hpI : (p : Int) < (n : Int) := by omega
            have HPE := Lib.hid (show p = y * wd + j by rw [hp, ha])
            have hjI : (j : Int) < (wd : Int) := by omega
            have hj8 : j ≤ 8 := by omega
            have hwj : IntKind.i64.wrap ((j : Int) + 1) = (j : Int) + 1 := by rw [IntKind.wrap_i64]; omega
            have hs0 := HS0.out
            clear hch hx ha hp hale hj hjw
            by_cases h46 : x = 46
            · subst h46
              have HCV := Lib.hid (show cellV ps ch = 0 ∧ cellBad ps ch = false from by
                have : ch = 46 := by apply UInt8.toNat_inj.1; rw [← HX.out]; rfl
                subst this
                exact ⟨rfl, rfl⟩)
              have HMD := Lib.hid (HM2.out.ext (Below.drew (Below.refl _ _)))
              have HZC := Lib.hid (show wr.drew.cell? ⟨sg, p, none⟩ = some (.int .i64 (ss'.getD p 0)) from by
                rw [(HMD.out.cellAt p (by have := HPN.out; omega)).1, List.getElem?_map, List.getD_eq_getElem?_getD, List.getElem?_eq_getElem (show p < ss'.length by have h1 := HPN.out; have h2 := HSL2.out; omega)]
                rfl)
              have HZF := Lib.hid (HMD.out.cellAt p (by have := HPN.out; omega)).2
              go_upto_region 16 with fail
              have keepK := hide (fun W (h : (World.cell? W ⟨g, 5, none⟩ = some (Value.slice (some ⟨sg, 0, none⟩) n n) ∧ World.cell? W ⟨g, 2, none⟩ = some (Value.int .i64 (wd : Int)))) => (show (fun W => W.cell? ⟨g, 5, none⟩ = some (Value.slice (some ⟨sg, 0, none⟩) n n) ∧ W.cell? ⟨g, 2, none⟩ = some (Value.int .i64 (wd : Int)) ∧ (World.cell? W ⟨g, 5, none⟩ = some (Value.slice (some ⟨sg, 0, none⟩) n n) ∧ World.cell? W ⟨g, 2, none⟩ = some (Value.int .i64 (wd : Int)))) W from ⟨h.1, h.2, h⟩))
              have yy := And.intro (HMD.out.blk.cell 5) (HMD.out.blk.cell 2)
              refine region_K (fun W => W.cell? ⟨g, 5, none⟩ = some (Value.slice (some ⟨sg, 0, none⟩) n n) ∧ W.cell? ⟨g, 2, none⟩ = some (Value.int .i64 (wd : Int)) ∧ (World.cell? W ⟨g, 5, none⟩ = some (Value.slice (some ⟨sg, 0, none⟩) n n) ∧ World.cell? W ⟨g, 2, none⟩ = some (Value.int .i64 (wd : Int)))) (fun _ => True) [] (by kernel_rfl) ?_
              have hT0 := keepK.out _ yy
              refine anyK_take 0 (oi := ?oo18) ?ho18 (by kernel_rfl) (by kernel_rfl) (by kernel_rfl) (by kernel_rfl) ?hq18 ?hw18 hT0 (fun _ => trivial) (v := ?vv18) ?hy18 ?hk18
              case ho18 => (simp only [List.getElem?_toArray, List.getElem?_cons_succ, List.getElem?_cons_zero]; rfl)
              case hq18 => exact fun _ _ _ h => h
              case hw18 => rfl
              case hy18 =>
                intro W hW
                go_simp
                first | done | with_reducible rfl
              case hk18 =>
              try simp only [Act.put, List.setIfInBounds_toArray, List.set_cons_zero, List.set_cons_succ]
              refine anyK_take 1 (oi := ?oo19) ?ho19 (by kernel_rfl) (by kernel_rfl) (by kernel_rfl) (by kernel_rfl) ?hq19 ?hw19 hT0 (fun _ => trivial) (v := ?vv19) ?hy19 ?hk19
              case ho19 => (simp only [List.getElem?_toArray, List.getElem?_cons_succ, List.getElem?_cons_zero]; rfl)
              case hq19 => exact fun _ _ _ h => h
              case hw19 => rfl
              case hy19 =>
                intro W hW
                go_simp
                first | done | with_reducible rfl
              case hk19 =>
              try simp only [Act.put, List.setIfInBounds_toArray, List.set_cons_zero, List.set_cons_succ]
              refine anyK_take 2 (oi := ?oo20) ?ho20 (by kernel_rfl) (by kernel_rfl) (by kernel_rfl) (by kernel_rfl) ?hq20 ?hw20 hT0 (fun _ => trivial) (v := ?vv20) ?hy20 ?hk20
              case ho20 => (simp only [List.getElem?_toArray, List.getElem?_cons_succ, List.getElem?_cons_zero]; rfl)
              case hq20 => exact fun _ _ _ h => h
              case hw20 => rfl
              case hy20 =>
                intro W hW
                go_simp
                first | done | with_reducible rfl
              case hk20 =>
              try simp only [Act.put, List.setIfInBounds_toArray, List.set_cons_zero, List.set_cons_succ]
              refine anyK_take 3 (oi := ?oo21) ?ho21 (by kernel_rfl) (by kernel_rfl) (by kernel_rfl) (by kernel_rfl) ?hq21 ?hw21 hT0 (fun _ => trivial) (v := ?vv21) ?hy21 ?hk21
              case ho21 => (simp only [List.getElem?_toArray, List.getElem?_cons_succ, List.getElem?_cons_zero]; rfl)
              case hq21 => exact fun _ _ _ h => h
              case hw21 => rfl
              case hy21 =>
                intro W hW
                go_simp
                first | done | with_reducible rfl
              case hk21 =>
              try simp only [Act.put, List.setIfInBounds_toArray, List.set_cons_zero, List.set_cons_succ]
              refine anyK_take 4 (oi := ?oo22) ?ho22 (by kernel_rfl) (by kernel_rfl) (by kernel_rfl) (by kernel_rfl) ?hq22 ?hw22 hT0 (fun _ => trivial) (v := ?vv22) ?hy22 ?hk22
              case ho22 => (simp only [List.getElem?_toArray, List.getElem?_cons_succ, List.getElem?_cons_zero]; rfl)
              case hq22 => exact fun _ _ _ h => h
              case hw22 => rfl
              case hy22 =>
                intro W hW
                obtain ⟨z0, z1, z2⟩ := hW
                go_simp
                first | done | with_reducible rfl
              case hk22 =>
              try simp only [Act.put, List.setIfInBounds_toArray, List.set_cons_zero, List.set_cons_succ]
              refine anyK_take 5 (oi := ?oo23) ?ho23 (by kernel_rfl) (by kernel_rfl) (by kernel_rfl) (by kernel_rfl) ?hq23 ?hw23 hT0 (fun _ => trivial) (v := ?vv23) ?hy23 ?hk23
              case ho23 => (simp only [List.getElem?_toArray, List.getElem?_cons_succ, List.getElem?_cons_zero]; rfl)
              case hq23 => exact fun _ _ _ h => h
              case hw23 => rfl
              case hy23 =>
                intro W hW
                go_simp
                first | done | with_reducible rfl
              case hk23 =>
              try simp only [Act.put, List.setIfInBounds_toArray, List.set_cons_zero, List.set_cons_succ]
              refine anyK_take 6 (oi := ?oo24) ?ho24 (by kernel_rfl) (by kernel_rfl) (by kernel_rfl) (by kernel_rfl) ?hq24 ?hw24 hT0 (fun _ => trivial) (v := ?vv24) ?hy24 ?hk24
              case ho24 => (simp only [List.getElem?_toArray, List.getElem?_cons_succ, List.getElem?_cons_zero]; rfl)
              case hq24 => exact fun _ _ _ h => h
              case hw24 => rfl
              case hy24 =>
                intro W hW
                go_simp
                first | done | with_reducible rfl
              case hk24 =>
              try simp only [Act.put, List.setIfInBounds_toArray, List.set_cons_zero, List.set_cons_succ]
              refine anyK_take 7 (oi := ?oo25) ?ho25 (by kernel_rfl) (by kernel_rfl) (by kernel_rfl) (by kernel_rfl) ?hq25 ?hw25 hT0 (fun _ => trivial) (v := ?vv25) ?hy25 ?hk25
              case ho25 => (simp only [List.getElem?_toArray, List.getElem?_cons_succ, List.getElem?_cons_zero]; rfl)
              case hq25 => exact fun _ _ _ h => h
              case hw25 => rfl
              case hy25 =>
                intro W hW
                go_simp
                first | done | with_reducible rfl
              case hk25 =>
              try simp only [Act.put, List.setIfInBounds_toArray, List.set_cons_zero, List.set_cons_succ]
              refine anyK_take 8 (oi := ?oo26) ?ho26 (by kernel_rfl) (by kernel_rfl) (by kernel_rfl) (by kernel_rfl) ?hq26 ?hw26 hT0 (fun _ => trivial) (v := ?vv26) ?hy26 ?hk26
              case ho26 => (simp only [List.getElem?_toArray, List.getElem?_cons_succ, List.getElem?_cons_zero]; rfl)
              case hq26 => exact fun _ _ _ h => h
              case hw26 => rfl
              case hy26 =>
                intro W hW
                go_simp
                first | done | with_reducible rfl
              case hk26 =>
              try simp only [Act.put, List.setIfInBounds_toArray, List.set_cons_zero, List.set_cons_succ]
              refine anyK_take 9 (oi := ?oo27) ?ho27 (by kernel_rfl) (by kernel_rfl) (by kernel_rfl) (by kernel_rfl) ?hq27 ?hw27 hT0 (fun _ => trivial) (v := ?vv27) ?hy27 ?hk27
              case ho27 => (simp only [List.getElem?_toArray, List.getElem?_cons_succ, List.getElem?_cons_zero]; rfl)
              case hq27 => exact fun _ _ _ h => h
              case hw27 => rfl
              case hy27 =>
                intro W hW
                go_simp
                first | done | with_reducible rfl
              case hk27 =>
              try simp only [Act.put, List.setIfInBounds_toArray, List.set_cons_zero, List.set_cons_succ]
              refine anyK_take 10 (oi := ?oo28) ?ho28 (by kernel_rfl) (by kernel_rfl) (by kernel_rfl) (by kernel_rfl) ?hq28 ?hw28 hT0 (fun _ => trivial) (v := ?vv28) ?hy28 ?hk28
              case ho28 => (simp only [List.getElem?_toArray, List.getElem?_cons_succ, List.getElem?_cons_zero]; rfl)
              case hq28 => exact fun _ _ _ h => h
              case hw28 => rfl
              case hy28 =>
                intro W hW
                obtain ⟨z0, z1, z2⟩ := hW
                go_simp
                first | done | with_reducible rfl
              case hk28 =>
              try simp only [Act.put, List.setIfInBounds_toArray, List.set_cons_zero, List.set_cons_succ]
              refine anyK_take 11 (oi := ?oo29) ?ho29 (by kernel_rfl) (by kernel_rfl) (by kernel_rfl) (by kernel_rfl) ?hq29 ?hw29 hT0 (fun _ => trivial) (v := ?vv29) ?hy29 ?hk29
              case ho29 => (simp only [List.getElem?_toArray, List.getElem?_cons_succ, List.getElem?_cons_zero]; rfl)
              case hq29 => exact fun _ _ _ h => h
              case hw29 => rfl
              case hy29 =>
                intro W hW
                go_simp
                first | done | with_reducible rfl
              case hk29 =>
              try simp only [Act.put, List.setIfInBounds_toArray, List.set_cons_zero, List.set_cons_succ]
              refine anyK_take 12 (oi := ?oo30) ?ho30 (by kernel_rfl) (by kernel_rfl) (by kernel_rfl) (by kernel_rfl) ?hq30 ?hw30 hT0 (fun _ => trivial) (v := ?vv30) ?hy30 ?hk30
              case ho30 => (simp only [List.getElem?_toArray, List.getElem?_cons_succ, List.getElem?_cons_zero]; rfl)
              case hq30 => exact fun _ _ _ h => h
              case hw30 => rfl
              case hy30 =>
                intro W hW
                go_simp
                first | done | with_reducible rfl
              case hk30 =>
              try simp only [Act.put, List.setIfInBounds_toArray, List.set_cons_zero, List.set_cons_succ]
              refine anyK_take 13 (oi := ?oo31) ?ho31 (by kernel_rfl) (by kernel_rfl) (by kernel_rfl) (by kernel_rfl) ?hq31 ?hw31 hT0 (fun _ => trivial) (v := ?vv31) ?hy31 ?hk31
              case ho31 => (simp only [List.getElem?_toArray, List.getElem?_cons_succ, List.getElem?_cons_zero]; rfl)
              case hq31 => exact fun _ _ _ h => h
              case hw31 => rfl
              case hy31 =>
                intro W hW
                go_simp
                first | done | with_reducible rfl
              case hk31 =>
              try simp only [Act.put, List.setIfInBounds_toArray, List.set_cons_zero, List.set_cons_succ]
              refine anyK_take 14 (oi := ?oo32) ?ho32 (by kernel_rfl) (by kernel_rfl) (by kernel_rfl) (by kernel_rfl) ?hq32 ?hw32 hT0 (fun _ => trivial) (v := ?vv32) ?hy32 ?hk32
              case ho32 => (simp only [List.getElem?_toArray, List.getElem?_cons_succ, List.getElem?_cons_zero]; rfl)
              case hq32 => exact fun _ _ _ h => h
              case hw32 => rfl
              case hy32 =>
                intro W hW
                go_simp
                first | done | with_reducible rfl
              case hk32 =>
              try simp only [Act.put, List.setIfInBounds_toArray, List.set_cons_zero, List.set_cons_succ]
              refine anyK_take 15 (oi := ?oo33) ?ho33 (by kernel_rfl) (by kernel_rfl) (by kernel_rfl) (by kernel_rfl) ?hq33 ?hw33 hT0 (fun _ => trivial) (v := ?vv33) ?hy33 ?hk33
              case ho33 => (simp only [List.getElem?_toArray, List.getElem?_cons_succ, List.getElem?_cons_zero]; rfl)
              case hq33 => exact fun _ _ _ h => h
              case hw33 => rfl
              case hy33 =>
                intro W hW
                go_simp
                first | done | with_reducible rfl
              case hk33 =>
              try simp only [Act.put, List.setIfInBounds_toArray, List.set_cons_zero, List.set_cons_succ]
              refine anyK_on1 16 (by kernel_rfl) ?_
              refine anyK_one 16 (o := ?oo34) ?ho34 ?hk34
              case ho34 => (simp only [List.getElem?_toArray, List.getElem?_cons_succ, List.getElem?_cons_zero]; rfl)
              case hk34 =>
              intro K hK
              have zc := HZC.out
              have zf := HZF.out
              go_simp
              clear zc zf
              have HM9 := Lib.hid (HMD.out.put (sg := sg) (j := p) rfl (by have := HPN.out; omega) HGN.out (.int .i64 (0)))
              replace yy := And.intro (cell_far (p := ⟨sg, p, none⟩) yy.1 (fun e => HSG.out e.symm) (.int .i64 (0))) (cell_far (p := ⟨sg, p, none⟩) yy.2 (fun e => HSG.out e.symm) (.int .i64 (0)))
              have hT1 := keepK.out _ yy
              refine hK.out _ _ hT1 (fun _ => trivial) ?_
              clear hK K
              try simp only [Act.put, List.setIfInBounds_toArray, List.set_cons_zero, List.set_cons_succ]
              refine anyK_done (by kernel_rfl) ?_ _
              clear keepK hT0 hT1
              have HRS := Lib.hid (show (ss'.map (Value.int .i64)).set p (.int .i64 (0)) = (putAt ss (y * wd) ((s.take (j + 1)).map (cellV ps))).map (Value.int .i64) from by
                rw [HTK.out, List.map_append, List.map_cons, List.map_nil, putAt_snoc, HCV.out.1, HSS.out, List.length_map, List.length_take, Nat.min_eq_left (by have h1 := HJW.out; have h2 := HLEN.out; omega), ← HPE.out, List.map_set])
              have HM9b := Lib.hid (HRS.out ▸ HM9.out)
              have HM10 := Lib.hid (show RMem w g _ A0 ls B1 d1 3 1 _ n _ (wr.setCell ⟨sg, p, none⟩ (.int .i64 (0))).drew from HM9b.out)
              clear HM9 HM9b HRS
              generalize (wr.setCell ⟨sg, p, none⟩ (.int .i64 (0))).drew = w9 at *
              clear yy
              go_wp2_with fail
              refine ⟨⟨j + 1, _, _, by go_num, HJW.out, HM10.out, rfl, ?_⟩, ?_⟩
              · rw [HTK.out, List.any_append, ← Bool.or_assoc, ← HBB2.out]
                simp [HCV.out.2]
              · have := HJW.out
                simp [RowKit.intOf]
                omega
            · have t46 : ((x : Int) == 46) = false := by rw [beq_eq_false_iff_ne]; omega
              by_cases hlow : 97 ≤ x ∧ x ≤ 122
              · have t97 : decide ((97 : Int) ≤ (x : Int)) = true := decide_eq_true (by omega)
                have t122 : decide ((x : Int) ≤ 122) = true := decide_eq_true (by omega)
                obtain ⟨m, hm⟩ : ∃ m, m = x - 32 := ⟨_, rfl⟩
                have w8 : IntKind.u8.wrap ((x : Int) - 32) = (m : Int) := by rw [IntKind.wrap_u8]; omega
                have w32 : IntKind.i32.wrap (m : Int) = (m : Int) := by rw [IntKind.wrap_i32]; omega
                have hcv := fun W => run_byte ⟨m, by omega⟩ W
                simp only at hcv
                have HKB := Lib.hid (cell_low (ps := ps) HX.out hlow hm)
                obtain ⟨KV, hKV⟩ : ∃ KV, KV = max (runeIx ps m) 0 := ⟨_, rfl⟩
                rw [← hKV] at HKB
                have HPC := Lib.hid (rpiece_rune g (.slice B1 ls.length d1) c1 (.int .i64 (wd : Int)) (.int .i64 (ht : Int)) (.slice (some ⟨sg, 0, none⟩) n n) c6 c7 c8 c9 c10 c11 c12 b' pA pc ps m KV hKV wr HM2.out.blk (HP.out wr HM2.out.fr) (Nat.le_trans HPS.out (by decide)))
                obtain ⟨wk1, wk2, -⟩ := kwraps (runeK_rng ps m HPS.out hKV)
                clear hm hKV h46 hlow
                go_wp2_with fail
                refine HPC.out.mono ?_
                rintro e w5 ⟨rfl, hb5, g5⟩
                have HM5 := Lib.hid (HM2.out.mark g5 HGN.out hb5)
                clear hb5 g5
                have HMD := Lib.hid (HM5.out.ext (Below.drew (Below.refl _ _)))
                have HZC := Lib.hid (show w5.drew.cell? ⟨sg, p, none⟩ = some (.int .i64 (ss'.getD p 0)) from by
                  rw [(HMD.out.cellAt p (by have := HPN.out; omega)).1, List.getElem?_map, List.getD_eq_getElem?_getD, List.getElem?_eq_getElem (show p < ss'.length by have h1 := HPN.out; have h2 := HSL2.out; omega)]
                  rfl)
                have HZF := Lib.hid (HMD.out.cellAt p (by have := HPN.out; omega)).2
                go_upto_region 16 with fail
                have keepK := hide (fun W (h : (World.cell? W ⟨g, 5, none⟩ = some (Value.slice (some ⟨sg, 0, none⟩) n n) ∧ World.cell? W ⟨g, 2, none⟩ = some (Value.int .i64 (wd : Int)))) => (show (fun W => W.cell? ⟨g, 5, none⟩ = some (Value.slice (some ⟨sg, 0, none⟩) n n) ∧ W.cell? ⟨g, 2, none⟩ = some (Value.int .i64 (wd : Int)) ∧ (World.cell? W ⟨g, 5, none⟩ = some (Value.slice (some ⟨sg, 0, none⟩) n n) ∧ World.cell? W ⟨g, 2, none⟩ = some (Value.int .i64 (wd : Int)))) W from ⟨h.1, h.2, h⟩))
                have yy := And.intro (HMD.out.blk.cell 5) (HMD.out.blk.cell 2)
                refine region_K (fun W => W.cell? ⟨g, 5, none⟩ = some (Value.slice (some ⟨sg, 0, none⟩) n n) ∧ W.cell? ⟨g, 2, none⟩ = some (Value.int .i64 (wd : Int)) ∧ (World.cell? W ⟨g, 5, none⟩ = some (Value.slice (some ⟨sg, 0, none⟩) n n) ∧ World.cell? W ⟨g, 2, none⟩ = some (Value.int .i64 (wd : Int)))) (fun _ => True) [] (by kernel_rfl) ?_
                have hT0 := keepK.out _ yy
                refine anyK_take 0 (oi := ?oo35) ?ho35 (by kernel_rfl) (by kernel_rfl) (by kernel_rfl) (by kernel_rfl) ?hq35 ?hw35 hT0 (fun _ => trivial) (v := ?vv35) ?hy35 ?hk35
                case ho35 => (simp only [List.getElem?_toArray, List.getElem?_cons_succ, List.getElem?_cons_zero]; rfl)
                case hq35 => exact fun _ _ _ h => h
                case hw35 => rfl
                case hy35 =>
                  intro W hW
                  go_simp
                  first | done | with_reducible rfl
                case hk35 =>
                try simp only [Act.put, List.setIfInBounds_toArray, List.set_cons_zero, List.set_cons_succ]
                refine anyK_take 1 (oi := ?oo36) ?ho36 (by kernel_rfl) (by kernel_rfl) (by kernel_rfl) (by kernel_rfl) ?hq36 ?hw36 hT0 (fun _ => trivial) (v := ?vv36) ?hy36 ?hk36
                case ho36 => (simp only [List.getElem?_toArray, List.getElem?_cons_succ, List.getElem?_cons_zero]; rfl)
                case hq36 => exact fun _ _ _ h => h
                case hw36 => rfl
                case hy36 =>
                  intro W hW
                  go_simp
                  first | done | with_reducible rfl
                case hk36 =>
                try simp only [Act.put, List.setIfInBounds_toArray, List.set_cons_zero, List.set_cons_succ]
                refine anyK_take 2 (oi := ?oo37) ?ho37 (by kernel_rfl) (by kernel_rfl) (by kernel_rfl) (by kernel_rfl) ?hq37 ?hw37 hT0 (fun _ => trivial) (v := ?vv37) ?hy37 ?hk37
                case ho37 => (simp only [List.getElem?_toArray, List.getElem?_cons_succ, List.getElem?_cons_zero]; rfl)
                case hq37 => exact fun _ _ _ h => h
                case hw37 => rfl
                case hy37 =>
                  intro W hW
                  go_simp
                  first | done | with_reducible rfl
                case hk37 =>
                try simp only [Act.put, List.setIfInBounds_toArray, List.set_cons_zero, List.set_cons_succ]
                refine anyK_take 3 (oi := ?oo38) ?ho38 (by kernel_rfl) (by kernel_rfl) (by kernel_rfl) (by kernel_rfl) ?hq38 ?hw38 hT0 (fun _ => trivial) (v := ?vv38) ?hy38 ?hk38
                case ho38 => (simp only [List.getElem?_toArray, List.getElem?_cons_succ, List.getElem?_cons_zero]; rfl)
                case hq38 => exact fun _ _ _ h => h
                case hw38 => rfl
                case hy38 =>
                  intro W hW
                  go_simp
                  first | done | with_reducible rfl
                case hk38 =>
                try simp only [Act.put, List.setIfInBounds_toArray, List.set_cons_zero, List.set_cons_succ]
                refine anyK_take 4 (oi := ?oo39) ?ho39 (by kernel_rfl) (by kernel_rfl) (by kernel_rfl) (by kernel_rfl) ?hq39 ?hw39 hT0 (fun _ => trivial) (v := ?vv39) ?hy39 ?hk39
                case ho39 => (simp only [List.getElem?_toArray, List.getElem?_cons_succ, List.getElem?_cons_zero]; rfl)
                case hq39 => exact fun _ _ _ h => h
                case hw39 => rfl
                case hy39 =>
                  intro W hW
                  obtain ⟨z0, z1, z2⟩ := hW
                  go_simp
                  first | done | with_reducible rfl
                case hk39 =>
                try simp only [Act.put, List.setIfInBounds_toArray, List.set_cons_zero, List.set_cons_succ]
                refine anyK_take 5 (oi := ?oo40) ?ho40 (by kernel_rfl) (by kernel_rfl) (by kernel_rfl) (by kernel_rfl) ?hq40 ?hw40 hT0 (fun _ => trivial) (v := ?vv40) ?hy40 ?hk40
                case ho40 => (simp only [List.getElem?_toArray, List.getElem?_cons_succ, List.getElem?_cons_zero]; rfl)
                case hq40 => exact fun _ _ _ h => h
                case hw40 => rfl
                case hy40 =>
                  intro W hW
                  go_simp
                  first | done | with_reducible rfl
                case hk40 =>
                try simp only [Act.put, List.setIfInBounds_toArray, List.set_cons_zero, List.set_cons_succ]
                refine anyK_take 6 (oi := ?oo41) ?ho41 (by kernel_rfl) (by kernel_rfl) (by kernel_rfl) (by kernel_rfl) ?hq41 ?hw41 hT0 (fun _ => trivial) (v := ?vv41) ?hy41 ?hk41
                case ho41 => (simp only [List.getElem?_toArray, List.getElem?_cons_succ, List.getElem?_cons_zero]; rfl)
                case hq41 => exact fun _ _ _ h => h
                case hw41 => rfl
                case hy41 =>
                  intro W hW
                  go_simp
                  first | done | with_reducible rfl
                case hk41 =>
                try simp only [Act.put, List.setIfInBounds_toArray, List.set_cons_zero, List.set_cons_succ]
                refine anyK_take 7 (oi := ?oo42) ?ho42 (by kernel_rfl) (by kernel_rfl) (by kernel_rfl) (by kernel_rfl) ?hq42 ?hw42 hT0 (fun _ => trivial) (v := ?vv42) ?hy42 ?hk42
                case ho42 => (simp only [List.getElem?_toArray, List.getElem?_cons_succ, List.getElem?_cons_zero]; rfl)
                case hq42 => exact fun _ _ _ h => h
                case hw42 => rfl
                case hy42 =>
                  intro W hW
                  go_simp
                  first | done | with_reducible rfl
                case hk42 =>
                try simp only [Act.put, List.setIfInBounds_toArray, List.set_cons_zero, List.set_cons_succ]
                refine anyK_take 8 (oi := ?oo43) ?ho43 (by kernel_rfl) (by kernel_rfl) (by kernel_rfl) (by kernel_rfl) ?hq43 ?hw43 hT0 (fun _ => trivial) (v := ?vv43) ?hy43 ?hk43
                case ho43 => (simp only [List.getElem?_toArray, List.getElem?_cons_succ, List.getElem?_cons_zero]; rfl)
                case hq43 => exact fun _ _ _ h => h
                case hw43 => rfl
                case hy43 =>
                  intro W hW
                  go_simp
                  first | done | with_reducible rfl
                case hk43 =>
                try simp only [Act.put, List.setIfInBounds_toArray, List.set_cons_zero, List.set_cons_succ]
                refine anyK_take 9 (oi := ?oo44) ?ho44 (by kernel_rfl) (by kernel_rfl) (by kernel_rfl) (by kernel_rfl) ?hq44 ?hw44 hT0 (fun _ => trivial) (v := ?vv44) ?hy44 ?hk44
                case ho44 => (simp only [List.getElem?_toArray, List.getElem?_cons_succ, List.getElem?_cons_zero]; rfl)
                case hq44 => exact fun _ _ _ h => h
                case hw44 => rfl
                case hy44 =>
                  intro W hW
                  go_simp
                  first | done | with_reducible rfl
                case hk44 =>
                try simp only [Act.put, List.setIfInBounds_toArray, List.set_cons_zero, List.set_cons_succ]
                refine anyK_take 10 (oi := ?oo45) ?ho45 (by kernel_rfl) (by kernel_rfl) (by kernel_rfl) (by kernel_rfl) ?hq45 ?hw45 hT0 (fun _ => trivial) (v := ?vv45) ?hy45 ?hk45
                case ho45 => (simp only [List.getElem?_toArray, List.getElem?_cons_succ, List.getElem?_cons_zero]; rfl)
                case hq45 => exact fun _ _ _ h => h
                case hw45 => rfl
                case hy45 =>
                  intro W hW
                  obtain ⟨z0, z1, z2⟩ := hW
                  go_simp
                  first | done | with_reducible rfl
                case hk45 =>
                try simp only [Act.put, List.setIfInBounds_toArray, List.set_cons_zero, List.set_cons_succ]
                refine anyK_take 11 (oi := ?oo46) ?ho46 (by kernel_rfl) (by kernel_rfl) (by kernel_rfl) (by kernel_rfl) ?hq46 ?hw46 hT0 (fun _ => trivial) (v := ?vv46) ?hy46 ?hk46
                case ho46 => (simp only [List.getElem?_toArray, List.getElem?_cons_succ, List.getElem?_cons_zero]; rfl)
                case hq46 => exact fun _ _ _ h => h
                case hw46 => rfl
                case hy46 =>
                  intro W hW
                  go_simp
                  first | done | with_reducible rfl
                case hk46 =>
                try simp only [Act.put, List.setIfInBounds_toArray, List.set_cons_zero, List.set_cons_succ]
                refine anyK_take 12 (oi := ?oo47) ?ho47 (by kernel_rfl) (by kernel_rfl) (by kernel_rfl) (by kernel_rfl) ?hq47 ?hw47 hT0 (fun _ => trivial) (v := ?vv47) ?hy47 ?hk47
                case ho47 => (simp only [List.getElem?_toArray, List.getElem?_cons_succ, List.getElem?_cons_zero]; rfl)
                case hq47 => exact fun _ _ _ h => h
                case hw47 => rfl
                case hy47 =>
                  intro W hW
                  go_simp
                  first | done | with_reducible rfl
                case hk47 =>
                try simp only [Act.put, List.setIfInBounds_toArray, List.set_cons_zero, List.set_cons_succ]
                refine anyK_take 13 (oi := ?oo48) ?ho48 (by kernel_rfl) (by kernel_rfl) (by kernel_rfl) (by kernel_rfl) ?hq48 ?hw48 hT0 (fun _ => trivial) (v := ?vv48) ?hy48 ?hk48
                case ho48 => (simp only [List.getElem?_toArray, List.getElem?_cons_succ, List.getElem?_cons_zero]; rfl)
                case hq48 => exact fun _ _ _ h => h
                case hw48 => rfl
                case hy48 =>
                  intro W hW
                  go_simp
                  first | done | with_reducible rfl
                case hk48 =>
                try simp only [Act.put, List.setIfInBounds_toArray, List.set_cons_zero, List.set_cons_succ]
                refine anyK_take 14 (oi := ?oo49) ?ho49 (by kernel_rfl) (by kernel_rfl) (by kernel_rfl) (by kernel_rfl) ?hq49 ?hw49 hT0 (fun _ => trivial) (v := ?vv49) ?hy49 ?hk49
                case ho49 => (simp only [List.getElem?_toArray, List.getElem?_cons_succ, List.getElem?_cons_zero]; rfl)
                case hq49 => exact fun _ _ _ h => h
                case hw49 => rfl
                case hy49 =>
                  intro W hW
                  go_simp
                  first | done | with_reducible rfl
                case hk49 =>
                try simp only [Act.put, List.setIfInBounds_toArray, List.set_cons_zero, List.set_cons_succ]
                refine anyK_take 15 (oi := ?oo50) ?ho50 (by kernel_rfl) (by kernel_rfl) (by kernel_rfl) (by kernel_rfl) ?hq50 ?hw50 hT0 (fun _ => trivial) (v := ?vv50) ?hy50 ?hk50
                case ho50 => (simp only [List.getElem?_toArray, List.getElem?_cons_succ, List.getElem?_cons_zero]; rfl)
                case hq50 => exact fun _ _ _ h => h
                case hw50 => rfl
                case hy50 =>
                  intro W hW
                  go_simp
                  first | done | with_reducible rfl
                case hk50 =>
                try simp only [Act.put, List.setIfInBounds_toArray, List.set_cons_zero, List.set_cons_succ]
                refine anyK_on1 16 (by kernel_rfl) ?_
                refine anyK_one 16 (o := ?oo51) ?ho51 ?hk51
                case ho51 => (simp only [List.getElem?_toArray, List.getElem?_cons_succ, List.getElem?_cons_zero]; rfl)
                case hk51 =>
                intro K hK
                have zc := HZC.out
                have zf := HZF.out
                go_simp
                clear zc zf
                have HM9 := Lib.hid (HMD.out.put (sg := sg) (j := p) rfl (by have := HPN.out; omega) HGN.out (.int .i64 (2 * KV + 2)))
                replace yy := And.intro (cell_far (p := ⟨sg, p, none⟩) yy.1 (fun e => HSG.out e.symm) (.int .i64 (2 * KV + 2))) (cell_far (p := ⟨sg, p, none⟩) yy.2 (fun e => HSG.out e.symm) (.int .i64 (2 * KV + 2)))
                have hT1 := keepK.out _ yy
                refine hK.out _ _ hT1 (fun _ => trivial) ?_
                clear hK K
                try simp only [Act.put, List.setIfInBounds_toArray, List.set_cons_zero, List.set_cons_succ]
                refine anyK_done (by kernel_rfl) ?_ _
                clear keepK hT0 hT1
                have HRS := Lib.hid (show (ss'.map (Value.int .i64)).set p (.int .i64 (2 * KV + 2)) = (putAt ss (y * wd) ((s.take (j + 1)).map (cellV ps))).map (Value.int .i64) from by
                  rw [HTK.out, List.map_append, List.map_cons, List.map_nil, putAt_snoc, HKB.out.1, HSS.out, List.length_map, List.length_take, Nat.min_eq_left (by have h1 := HJW.out; have h2 := HLEN.out; omega), ← HPE.out, List.map_set])
                have HM9b := Lib.hid (HRS.out ▸ HM9.out)
                have HM10 := Lib.hid (show RMem w g _ A0 ls B1 d1 3 1 _ n _ (w5.setCell ⟨sg, p, none⟩ (.int .i64 (2 * KV + 2))).drew from HM9b.out)
                clear HM9 HM9b HRS
                generalize (w5.setCell ⟨sg, p, none⟩ (.int .i64 (2 * KV + 2))).drew = w9 at *
                clear yy
                go_wp2_with fail
                refine ⟨⟨j + 1, _, _, by go_num, HJW.out, HM10.out, rfl, ?_⟩, ?_⟩
                · rw [HTK.out, List.any_append, ← Bool.or_assoc, ← HBB2.out]
                  simp [HKB.out.2]
                · have := HJW.out
                  simp [RowKit.intOf]
                  omega
              · have HKB := Lib.hid (cell_high (ps := ps) HX.out hlow h46)
                have w32 : IntKind.i32.wrap (x : Int) = (x : Int) := by rw [IntKind.wrap_i32]; omega
                have hcv := fun W => run_byte ⟨x, hx256⟩ W
                simp only at hcv
                obtain ⟨KV, hKV⟩ : ∃ KV, KV = max (runeIx ps x) 0 := ⟨_, rfl⟩
                rw [← hKV] at HKB
                have HPC := Lib.hid (rpiece_rune g (.slice B1 ls.length d1) c1 (.int .i64 (wd : Int)) (.int .i64 (ht : Int)) (.slice (some ⟨sg, 0, none⟩) n n) c6 c7 c8 c9 c10 c11 c12 b' pA pc ps x KV hKV wr HM2.out.blk (HP.out wr HM2.out.fr) (Nat.le_trans HPS.out (by decide)))
                obtain ⟨wk1, -, wk2⟩ := kwraps (runeK_rng ps x HPS.out hKV)
                clear hKV h46
                by_cases h97 : 97 ≤ x
                · have t97 : decide ((97 : Int) ≤ (x : Int)) = true := decide_eq_true (by omega)
                  have t122 : decide ((x : Int) ≤ 122) = false := decide_eq_false (by omega)
                  clear hlow h97
                  go_wp2_with fail
                  refine HPC.out.mono ?_
                  rintro e w5 ⟨rfl, hb5, g5⟩
                  have HM5 := Lib.hid (HM2.out.mark g5 HGN.out hb5)
                  clear hb5 g5
                  have HMD := Lib.hid (HM5.out.ext (Below.drew (Below.refl _ _)))
                  have HZC := Lib.hid (show w5.drew.cell? ⟨sg, p, none⟩ = some (.int .i64 (ss'.getD p 0)) from by
                    rw [(HMD.out.cellAt p (by have := HPN.out; omega)).1, List.getElem?_map, List.getD_eq_getElem?_getD, List.getElem?_eq_getElem (show p < ss'.length by have h1 := HPN.out; have h2 := HSL2.out; omega)]
                    rfl)
                  have HZF := Lib.hid (HMD.out.cellAt p (by have := HPN.out; omega)).2
                  go_upto_region 16 with fail
                  have keepK := hide (fun W (h : (World.cell? W ⟨g, 5, none⟩ = some (Value.slice (some ⟨sg, 0, none⟩) n n) ∧ World.cell? W ⟨g, 2, none⟩ = some (Value.int .i64 (wd : Int)))) => (show (fun W => W.cell? ⟨g, 5, none⟩ = some (Value.slice (some ⟨sg, 0, none⟩) n n) ∧ W.cell? ⟨g, 2, none⟩ = some (Value.int .i64 (wd : Int)) ∧ (World.cell? W ⟨g, 5, none⟩ = some (Value.slice (some ⟨sg, 0, none⟩) n n) ∧ World.cell? W ⟨g, 2, none⟩ = some (Value.int .i64 (wd : Int)))) W from ⟨h.1, h.2, h⟩))
                  have yy := And.intro (HMD.out.blk.cell 5) (HMD.out.blk.cell 2)
                  refine region_K (fun W => W.cell? ⟨g, 5, none⟩ = some (Value.slice (some ⟨sg, 0, none⟩) n n) ∧ W.cell? ⟨g, 2, none⟩ = some (Value.int .i64 (wd : Int)) ∧ (World.cell? W ⟨g, 5, none⟩ = some (Value.slice (some ⟨sg, 0, none⟩) n n) ∧ World.cell? W ⟨g, 2, none⟩ = some (Value.int .i64 (wd : Int)))) (fun _ => True) [] (by kernel_rfl) ?_
                  have hT0 := keepK.out _ yy
                  refine anyK_take 0 (oi := ?oo52) ?ho52 (by kernel_rfl) (by kernel_rfl) (by kernel_rfl) (by kernel_rfl) ?hq52 ?hw52 hT0 (fun _ => trivial) (v := ?vv52) ?hy52 ?hk52
                  case ho52 => (simp only [List.getElem?_toArray, List.getElem?_cons_succ, List.getElem?_cons_zero]; rfl)
                  case hq52 => exact fun _ _ _ h => h
                  case hw52 => rfl
                  case hy52 =>
                    intro W hW
                    go_simp
                    first | done | with_reducible rfl
                  case hk52 =>
                  try simp only [Act.put, List.setIfInBounds_toArray, List.set_cons_zero, List.set_cons_succ]
                  refine anyK_take 1 (oi := ?oo53) ?ho53 (by kernel_rfl) (by kernel_rfl) (by kernel_rfl) (by kernel_rfl) ?hq53 ?hw53 hT0 (fun _ => trivial) (v := ?vv53) ?hy53 ?hk53
                  case ho53 => (simp only [List.getElem?_toArray, List.getElem?_cons_succ, List.getElem?_cons_zero]; rfl)
                  case hq53 => exact fun _ _ _ h => h
                  case hw53 => rfl
                  case hy53 =>
                    intro W hW
                    go_simp
                    first | done | with_reducible rfl
                  case hk53 =>
                  try simp only [Act.put, List.setIfInBounds_toArray, List.set_cons_zero, List.set_cons_succ]
                  refine anyK_take 2 (oi := ?oo54) ?ho54 (by kernel_rfl) (by kernel_rfl) (by kernel_rfl) (by kernel_rfl) ?hq54 ?hw54 hT0 (fun _ => trivial) (v := ?vv54) ?hy54 ?hk54
                  case ho54 => (simp only [List.getElem?_toArray, List.getElem?_cons_succ, List.getElem?_cons_zero]; rfl)
                  case hq54 => exact fun _ _ _ h => h
                  case hw54 => rfl
                  case hy54 =>
                    intro W hW
                    go_simp
                    first | done | with_reducible rfl
                  case hk54 =>
                  try simp only [Act.put, List.setIfInBounds_toArray, List.set_cons_zero, List.set_cons_succ]
                  refine anyK_take 3 (oi := ?oo55) ?ho55 (by kernel_rfl) (by kernel_rfl) (by kernel_rfl) (by kernel_rfl) ?hq55 ?hw55 hT0 (fun _ => trivial) (v := ?vv55) ?hy55 ?hk55
                  case ho55 => (simp only [List.getElem?_toArray, List.getElem?_cons_succ, List.getElem?_cons_zero]; rfl)
                  case hq55 => exact fun _ _ _ h => h
                  case hw55 => rfl
                  case hy55 =>
                    intro W hW
                    go_simp
                    first | done | with_reducible rfl
                  case hk55 =>
                  try simp only [Act.put, List.setIfInBounds_toArray, List.set_cons_zero, List.set_cons_succ]
                  refine anyK_take 4 (oi := ?oo56) ?ho56 (by kernel_rfl) (by kernel_rfl) (by kernel_rfl) (by kernel_rfl) ?hq56 ?hw56 hT0 (fun _ => trivial) (v := ?vv56) ?hy56 ?hk56
                  case ho56 => (simp only [List.getElem?_toArray, List.getElem?_cons_succ, List.getElem?_cons_zero]; rfl)
                  case hq56 => exact fun _ _ _ h => h
                  case hw56 => rfl
                  case hy56 =>
                    intro W hW
                    obtain ⟨z0, z1, z2⟩ := hW
                    go_simp
                    first | done | with_reducible rfl
                  case hk56 =>
                  try simp only [Act.put, List.setIfInBounds_toArray, List.set_cons_zero, List.set_cons_succ]
                  refine anyK_take 5 (oi := ?oo57) ?ho57 (by kernel_rfl) (by kernel_rfl) (by kernel_rfl) (by kernel_rfl) ?hq57 ?hw57 hT0 (fun _ => trivial) (v := ?vv57) ?hy57 ?hk57
                  case ho57 => (simp only [List.getElem?_toArray, List.getElem?_cons_succ, List.getElem?_cons_zero]; rfl)
                  case hq57 => exact fun _ _ _ h => h
                  case hw57 => rfl
                  case hy57 =>
                    intro W hW
                    go_simp
                    first | done | with_reducible rfl
                  case hk57 =>
                  try simp only [Act.put, List.setIfInBounds_toArray, List.set_cons_zero, List.set_cons_succ]
                  refine anyK_take 6 (oi := ?oo58) ?ho58 (by kernel_rfl) (by kernel_rfl) (by kernel_rfl) (by kernel_rfl) ?hq58 ?hw58 hT0 (fun _ => trivial) (v := ?vv58) ?hy58 ?hk58
                  case ho58 => (simp only [List.getElem?_toArray, List.getElem?_cons_succ, List.getElem?_cons_zero]; rfl)
                  case hq58 => exact fun _ _ _ h => h
                  case hw58 => rfl
                  case hy58 =>
                    intro W hW
                    go_simp
                    first | done | with_reducible rfl
                  case hk58 =>
                  try simp only [Act.put, List.setIfInBounds_toArray, List.set_cons_zero, List.set_cons_succ]
                  refine anyK_take 7 (oi := ?oo59) ?ho59 (by kernel_rfl) (by kernel_rfl) (by kernel_rfl) (by kernel_rfl) ?hq59 ?hw59 hT0 (fun _ => trivial) (v := ?vv59) ?hy59 ?hk59
                  case ho59 => (simp only [List.getElem?_toArray, List.getElem?_cons_succ, List.getElem?_cons_zero]; rfl)
                  case hq59 => exact fun _ _ _ h => h
                  case hw59 => rfl
                  case hy59 =>
                    intro W hW
                    go_simp
                    first | done | with_reducible rfl
                  case hk59 =>
                  try simp only [Act.put, List.setIfInBounds_toArray, List.set_cons_zero, List.set_cons_succ]
                  refine anyK_take 8 (oi := ?oo60) ?ho60 (by kernel_rfl) (by kernel_rfl) (by kernel_rfl) (by kernel_rfl) ?hq60 ?hw60 hT0 (fun _ => trivial) (v := ?vv60) ?hy60 ?hk60
                  case ho60 => (simp only [List.getElem?_toArray, List.getElem?_cons_succ, List.getElem?_cons_zero]; rfl)
                  case hq60 => exact fun _ _ _ h => h
                  case hw60 => rfl
                  case hy60 =>
                    intro W hW
                    go_simp
                    first | done | with_reducible rfl
                  case hk60 =>
                  try simp only [Act.put, List.setIfInBounds_toArray, List.set_cons_zero, List.set_cons_succ]
                  refine anyK_take 9 (oi := ?oo61) ?ho61 (by kernel_rfl) (by kernel_rfl) (by kernel_rfl) (by kernel_rfl) ?hq61 ?hw61 hT0 (fun _ => trivial) (v := ?vv61) ?hy61 ?hk61
                  case ho61 => (simp only [List.getElem?_toArray, List.getElem?_cons_succ, List.getElem?_cons_zero]; rfl)
                  case hq61 => exact fun _ _ _ h => h
                  case hw61 => rfl
                  case hy61 =>
                    intro W hW
                    go_simp
                    first | done | with_reducible rfl
                  case hk61 =>
                  try simp only [Act.put, List.setIfInBounds_toArray, List.set_cons_zero, List.set_cons_succ]
                  refine anyK_take 10 (oi := ?oo62) ?ho62 (by kernel_rfl) (by kernel_rfl) (by kernel_rfl) (by kernel_rfl) ?hq62 ?hw62 hT0 (fun _ => trivial) (v := ?vv62) ?hy62 ?hk62
                  case ho62 => (simp only [List.getElem?_toArray, List.getElem?_cons_succ, List.getElem?_cons_zero]; rfl)
                  case hq62 => exact fun _ _ _ h => h
                  case hw62 => rfl
                  case hy62 =>
                    intro W hW
                    obtain ⟨z0, z1, z2⟩ := hW
                    go_simp
                    first | done | with_reducible rfl
                  case hk62 =>
                  try simp only [Act.put, List.setIfInBounds_toArray, List.set_cons_zero, List.set_cons_succ]
                  refine anyK_take 11 (oi := ?oo63) ?ho63 (by kernel_rfl) (by kernel_rfl) (by kernel_rfl) (by kernel_rfl) ?hq63 ?hw63 hT0 (fun _ => trivial) (v := ?vv63) ?hy63 ?hk63
                  case ho63 => (simp only [List.getElem?_toArray, List.getElem?_cons_succ, List.getElem?_cons_zero]; rfl)
                  case hq63 => exact fun _ _ _ h => h
                  case hw63 => rfl
                  case hy63 =>
                    intro W hW
                    go_simp
                    first | done | with_reducible rfl
                  case hk63 =>
                  try simp only [Act.put, List.setIfInBounds_toArray, List.set_cons_zero, List.set_cons_succ]
                  refine anyK_take 12 (oi := ?oo64) ?ho64 (by kernel_rfl) (by kernel_rfl) (by kernel_rfl) (by kernel_rfl) ?hq64 ?hw64 hT0 (fun _ => trivial) (v := ?vv64) ?hy64 ?hk64
                  case ho64 => (simp only [List.getElem?_toArray, List.getElem?_cons_succ, List.getElem?_cons_zero]; rfl)
                  case hq64 => exact fun _ _ _ h => h
                  case hw64 => rfl
                  case hy64 =>
                    intro W hW
                    go_simp
                    first | done | with_reducible rfl
                  case hk64 =>
                  try simp only [Act.put, List.setIfInBounds_toArray, List.set_cons_zero, List.set_cons_succ]
                  refine anyK_take 13 (oi := ?oo65) ?ho65 (by kernel_rfl) (by kernel_rfl) (by kernel_rfl) (by kernel_rfl) ?hq65 ?hw65 hT0 (fun _ => trivial) (v := ?vv65) ?hy65 ?hk65
                  case ho65 => (simp only [List.getElem?_toArray, List.getElem?_cons_succ, List.getElem?_cons_zero]; rfl)
                  case hq65 => exact fun _ _ _ h => h
                  case hw65 => rfl
                  case hy65 =>
                    intro W hW
                    go_simp
                    first | done | with_reducible rfl
                  case hk65 =>
                  try simp only [Act.put, List.setIfInBounds_toArray, List.set_cons_zero, List.set_cons_succ]
                  refine anyK_take 14 (oi := ?oo66) ?ho66 (by kernel_rfl) (by kernel_rfl) (by kernel_rfl) (by kernel_rfl) ?hq66 ?hw66 hT0 (fun _ => trivial) (v := ?vv66) ?hy66 ?hk66
                  case ho66 => (simp only [List.getElem?_toArray, List.getElem?_cons_succ, List.getElem?_cons_zero]; rfl)
                  case hq66 => exact fun _ _ _ h => h
                  case hw66 => rfl
                  case hy66 =>
                    intro W hW
                    go_simp
                    first | done | with_reducible rfl
                  case hk66 =>
                  try simp only [Act.put, List.setIfInBounds_toArray, List.set_cons_zero, List.set_cons_succ]
                  refine anyK_take 15 (oi := ?oo67) ?ho67 (by kernel_rfl) (by kernel_rfl) (by kernel_rfl) (by kernel_rfl) ?hq67 ?hw67 hT0 (fun _ => trivial) (v := ?vv67) ?hy67 ?hk67
                  case ho67 => (simp only [List.getElem?_toArray, List.getElem?_cons_succ, List.getElem?_cons_zero]; rfl)
                  case hq67 => exact fun _ _ _ h => h
                  case hw67 => rfl
                  case hy67 =>
                    intro W hW
                    go_simp
                    first | done | with_reducible rfl
                  case hk67 =>
                  try simp only [Act.put, List.setIfInBounds_toArray, List.set_cons_zero, List.set_cons_succ]
                  refine anyK_on1 16 (by kernel_rfl) ?_
                  refine anyK_one 16 (o := ?oo68) ?ho68 ?hk68
                  case ho68 => (simp only [List.getElem?_toArray, List.getElem?_cons_succ, List.getElem?_cons_zero]; rfl)
                  case hk68 =>
                  intro K hK
                  have zc := HZC.out
                  have zf := HZF.out
                  go_simp
                  clear zc zf
                  have HM9 := Lib.hid (HMD.out.put (sg := sg) (j := p) rfl (by have := HPN.out; omega) HGN.out (.int .i64 (2 * KV + 1)))
                  replace yy := And.intro (cell_far (p := ⟨sg, p, none⟩) yy.1 (fun e => HSG.out e.symm) (.int .i64 (2 * KV + 1))) (cell_far (p := ⟨sg, p, none⟩) yy.2 (fun e => HSG.out e.symm) (.int .i64 (2 * KV + 1)))
                  have hT1 := keepK.out _ yy
                  refine hK.out _ _ hT1 (fun _ => trivial) ?_
                  clear hK K
                  try simp only [Act.put, List.setIfInBounds_toArray, List.set_cons_zero, List.set_cons_succ]
                  refine anyK_done (by kernel_rfl) ?_ _
                  clear keepK hT0 hT1
                  have HRS := Lib.hid (show (ss'.map (Value.int .i64)).set p (.int .i64 (2 * KV + 1)) = (putAt ss (y * wd) ((s.take (j + 1)).map (cellV ps))).map (Value.int .i64) from by
                    rw [HTK.out, List.map_append, List.map_cons, List.map_nil, putAt_snoc, HKB.out.1, HSS.out, List.length_map, List.length_take, Nat.min_eq_left (by have h1 := HJW.out; have h2 := HLEN.out; omega), ← HPE.out, List.map_set])
                  have HM9b := Lib.hid (HRS.out ▸ HM9.out)
                  have HM10 := Lib.hid (show RMem w g _ A0 ls B1 d1 3 1 _ n _ (w5.setCell ⟨sg, p, none⟩ (.int .i64 (2 * KV + 1))).drew from HM9b.out)
                  clear HM9 HM9b HRS
                  generalize (w5.setCell ⟨sg, p, none⟩ (.int .i64 (2 * KV + 1))).drew = w9 at *
                  clear yy
                  go_wp2_with fail
                  refine ⟨⟨j + 1, _, _, by go_num, HJW.out, HM10.out, rfl, ?_⟩, ?_⟩
                  · rw [HTK.out, List.any_append, ← Bool.or_assoc, ← HBB2.out]
                    simp [HKB.out.2]
                  · have := HJW.out
                    simp [RowKit.intOf]
                    omega
                · have t97 : decide ((97 : Int) ≤ (x : Int)) = false := decide_eq_false (by omega)
                  clear hlow h97
                  go_wp2_with fail
                  refine HPC.out.mono ?_
                  rintro e w5 ⟨rfl, hb5, g5⟩
                  have HM5 := Lib.hid (HM2.out.mark g5 HGN.out hb5)
                  clear hb5 g5
                  have HMD := Lib.hid (HM5.out.ext (Below.drew (Below.refl _ _)))
                  have HZC := Lib.hid (show w5.drew.cell? ⟨sg, p, none⟩ = some (.int .i64 (ss'.getD p 0)) from by
                    rw [(HMD.out.cellAt p (by have := HPN.out; omega)).1, List.getElem?_map, List.getD_eq_getElem?_getD, List.getElem?_eq_getElem (show p < ss'.length by have h1 := HPN.out; have h2 := HSL2.out; omega)]
                    rfl)
                  have HZF := Lib.hid (HMD.out.cellAt p (by have := HPN.out; omega)).2
                  go_upto_region 16 with fail
                  have keepK := hide (fun W (h : (World.cell? W ⟨g, 5, none⟩ = some (Value.slice (some ⟨sg, 0, none⟩) n n) ∧ World.cell? W ⟨g, 2, none⟩ = some (Value.int .i64 (wd : Int)))) => (show (fun W => W.cell? ⟨g, 5, none⟩ = some (Value.slice (some ⟨sg, 0, none⟩) n n) ∧ W.cell? ⟨g, 2, none⟩ = some (Value.int .i64 (wd : Int)) ∧ (World.cell? W ⟨g, 5, none⟩ = some (Value.slice (some ⟨sg, 0, none⟩) n n) ∧ World.cell? W ⟨g, 2, none⟩ = some (Value.int .i64 (wd : Int)))) W from ⟨h.1, h.2, h⟩))
                  have yy := And.intro (HMD.out.blk.cell 5) (HMD.out.blk.cell 2)
                  refine region_K (fun W => W.cell? ⟨g, 5, none⟩ = some (Value.slice (some ⟨sg, 0, none⟩) n n) ∧ W.cell? ⟨g, 2, none⟩ = some (Value.int .i64 (wd : Int)) ∧ (World.cell? W ⟨g, 5, none⟩ = some (Value.slice (some ⟨sg, 0, none⟩) n n) ∧ World.cell? W ⟨g, 2, none⟩ = some (Value.int .i64 (wd : Int)))) (fun _ => True) [] (by kernel_rfl) ?_
                  have hT0 := keepK.out _ yy
                  refine anyK_take 0 (oi := ?oo69) ?ho69 (by kernel_rfl) (by kernel_rfl) (by kernel_rfl) (by kernel_rfl) ?hq69 ?hw69 hT0 (fun _ => trivial) (v := ?vv69) ?hy69 ?hk69
                  case ho69 => (simp only [List.getElem?_toArray, List.getElem?_cons_succ, List.getElem?_cons_zero]; rfl)
                  case hq69 => exact fun _ _ _ h => h
                  case hw69 => rfl
                  case hy69 =>
                    intro W hW
                    go_simp
                    first | done | with_reducible rfl
                  case hk69 =>
                  try simp only [Act.put, List.setIfInBounds_toArray, List.set_cons_zero, List.set_cons_succ]
                  refine anyK_take 1 (oi := ?oo70) ?ho70 (by kernel_rfl) (by kernel_rfl) (by kernel_rfl) (by kernel_rfl) ?hq70 ?hw70 hT0 (fun _ => trivial) (v := ?vv70) ?hy70 ?hk70
                  case ho70 => (simp only [List.getElem?_toArray, List.getElem?_cons_succ, List.getElem?_cons_zero]; rfl)
                  case hq70 => exact fun _ _ _ h => h
                  case hw70 => rfl
                  case hy70 =>
                    intro W hW
                    go_simp
                    first | done | with_reducible rfl
                  case hk70 =>
                  try simp only [Act.put, List.setIfInBounds_toArray, List.set_cons_zero, List.set_cons_succ]
                  refine anyK_take 2 (oi := ?oo71) ?ho71 (by kernel_rfl) (by kernel_rfl) (by kernel_rfl) (by kernel_rfl) ?hq71 ?hw71 hT0 (fun _ => trivial) (v := ?vv71) ?hy71 ?hk71
                  case ho71 => (simp only [List.getElem?_toArray, List.getElem?_cons_succ, List.getElem?_cons_zero]; rfl)
                  case hq71 => exact fun _ _ _ h => h
                  case hw71 => rfl
                  case hy71 =>
                    intro W hW
                    go_simp
                    first | done | with_reducible rfl
                  case hk71 =>
                  try simp only [Act.put, List.setIfInBounds_toArray, List.set_cons_zero, List.set_cons_succ]
                  refine anyK_take 3 (oi := ?oo72) ?ho72 (by kernel_rfl) (by kernel_rfl) (by kernel_rfl) (by kernel_rfl) ?hq72 ?hw72 hT0 (fun _ => trivial) (v := ?vv72) ?hy72 ?hk72
                  case ho72 => (simp only [List.getElem?_toArray, List.getElem?_cons_succ, List.getElem?_cons_zero]; rfl)
                  case hq72 => exact fun _ _ _ h => h
                  case hw72 => rfl
                  case hy72 =>
                    intro W hW
                    go_simp
                    first | done | with_reducible rfl
                  case hk72 =>
                  try simp only [Act.put, List.setIfInBounds_toArray, List.set_cons_zero, List.set_cons_succ]
                  refine anyK_take 4 (oi := ?oo73) ?ho73 (by kernel_rfl) (by kernel_rfl) (by kernel_rfl) (by kernel_rfl) ?hq73 ?hw73 hT0 (fun _ => trivial) (v := ?vv73) ?hy73 ?hk73
                  case ho73 => (simp only [List.getElem?_toArray, List.getElem?_cons_succ, List.getElem?_cons_zero]; rfl)
                  case hq73 => exact fun _ _ _ h => h
                  case hw73 => rfl
                  case hy73 =>
                    intro W hW
                    obtain ⟨z0, z1, z2⟩ := hW
                    go_simp
                    first | done | with_reducible rfl
                  case hk73 =>
                  try simp only [Act.put, List.setIfInBounds_toArray, List.set_cons_zero, List.set_cons_succ]
                  refine anyK_take 5 (oi := ?oo74) ?ho74 (by kernel_rfl) (by kernel_rfl) (by kernel_rfl) (by kernel_rfl) ?hq74 ?hw74 hT0 (fun _ => trivial) (v := ?vv74) ?hy74 ?hk74
                  case ho74 => (simp only [List.getElem?_toArray, List.getElem?_cons_succ, List.getElem?_cons_zero]; rfl)
                  case hq74 => exact fun _ _ _ h => h
                  case hw74 => rfl
                  case hy74 =>
                    intro W hW
                    go_simp
                    first | done | with_reducible rfl
                  case hk74 =>
                  try simp only [Act.put, List.setIfInBounds_toArray, List.set_cons_zero, List.set_cons_succ]
                  refine anyK_take 6 (oi := ?oo75) ?ho75 (by kernel_rfl) (by kernel_rfl) (by kernel_rfl) (by kernel_rfl) ?hq75 ?hw75 hT0 (fun _ => trivial) (v := ?vv75) ?hy75 ?hk75
                  case ho75 => (simp only [List.getElem?_toArray, List.getElem?_cons_succ, List.getElem?_cons_zero]; rfl)
                  case hq75 => exact fun _ _ _ h => h
                  case hw75 => rfl
                  case hy75 =>
                    intro W hW
                    go_simp
                    first | done | with_reducible rfl
                  case hk75 =>
                  try simp only [Act.put, List.setIfInBounds_toArray, List.set_cons_zero, List.set_cons_succ]
                  refine anyK_take 7 (oi := ?oo76) ?ho76 (by kernel_rfl) (by kernel_rfl) (by kernel_rfl) (by kernel_rfl) ?hq76 ?hw76 hT0 (fun _ => trivial) (v := ?vv76) ?hy76 ?hk76
                  case ho76 => (simp only [List.getElem?_toArray, List.getElem?_cons_succ, List.getElem?_cons_zero]; rfl)
                  case hq76 => exact fun _ _ _ h => h
                  case hw76 => rfl
                  case hy76 =>
                    intro W hW
                    go_simp
                    first | done | with_reducible rfl
                  case hk76 =>
                  try simp only [Act.put, List.setIfInBounds_toArray, List.set_cons_zero, List.set_cons_succ]
                  refine anyK_take 8 (oi := ?oo77) ?ho77 (by kernel_rfl) (by kernel_rfl) (by kernel_rfl) (by kernel_rfl) ?hq77 ?hw77 hT0 (fun _ => trivial) (v := ?vv77) ?hy77 ?hk77
                  case ho77 => (simp only [List.getElem?_toArray, List.getElem?_cons_succ, List.getElem?_cons_zero]; rfl)
                  case hq77 => exact fun _ _ _ h => h
                  case hw77 => rfl
                  case hy77 =>
                    intro W hW
                    go_simp
                    first | done | with_reducible rfl
                  case hk77 =>
                  try simp only [Act.put, List.setIfInBounds_toArray, List.set_cons_zero, List.set_cons_succ]
                  refine anyK_take 9 (oi := ?oo78) ?ho78 (by kernel_rfl) (by kernel_rfl) (by kernel_rfl) (by kernel_rfl) ?hq78 ?hw78 hT0 (fun _ => trivial) (v := ?vv78) ?hy78 ?hk78
                  case ho78 => (simp only [List.getElem?_toArray, List.getElem?_cons_succ, List.getElem?_cons_zero]; rfl)
                  case hq78 => exact fun _ _ _ h => h
                  case hw78 => rfl
                  case hy78 =>
                    intro W hW
                    go_simp
                    first | done | with_reducible rfl
                  case hk78 =>
                  try simp only [Act.put, List.setIfInBounds_toArray, List.set_cons_zero, List.set_cons_succ]
                  refine anyK_take 10 (oi := ?oo79) ?ho79 (by kernel_rfl) (by kernel_rfl) (by kernel_rfl) (by kernel_rfl) ?hq79 ?hw79 hT0 (fun _ => trivial) (v := ?vv79) ?hy79 ?hk79
                  case ho79 => (simp only [List.getElem?_toArray, List.getElem?_cons_succ, List.getElem?_cons_zero]; rfl)
                  case hq79 => exact fun _ _ _ h => h
                  case hw79 => rfl
                  case hy79 =>
                    intro W hW
                    obtain ⟨z0, z1, z2⟩ := hW
                    go_simp
                    first | done | with_reducible rfl
                  case hk79 =>
                  try simp only [Act.put, List.setIfInBounds_toArray, List.set_cons_zero, List.set_cons_succ]
                  refine anyK_take 11 (oi := ?oo80) ?ho80 (by kernel_rfl) (by kernel_rfl) (by kernel_rfl) (by kernel_rfl) ?hq80 ?hw80 hT0 (fun _ => trivial) (v := ?vv80) ?hy80 ?hk80
                  case ho80 => (simp only [List.getElem?_toArray, List.getElem?_cons_succ, List.getElem?_cons_zero]; rfl)
                  case hq80 => exact fun _ _ _ h => h
                  case hw80 => rfl
                  case hy80 =>
                    intro W hW
                    go_simp
                    first | done | with_reducible rfl
                  case hk80 =>
                  try simp only [Act.put, List.setIfInBounds_toArray, List.set_cons_zero, List.set_cons_succ]
                  refine anyK_take 12 (oi := ?oo81) ?ho81 (by kernel_rfl) (by kernel_rfl) (by kernel_rfl) (by kernel_rfl) ?hq81 ?hw81 hT0 (fun _ => trivial) (v := ?vv81) ?hy81 ?hk81
                  case ho81 => (simp only [List.getElem?_toArray, List.getElem?_cons_succ, List.getElem?_cons_zero]; rfl)
                  case hq81 => exact fun _ _ _ h => h
                  case hw81 => rfl
                  case hy81 =>
                    intro W hW
                    go_simp
                    first | done | with_reducible rfl
                  case hk81 =>
                  try simp only [Act.put, List.setIfInBounds_toArray, List.set_cons_zero, List.set_cons_succ]
                  refine anyK_take 13 (oi := ?oo82) ?ho82 (by kernel_rfl) (by kernel_rfl) (by kernel_rfl) (by kernel_rfl) ?hq82 ?hw82 hT0 (fun _ => trivial) (v := ?vv82) ?hy82 ?hk82
                  case ho82 => (simp only [List.getElem?_toArray, List.getElem?_cons_succ, List.getElem?_cons_zero]; rfl)
                  case hq82 => exact fun _ _ _ h => h
                  case hw82 => rfl
                  case hy82 =>
                    intro W hW
                    go_simp
                    first | done | with_reducible rfl
                  case hk82 =>
                  try simp only [Act.put, List.setIfInBounds_toArray, List.set_cons_zero, List.set_cons_succ]
                  refine anyK_take 14 (oi := ?oo83) ?ho83 (by kernel_rfl) (by kernel_rfl) (by kernel_rfl) (by kernel_rfl) ?hq83 ?hw83 hT0 (fun _ => trivial) (v := ?vv83) ?hy83 ?hk83
                  case ho83 => (simp only [List.getElem?_toArray, List.getElem?_cons_succ, List.getElem?_cons_zero]; rfl)
                  case hq83 => exact fun _ _ _ h => h
                  case hw83 => rfl
                  case hy83 =>
                    intro W hW
                    go_simp
                    first | done | with_reducible rfl
                  case hk83 =>
                  try simp only [Act.put, List.setIfInBounds_toArray, List.set_cons_zero, List.set_cons_succ]
                  refine anyK_take 15 (oi := ?oo84) ?ho84 (by kernel_rfl) (by kernel_rfl) (by kernel_rfl) (by kernel_rfl) ?hq84 ?hw84 hT0 (fun _ => trivial) (v := ?vv84) ?hy84 ?hk84
                  case ho84 => (simp only [List.getElem?_toArray, List.getElem?_cons_succ, List.getElem?_cons_zero]; rfl)
                  case hq84 => exact fun _ _ _ h => h
                  case hw84 => rfl
                  case hy84 =>
                    intro W hW
                    go_simp
                    first | done | with_reducible rfl
                  case hk84 =>
                  try simp only [Act.put, List.setIfInBounds_toArray, List.set_cons_zero, List.set_cons_succ]
                  refine anyK_on1 16 (by kernel_rfl) ?_
                  refine anyK_one 16 (o := ?oo85) ?ho85 ?hk85
                  case ho85 => (simp only [List.getElem?_toArray, List.getElem?_cons_succ, List.getElem?_cons_zero]; rfl)
                  case hk85 =>
                  intro K hK
                  have zc := HZC.out
                  have zf := HZF.out
                  go_simp
                  clear zc zf
                  have HM9 := Lib.hid (HMD.out.put (sg := sg) (j := p) rfl (by have := HPN.out; omega) HGN.out (.int .i64 (2 * KV + 1)))
                  replace yy := And.intro (cell_far (p := ⟨sg, p, none⟩) yy.1 (fun e => HSG.out e.symm) (.int .i64 (2 * KV + 1))) (cell_far (p := ⟨sg, p, none⟩) yy.2 (fun e => HSG.out e.symm) (.int .i64 (2 * KV + 1)))
                  have hT1 := keepK.out _ yy
                  refine hK.out _ _ hT1 (fun _ => trivial) ?_
                  clear hK K
                  try simp only [Act.put, List.setIfInBounds_toArray, List.set_cons_zero, List.set_cons_succ]
                  refine anyK_done (by kernel_rfl) ?_ _
                  clear keepK hT0 hT1
                  have HRS := Lib.hid (show (ss'.map (Value.int .i64)).set p (.int .i64 (2 * KV + 1)) = (putAt ss (y * wd) ((s.take (j + 1)).map (cellV ps))).map (Value.int .i64) from by
                    rw [HTK.out, List.map_append, List.map_cons, List.map_nil, putAt_snoc, HKB.out.1, HSS.out, List.length_map, List.length_take, Nat.min_eq_left (by have h1 := HJW.out; have h2 := HLEN.out; omega), ← HPE.out, List.map_set])
                  have HM9b := Lib.hid (HRS.out ▸ HM9.out)
                  have HM10 := Lib.hid (show RMem w g _ A0 ls B1 d1 3 1 _ n _ (w5.setCell ⟨sg, p, none⟩ (.int .i64 (2 * KV + 1))).drew from HM9b.out)
                  clear HM9 HM9b HRS
                  generalize (w5.setCell ⟨sg, p, none⟩ (.int .i64 (2 * KV + 1))).drew = w9 at *
                  clear yy
                  go_wp2_with fail
                  refine ⟨⟨j + 1, _, _, by go_num, HJW.out, HM10.out, rfl, ?_⟩, ?_⟩
                  · rw [HTK.out, List.any_append, ← Bool.or_assoc, ← HBB2.out]
                    simp [HKB.out.2]
                  · have := HJW.out
                    simp [RowKit.intOf]
                    omega
          · obtain rfl : wd = j := by omega
            have HFE := Lib.hid (show s.take wd = s from List.take_of_length_le (by rw [HLEN.out]; exact Nat.le_refl _))
            clear hj hjw
            go_wp2_with fail
            refine ⟨⟨y, _, ls, ss', b', B1, d1, rfl, rfl, by have := HYH.out; omega, HM2.out, HSL2.out, ?_⟩, ?_⟩
            · rw [HSS.out, HBB2.out, HFE.out]
              exact HLX.out
            · simp [RowKit.intOf]
      · have HLX := Lib.hid (show RES = stS r0 t0 ls ss true by
          rw [← HEQ.out, HLE.out, if_neg (by rw [HWD.out]; omega)])
        have e1 : ((((strU s).size : Nat) : Int) != (wd : Int)) = true := by rw [HSZ.out]; simp; omega
        have e2 : ((s.length : Int) != (wd : Int)) = true := by simp; omega
        have hf := HM1.out.blk.frozen
        have hcc := HM1.out.blk.cell
        have HMX := Lib.hid (HM1.out.mark (W' := w2.setCell ⟨g, 13, none⟩ (.bool true)) (grown_set (grown_of_ext (Below.refl _ _) (some g)) 13 (.bool true)) HGN.out (blk_put (i := 13) (u := .bool true) HM1.out.blk rfl))
        clear hlen hsz HLE HEQ HM1
        go_wp2_with fail
        (try simp only [Exit.inBlock, Exit.then]); refine bodyPost_ret (results_none rfl _ _ _) rfl ?_
        rw [HLX.out]
        exact ⟨B1, d1, _, rfl, HMX.out.lin, HMX.out.low, HMX.out.blk, by show OwnR _ _ _ _ _ ss.length _; rw [HSL.out]; exact HMX.out.own, HMX.out.l8, HMX.out.fr⟩
end Go.Proofs.YtdoibgmmijhlfaaDoor
