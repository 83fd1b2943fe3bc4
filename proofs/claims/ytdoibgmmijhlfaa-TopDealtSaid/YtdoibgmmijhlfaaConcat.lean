/- Walks: slices.Grow of nil, slices.Concat of two slices of integers. -/
import Derived.Test.YtdoibgmmijhlfaaRows
import Derived.Test.YtdoibgmmijhlfaaMem2
import Derived.Lib.AppendZeros
import Derived.ProofKit
import Derived.OpenShut
import Derived.Outline
namespace Go.Proofs.Ytdoibgmmijhlfaa
open Go.ChangeShapes Go.WideShapes Go.ChangeAt Go.RowKit
set_option linter.unusedVariables false
theorem intInfoC : (Try.prog.info? 3).map (fun i => (i.zero, i.size, i.bytes)) = some (some (.int .i64 0), 1, 8) := by kernel_rfl
/-- The post of a call that returns a slice of its own without elements. -/
def OwnNone (w : World) (e : Ending) (w' : World) : Prop := ∃ A c, e = .returned (.slice A 0 c) ∧ w'.ownsRow w.heap.size 3 1 (.slice A 0 c) 0 [] ∧ Ext w w'
set_option maxRecDepth 100000 in
theorem Grow_nil (n : Nat) (w : World) (hn : n ≤ 100000) :
    Calls Try.prog 56 #[.slice none 0 0, .int .i64 (n : Int)] w (OwnNone w) := by
  obtain ⟨i0, hi, hz0, hz1, hz2⟩ := info_parts intInfoC
  by_cases h0 : n = 0
  · subst h0
    go_enter Try.func56, Try.ntmps56
    go_wp2
    go_ret
    exact ⟨none, 0, rfl, World.ownsRow_nil _ _ _ _, Below.refl _ _⟩
  · have hap := fun W => Lib.run_append_nil_zeros (P := Try.prog) W 23 3 23 3 i0 (.int .i64 0) .i64 .i64 Try.underlying23 Try.underlying3 hi hz0 n (by omega) (by omega) (by omega) (by rw [hz2]; omega)
    have hgc := grownCap_ge w n 0 3
    have hgm := grownCap_le_maxLen w n 0 3 (by simp only [maxLen]; omega)
    have hpos : 0 < n := by omega
    have HAP := hide hap
    have HGC := hide hgc
    have HGM := hide hgm
    clear hap h0 hgc hgm
    go_enter Try.func56, Try.ntmps56
    go_wp2_with (at_builtin; refine Lib.wpList_append_run _ rfl (.tmp 20) (.tmp 21) 23 3 rfl (.slice none 0 0) (.int .i64 (n : Int)) rfl rfl _ _ (HAP.out _) ?_)
    go_ret
    refine ⟨_, _, rfl, ?_, ?_⟩
    · refine World.ownsRow_made w.drew _ _ (Nat.le_refl _) HGM.out ?_
      have := HGC.out
      simp [Builtin.zeroCells]
      omega
    · exact Below.alloc (Below.drew (Below.refl _ _)) (Nat.le_refl _) _
theorem ints_none {w : World} {A : Option Addr} {zs : List Int} (h : IntsAt w A zs) (e : A = none) : zs.length = 0 := by
  subst e
  by_cases h0 : zs.length = 0
  · exact h0
  · obtain ⟨_, _, e, _⟩ := h 0 (by omega)
    cases e
/-- The size of the first k of two. -/
def sz2 (n m : Nat) (k : Nat) : Nat := if k = 0 then 0 else if k = 1 then n else n + m
def el2 (xs ys : List Int) (k : Nat) : List Int := if k = 0 then [] else if k = 1 then xs else xs ++ ys
theorem el2_length (xs ys : List Int) (k : Nat) : (el2 xs ys k).length = sz2 xs.length ys.length k := by
  unfold el2 sz2
  split
  · rfl
  · split
    · rfl
    · simp
set_option maxHeartbeats 1000000 in
set_option maxRecDepth 100000 in
theorem Concat_two (L : Addr) (A B : Option Addr) (n m c d e : Nat) (xs ys : List Int) (w : World) (hx : xs.length = n) (hy : ys.length = m) (hn : n ≤ 1000) (hm : m ≤ 1000) (hL : L.spot = none)
    (c0 : w.cell? L = some (.slice A n c)) (c1 : w.cell? ⟨L.block, L.off + 1, none⟩ = some (.slice B m d)) (hA : IntsAt w A xs) (hB : IntsAt w B ys) :
    Calls Try.prog 30 #[.slice (some L) 2 e] w fun e w' => ∃ A' c', e = .returned (.slice A' (n + m) c') ∧ IntsAt w' A' (xs ++ ys) ∧ Ext w w' := by
  obtain ⟨i0, hi, hz0, hz1, hz2⟩ := info_parts intInfoC
  obtain ⟨b, o, s⟩ := L
  obtain rfl : s = none := hL
  have HX := hide hx
  have HY := hide hy
  have hA0 := hide (ints_none hA)
  have hB0 := hide (ints_none hB)
  clear hx hy
  have hc0 : w.cell? ⟨b, o, none⟩ = some (.slice A n c) := c0
  have hc1 : w.cell? ⟨b, o + 1, none⟩ = some (.slice B m d) := c1
  clear c0 c1
  go_enter Try.func30, Try.ntmps30
  go_wp2
  go_loop [3, 5, 11] (fun s _ i => ∃ k : Nat, k ≤ 2 ∧ i = .int .i64 k ∧ s = .int .i64 (sz2 n m k)) (fun _ _ i => 2 - (intOf i).toNat)
  case atStart => exact ⟨0, by omega, rfl, rfl⟩
  case round =>
    obtain ⟨k, hk, rfl, rfl⟩ := hrel
    rcases (by omega : k = 0 ∨ k = 1 ∨ k = 2) with rfl | rfl | rfl
    · rw [show sz2 n m 0 = 0 from rfl]
      go_wp2
      go_round
      case rel => exact ⟨1, by omega, by go_num, by simp [sz2]⟩
      case measure => simp [intOf]
    · rw [show sz2 n m 1 = n from rfl]
      go_wp2
      go_round
      case rel => exact ⟨2, by omega, by go_num, by simp [sz2]⟩
      case measure => simp [intOf]
    · rw [show sz2 n m 2 = n + m from rfl]
      have HG := hide (Grow_nil (n + m) w (by omega))
      go_wp2_with fail
      refine HG.out.mono ?_
      rintro e w2 ⟨A2, c2, rfl, hown, x2⟩
      have HC0 := hide hc0
      have hc0' := Ext.cell x2 hc0
      have hc1' := Ext.cell x2 hc1
      clear hc0 hc1 HG
      go_wp2_with fail
      have hbw0 : b < w.heap.size := lt_of_cell HC0.out
      have HBW := hide hbw0
      clear hbw0
      go_loopw [6, 8, 27] (fun v _ i wr => ∃ (k : Nat) (Av : Option Addr) (cv : Nat), k ≤ 2 ∧ i = .int .i64 k ∧ v = .slice Av (sz2 n m k) cv ∧ wr.ownsRow w.heap.size 3 1 (.slice Av (sz2 n m k) cv) (sz2 n m k) ((el2 xs ys k).map (Value.int .i64)) ∧ Ext w wr ∧ wr.cell? ⟨b, o, none⟩ = some (.slice A n c) ∧ wr.cell? ⟨b, o + 1, none⟩ = some (.slice B m d)) (fun _ _ i _ => 2 - (intOf i).toNat)
      case atStart => exact ⟨0, A2, c2, by omega, rfl, rfl, hown, x2, hc0', hc1'⟩
      case round =>
        obtain ⟨k, Av, cv, hk, rfl, rfl, hown, hext, q0, q1⟩ := hrel
        clear hc0' hc1' x2
        have hsz := hext.size
        rcases (by omega : k = 0 ∨ k = 1 ∨ k = 2) with rfl | rfl | rfl
        · have hown' : wr.ownsRow w.heap.size 3 1 (.slice Av 0 cv) 0 [] := hown
          have HO := hide hown'
          clear hown hown'
          rw [show sz2 n m 0 = 0 from rfl]
          go_wp2_with (at_builtin; go_must (refine wpList_append_cells _ rfl (.tmp 31) (.tmp 32) 23 rfl w.heap.size 3 i0 (.int .i64 0) 1 8 Try.underlying23 hi hz0 hz1 hz2 rfl (by decide) (.slice Av 0 cv) 0 [] rfl HO.out A n c (xs.map (Value.int .i64)) rfl ?len (ints_cells (hA.ext hext)) (one_ints xs) (by simp only [maxLen]; omega) (by omega) hsz ?nil ?_))
          case len => simp [HX.out]
          case nil => intro h; rw [← HX.out]; exact hA0.out h
          intro v4 w4 hown4 hgrow
          have hx4 : Ext w w4 := ext_grown hext hgrow (own_row HO.out)
          have hb : b < wr.heap.size := lt_of_cell q0
          have hbw : some b ≠ (Value.slice Av 0 cv).ownBlock := fun h => by have := (HO.out.lt b h.symm).1; have := HBW.out; omega
          have q0' := (World.cell?_of_block (a := ⟨b, o, none⟩) (hgrow.block b hb hbw)).trans q0
          have q1' := (World.cell?_of_block (a := ⟨b, o + 1, none⟩) (hgrow.block b hb hbw)).trans q1
          obtain ⟨A4, c4, rfl, _, _⟩ := own_shape hown4
          have HO4 := hide hown4
          have HQ0 := hide q0'
          have HQ1 := hide q1'
          clear hown4 q0' q1' hgrow hbw HO
          go_wp2
          go_roundw
          case rel =>
            refine ⟨1, A4, c4, by omega, rfl, ?_, ?_, hx4, HQ0.out, HQ1.out⟩
            · simp [sz2]
            · simpa [sz2, el2] using HO4.out
          case measure => simp [intOf]
        · have hown' : wr.ownsRow w.heap.size 3 1 (.slice Av n cv) n (xs.map (Value.int .i64)) := hown
          have HO := hide hown'
          clear hown hown'
          rw [show sz2 n m 1 = n from rfl]
          go_wp2_with (at_builtin; go_must (refine wpList_append_cells _ rfl (.tmp 31) (.tmp 32) 23 rfl w.heap.size 3 i0 (.int .i64 0) 1 8 Try.underlying23 hi hz0 hz1 hz2 rfl (by decide) (.slice Av n cv) n (xs.map (Value.int .i64)) rfl HO.out B m d (ys.map (Value.int .i64)) rfl ?len (ints_cells (hB.ext hext)) (one_ints ys) (by simp only [maxLen]; omega) (by omega) hsz ?nil ?_))
          case len => simp [HY.out]
          case nil => intro h; rw [← HY.out]; exact hB0.out h
          intro v4 w4 hown4 hgrow
          have hx4 : Ext w w4 := ext_grown hext hgrow (own_row HO.out)
          have hb : b < wr.heap.size := lt_of_cell q0
          have hbw : some b ≠ (Value.slice Av n cv).ownBlock := fun h => by have := (HO.out.lt b h.symm).1; have := HBW.out; omega
          have q0' := (World.cell?_of_block (a := ⟨b, o, none⟩) (hgrow.block b hb hbw)).trans q0
          have q1' := (World.cell?_of_block (a := ⟨b, o + 1, none⟩) (hgrow.block b hb hbw)).trans q1
          obtain ⟨A4, c4, rfl, _, _⟩ := own_shape hown4
          have HO4 := hide hown4
          have HQ0 := hide q0'
          have HQ1 := hide q1'
          clear hown4 q0' q1' hgrow hbw HO
          go_wp2
          go_roundw
          case rel =>
            refine ⟨2, A4, c4, by omega, rfl, ?_, ?_, hx4, HQ0.out, HQ1.out⟩
            · simp [sz2]
            · simpa [sz2, el2] using HO4.out
          case measure => simp [intOf]
        · have HO4 : Hid (wr.ownsRow w.heap.size 3 1 (.slice Av (n + m) cv) (n + m) ((xs ++ ys).map (Value.int .i64))) := hide hown
          clear hown
          rw [show sz2 n m 2 = n + m from rfl]
          go_wp2
          go_ret
          exact ⟨Av, cv, rfl, cells_ints (own_cells HO4.out).1, hext⟩
end Go.Proofs.Ytdoibgmmijhlfaa
