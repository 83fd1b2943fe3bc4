/- Walk: rules.Turned. -/
import Derived.Test.YtcfiannlpkofpaaRows
import Derived.Test.YtcfiannlpkofpaaGBase
import Derived.Test.YtcfiannlpkofpaaGSymm
import Derived.ProofKit
import Derived.OpenShut
import Derived.Outline
import Derived.Deep.QuietTactic
import Derived.BigQuiet
import Derived.StillTailTactics
import Derived.RegionTactic
namespace Go.Proofs.Ytcfiannlpkofpaa
open Go.ChangeShapes Go.WideShapes Go.ChangeAt Go.RowKit
set_option linter.unusedVariables false
/-- The piece of the other player. -/
def flipC (c : Int) : Int := if 0 < c then (if c % 2 = 1 then c + 1 else c - 1) else c
theorem flipC_xor (c : Int) (h0 : 0 < c) (h1 : c ≤ 12) : bits .xor .i64 (c - 1) 1 + 1 = flipC c := by
  rcases (by omega : c = 1 ∨ c = 2 ∨ c = 3 ∨ c = 4 ∨ c = 5 ∨ c = 6 ∨ c = 7 ∨ c = 8 ∨ c = 9 ∨ c = 10 ∨ c = 11 ∨ c = 12) with rfl | rfl | rfl | rfl | rfl | rfl | rfl | rfl | rfl | rfl | rfl | rfl
  all_goals decide +kernel
theorem flipC_neg (c : Int) (h : ¬ 0 < c) : flipC c = c := by unfold flipC; rw [if_neg h]
theorem flipC_bd (c : Int) (m : Int) (h0 : 0 ≤ c) (h1 : c ≤ 2 * m) : 0 ≤ flipC c ∧ flipC c ≤ 2 * m := by
  unfold flipC; split
  · split <;> omega
  · omega
theorem flipC_flipC (c : Int) (h0 : 0 ≤ c) : flipC (flipC c) = c := by
  unfold flipC
  by_cases h : 0 < c
  · rw [if_pos h]
    by_cases h2 : c % 2 = 1
    · rw [if_pos h2, if_pos (by omega), if_neg (by omega)]; omega
    · rw [if_neg h2, if_pos (by omega), if_pos (by omega)]; omega
  · rw [if_neg h, if_neg h]
/-- Cells in which both players are exchanged. -/
def turnCells (a b : Int) (cells : List Int) : List Int := movedL a b 2 (cells.map flipC)
theorem turnCells_length (a b : Int) (cells : List Int) : (turnCells a b cells).length = cells.length := by unfold turnCells; rw [movedL_length, List.length_map]
theorem toL_two (a b q : Int) : toL a b 2 q = (b - 1 - q / a) * a + q % a := by
  unfold toL toX toY
  have e0 : b0 2 = false := by decide
  have e1 : b1 2 = true := by decide
  have e2 : b2 2 = false := by decide
  simp [e0, e1, e2]
theorem okSym_two {a b : Int} : okSym a b 2 := ⟨by omega, by have := cnt_bd a b; omega⟩
theorem intInfoT : (Try.prog.info? 3).map (fun i => (i.zero, i.size, i.bytes)) = some (some (.int .i64 0), 1, 8) := by kernel_rfl
set_option maxHeartbeats 1000000 in
set_option maxRecDepth 100000 in
theorem Turned_any (v0 v3 v4 v5 v6 v7 v8 v9 v10 : Value) (a b : Int) (A : Option Addr) (n c : Nat) (zs : List Int) (w : World) (h : okSide a b) (hn : zs.length = n) (hab : (n : Int) = a * b) (hz : IntsAt w A zs) (hb : ∀ c ∈ zs, 0 ≤ c ∧ c ≤ 12) :
    Calls Try.prog 56 #[.agg #[v0, .int .i64 a, .int .i64 b, v3, v4, v5, v6, v7, v8, v9, v10], .slice A n c] w fun e w' =>
      ∃ g, e = .returned (.slice (some ⟨g, 0, none⟩) n n) ∧ Row w' g 3 (turnCells a b zs) ∧ w.heap.size ≤ g ∧ Ext w w' := by
  have ham := area_bd a b h
  have hn64 : n ≤ 64 := by omega
  obtain ⟨i0, hi, hz0, hz1, hz2⟩ := info_parts intInfoT
  have hmk := make_ints (P := Try.prog) 23 3 i0 Try.underlying23 hi hz0 hz1 hz2 n (by omega)
  have HAB := hide hab
  have HN := hide hn
  have HB := hide hb
  obtain ⟨ha, ha', hb1, hb2⟩ := h
  have HOK : Hid (okSide a b) := hide ⟨ha, ha', hb1, hb2⟩
  clear hab hn hb
  go_enter Try.func56, Try.ntmps56
  go_wp2
  have x1 : Ext w (w.alloc (.cells #[v0, .int .i64 a, .int .i64 b, v3, v4, v5, v6, v7, v8, v9, v10] 26)) := ext_alloc (Below.refl _ _) _
  have k1 := Blk.new w 26 #[v0, .int .i64 a, .int .i64 b, v3, v4, v5, v6, v7, v8, v9, v10]
  have r1 := Row.new (w.alloc (.cells #[v0, .int .i64 a, .int .i64 b, v3, v4, v5, v6, v7, v8, v9, v10] 26)) 3 (List.replicate n 0)
  rw [List.map_replicate, List.toArray_replicate, show (w.alloc (.cells #[v0, .int .i64 a, .int .i64 b, v3, v4, v5, v6, v7, v8, v9, v10] 26)).heap.size = w.heap.size + 1 from by simp] at r1
  have X1 : Ext w ((w.alloc (.cells #[v0, .int .i64 a, .int .i64 b, v3, v4, v5, v6, v7, v8, v9, v10] 26)).alloc (.cells (Array.replicate n (Value.int .i64 0)) 3)) := ext_alloc x1 _
  have K1 := k1.alloc (.cells (Array.replicate n (Value.int .i64 0)) 3)
  have hB2 : w.heap.size ≤ w.heap.size + 1 := by omega
  have hB3 : ¬ w.heap.size = w.heap.size + 1 := by omega
  clear x1 k1 hmk
  generalize ((w.alloc (.cells #[v0, .int .i64 a, .int .i64 b, v3, v4, v5, v6, v7, v8, v9, v10] 26)).alloc (.cells (Array.replicate n (Value.int .i64 0)) 3)) = w1 at *
  generalize w.heap.size + 1 = B2 at *
  have HB2 := hide hB2
  have HB3 := hide hB3
  clear hB2 hB3
  generalize hB1 : w.heap.size = B1 at *
  have HB1 := hide hB1
  clear hB1
  go_loopw [6, 7, 13] (fun _ _ i wr => ∃ (k : Nat) (xs : List Int), k ≤ n ∧ i = .int .i64 k ∧ Row wr B2 3 xs ∧ Moved a b 2 (zs.map flipC) xs k ∧ Blk wr B1 26 #[v0, .int .i64 a, .int .i64 b, v3, v4, v5, v6, v7, v8, v9, v10] ∧ Ext w wr) (fun _ _ i _ => n - (intOf i).toNat)
  case atStart => exact ⟨0, _, Nat.zero_le _, rfl, r1, ⟨by simp [HN.out], fun i hi => by omega⟩, K1, X1⟩
  case round =>
    obtain ⟨k, xs, hk, rfl, hrow, hmv, hblk, hext⟩ := hrel
    have HX1 := hide X1
    clear r1 K1 X1
    by_cases hlt : k < n
    · have hk' : k < zs.length := by rw [HN.out]; exact hlt
      obtain ⟨bA, oA, rfl, hc⟩ := hz.ext hext k hk'
      have hmem : zs.getD k 0 ∈ zs := by
        have : zs.getD k 0 = zs[k] := by simp [hk']
        rw [this]; exact List.getElem_mem _
      obtain ⟨hc0, hc12⟩ := HB.out _ hmem
      have hsq : (k : Int) < a * b := by rw [← HAB.out]; omega
      have hbd := toL_bd (q := (k : Int)) HOK.out okSym_two (by omega) hsq
      obtain ⟨q0, q1, q2, q3⟩ := sq_bd a b k HOK.out (by omega) hsq
      obtain ⟨j, hj⟩ := Int.eq_ofNat_of_zero_le hbd.1
      have hjn : j < n := by rw [hj, ← HAB.out] at hbd; omega
      have hjx : j < xs.length := by rw [hmv.1, List.length_map, HN.out]; exact hjn
      have hmv' := hmv.step HOK.out okSym_two (by rw [List.length_map, HN.out]; exact HAB.out) (by rw [List.length_map]; exact hk') hj
      have hfl : (zs.map flipC).getD k 0 = flipC (zs.getD k 0) := by simp [hk']
      rw [hfl] at hmv'
      have HMV := hide hmv'
      have hcell := hrow.cell hjx
      have hfr := hrow.frozen j
      have g1 := hblk.cell 1
      have g2 := hblk.cell 2
      replace g1 : wr.cell? ⟨B1, 1, none⟩ = some (.int .i64 a) := g1
      replace g2 : wr.cell? ⟨B1, 2, none⟩ = some (.int .i64 b) := g2
      rw [toL_two] at hj
      have hm0 : 0 ≤ (b - 1 - (k : Int) / a) * a := Int.mul_nonneg (by omega) (by omega)
      have hm1 : (b - 1 - (k : Int) / a) * a ≤ 64 := by
        have : (b - 1 - (k : Int) / a) * a ≤ 8 * 8 := Int.mul_le_mul (by omega) (by omega) (by omega) (by omega)
        omega
      have hjt : ((b - 1 - (k : Int) / a) * a + (k : Int) % a).toNat = j := by rw [hj]; rfl
      have HJ := hide hjt
      have hb0 : 0 ≤ (b - 1 - (k : Int) / a) * a + (k : Int) % a := by omega
      have hb1' : (b - 1 - (k : Int) / a) * a + (k : Int) % a < n := by omega
      rw [← hjt] at hcell hfr
      clear hmv' hmv hbd hsq hj hfl hmem hjt
      have HFX : Hid (0 < zs.getD k 0 → bits .xor .i64 (zs.getD k 0 - 1) 1 + 1 = flipC (zs.getD k 0)) := hide (fun h => flipC_xor _ h hc12)
      have HFN : Hid (¬ 0 < zs.getD k 0 → flipC (zs.getD k 0) = zs.getD k 0) := hide (fun h => flipC_neg _ h)
      have hfb := flipC_bd (zs.getD k 0) 6 hc0 (by omega)
      have HFB := hide hfb
      clear hfb
      generalize zs.getD k 0 = z at *
      by_cases hz0 : 0 < z
      · have hxb : 0 ≤ bits .xor .i64 (z - 1) 1 + 1 ∧ bits .xor .i64 (z - 1) 1 + 1 ≤ 12 := by rw [HFX.out hz0]; exact HFB.out
        obtain ⟨hxb0, hxb1⟩ := hxb
        rw [← HFX.out hz0] at HMV
        go_wp2
        go_region
        go_wp2
        go_roundw
        case rel => exact ⟨k + 1, _, by omega, by go_num, by rw [HJ.out]; exact Row.set_ hrow j _, HMV.out, Blk.far hblk HB3.out _, Below.drew (Below.setCell (p := ⟨B2, _, none⟩) hext (by rw [HB1.out]; exact HB2.out) _)⟩
        case measure => simp [intOf]; omega
      · rw [HFN.out hz0] at HMV
        go_wp2
        go_region
        go_wp2
        go_roundw
        case rel => exact ⟨k + 1, _, by omega, by go_num, by rw [HJ.out]; exact Row.set_ hrow j _, HMV.out, Blk.far hblk HB3.out _, Below.drew (Below.setCell (p := ⟨B2, _, none⟩) hext (by rw [HB1.out]; exact HB2.out) _)⟩
        case measure => simp [intOf]; omega
    · obtain rfl : k = n := by omega
      have HM : Hid (xs = turnCells a b zs) := hide (by
        have hl : ((zs.map flipC).length : Int) = a * b := by rw [List.length_map, HN.out]; exact HAB.out
        have hmv' : Moved a b 2 (zs.map flipC) xs (zs.map flipC).length := by rw [List.length_map, HN.out]; exact hmv
        exact hmv'.eq HOK.out okSym_two hl)
      clear hmv
      go_wp2
      go_ret
      rw [HM.out] at hrow
      exact ⟨B2, rfl, hrow, by rw [HB1.out]; exact HB2.out, hext⟩
end Go.Proofs.Ytcfiannlpkofpaa
