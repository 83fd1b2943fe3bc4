/- Walk: deal.Seal. -/
import Derived.Test.YtdoibgmmijhlfaaConcatN
import Derived.Test.YtdoibgmmijhlfaaBlks
import Derived.Test.YtdoibgmmijhlfaaDealA
namespace Go.Proofs.Ytdoibgmmijhlfaa
open Go.ChangeShapes Go.WideShapes Go.ChangeAt Go.RowKit Go.Shelf
set_option linter.unusedVariables false
set_option linter.unusedSimpArgs false
def sealK (z n : Int) (k : Nat) : Int := IntKind.u64.wrap (bits .xor .u64 z (bits .and .u64 (IntKind.u64.wrap n / 2 ^ (8 * k)) 255) * 1099511628211)
def sealR (z n : Int) : Nat → Int
  | 0 => z
  | k + 1 => sealK (sealR z n k) n k
def sealL (l : List Int) : Int := l.foldl (fun z n => sealR z n 8) 14695981039346656037
def sealM (d : List Int) (s : Int) : Int := sealL ([s, (d.length : Int)] ++ d)
theorem sealL_take {l : List Int} {k : Nat} (h : k < l.length) : sealL (l.take (k + 1)) = sealR (sealL (l.take k)) (l.getD k 0) 8 := by
  unfold sealL
  rw [List.take_succ_eq_append_getElem h, List.foldl_append]
  simp [List.getD_eq_getElem?_getD, h]
set_option maxHeartbeats 2000000 in
set_option maxRecDepth 100000 in
theorem Seal_any (A : Option Addr) (n c : Nat) (zs : List Int) (s : Int) (w : World) (hn : zs.length = n) (hm : n ≤ 1000) (hz : IntsAt w A zs) :
    Calls Try.prog 25 #[.slice A n c, .int .i64 s] w fun e w' => e = .returned (.int .u64 (sealM zs s)) ∧ Ext w w' := by
  subst hn
  obtain ⟨xx, k1, k2⟩ := blks2 w #[.int .i64 s, .int .i64 (zs.length : Int)] 3 #[.slice (some ⟨w.heap.size, 0, none⟩) 2 2, .slice A zs.length c] 23
  have HC := hide (Concat_any (.slice (some ⟨w.heap.size + 1, 0, none⟩) 2 2) [[s, (zs.length : Int)], zs] _ ⟨_, _, rfl, fun k hk => by
    rcases (by simp at hk; omega : k = 0 ∨ k = 1) with rfl | rfl
    · exact ⟨_, 0, _, _, rfl, k2.cell 0, fun i hi => by
        have hi2 : i < 2 := by simpa using hi
        refine ⟨_, 0, rfl, ?_⟩
        rw [Nat.zero_add, k1.cell]
        rcases (by omega : i = 0 ∨ i = 1) with rfl | rfl <;> rfl⟩
    · exact ⟨_, 0, _, _, rfl, k2.cell 1, (hz.ext xx)⟩⟩ (by simp) (by simp; omega))
  have XX := hide xx
  rw [show ([[s, (zs.length : Int)], zs] : List (List Int)).flatten = [s, (zs.length : Int)] ++ zs by simp] at HC
  clear k1 k2 xx hz
  go_enter Try.func25, Try.ntmps25
  go_wp2_with fail
  refine HC.out.mono ?_
  rintro e w3 ⟨v3, rfl, o3, x3⟩
  obtain ⟨A3, c3, rfl, o3⟩ := o3
  have X3 := hide (ext_trans XX.out x3)
  have HZ := hide (cells_ints (own_cells o3).1)
  clear x3 o3 XX HC
  have hll : ([s, (zs.length : Int)] ++ zs).length ≤ 1002 := by simp; omega
  have HS : Hid (sealM zs s = sealL ([s, (zs.length : Int)] ++ zs)) := hide rfl
  generalize [s, (zs.length : Int)] ++ zs = L at *
  go_wp2
  go_loopw [5, 7, 8, 17, 21] (fun z _ _ i _ wr => ∃ k : Nat, k ≤ L.length ∧ i = .int .i64 k ∧ z = .int .u64 (sealL (L.take k)) ∧ wr = w3) (fun _ _ _ i _ _ => L.length - (intOf i).toNat)
  case atStart => exact ⟨0, by omega, rfl, rfl, rfl⟩
  case round =>
    obtain ⟨k, hk, rfl, rfl, rfl⟩ := hrel
    by_cases hlt : k < L.length
    · obtain ⟨b, o, rfl, hc⟩ := HZ.out k hlt
      have HM := hide (show k + 1 ≤ L.length from hlt)
      have HT := hide (sealL_take hlt)
      have i1 : (k : Int) < (L.length : Int) := by omega
      have i0 : (0 : Int) ≤ (k : Int) := by omega
      clear hlt hk
      generalize L.getD k 0 = y at *
      generalize sealL (L.take k) = z0 at *
      go_wp2
      go_loopw [5, 8, 21] (fun z _ j wr2 => ∃ q : Nat, q ≤ 8 ∧ j = .int .i64 q ∧ z = .int .u64 (sealR z0 y q) ∧ wr2 = wr) (fun _ _ j _ => 8 - (intOf j).toNat)
      case atStart => exact ⟨0, by omega, rfl, rfl, rfl⟩
      case round =>
        obtain ⟨q, hq, rfl, rfl, rfl⟩ := hrel
        by_cases hlq : q < 8
        · have j1 : (q : Int) < 8 := by omega
          have HQ := hide hlq
          clear hq hlq
          generalize hz1 : sealR z0 y q = z1 at *
          have HZ1 := hide hz1
          clear hz1
          go_wp2
          go_roundw
          case rel => exact ⟨q + 1, HQ.out, by go_num, by rw [show sealR z0 y (q + 1) = sealK (sealR z0 y q) y q from rfl, HZ1.out, sealK], trivial⟩
          case measure => have := HQ.out; simp [intOf]; omega
        · obtain rfl : q = 8 := by omega
          clear hq hlq
          generalize sealR z0 y 8 = z9 at *
          go_wp2
          go_roundw
          case rel => exact ⟨k + 1, HM.out, by go_num, by rw [HT.out], trivial⟩
          case measure => have := HM.out; simp [intOf]; omega
    · obtain rfl : k = L.length := by omega
      rw [List.take_length, ← HS.out]
      have X9 := hide X3.out
      clear hk hlt
      go_wp2
      go_ret
      exact ⟨rfl, X9.out⟩
end Go.Proofs.Ytdoibgmmijhlfaa
