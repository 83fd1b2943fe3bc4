/- Walk: math/bits.TrailingZeros64. -/
import Derived.Shelf.Spec.TrailingZeros
import Derived.Test.YtpoepaiaehhloaaDoorBitsC
import Derived.Test.YtpoepaiaehhloaaDoorSqP
namespace Go.Proofs.YtpoepaiaehhloaaDoor
open Go.RowKit
set_option linter.unusedVariables false
/-- The library's table lies in its variable. -/
def Tab (w : World) : Prop := 0 < w.heap.size ∧ ∀ j, j < 64 → w.cell? ⟨0, j, none⟩ = some (.int .u8 (Lib.deBruijn64tab.getD j 0))
theorem tab_block {w W : World} (h : Tab w) (hs : w.heap.size ≤ W.heap.size) (hb : W.heap[0]? = w.heap[0]?) : Tab W := by
  refine ⟨Nat.lt_of_lt_of_le h.1 hs, fun j hj => ?_⟩
  rw [← h.2 j hj]
  simp [World.cell?, hb]
theorem tab_below {w W : World} {n : Nat} (h : Tab w) (hn : 0 < n) (hb : Below n w W) : Tab W := tab_block h hb.size (hb.block 0 hn)
set_option maxHeartbeats 2000000 in
theorem tz_core (x k idx : Nat) (w : World) (hx0 : ((x : Int) == 0) = false)
    (key : IntKind.u64.wrap (bits BinOp.and IntKind.u64 (x : Int) (IntKind.u64.wrap (-(x : Int))) * 285870213051353865) / 288230376151711744 = (idx : Int))
    (hi : idx < 64) (hk : k < 64) (hcell : w.cell? ⟨0, idx, none⟩ = some (.int .u8 k)) :
    Calls Tryd.prog 20 #[.int .u64 x] w fun e w' => e = .returned (.int .i64 k) ∧ w = w' := by
  go_enter Tryd.func20, Tryd.ntmps20
  go_wp2_with (simp only [key])
  go_ret
  exact ⟨rfl, rfl⟩
theorem tz_any (x : Nat) (h0 : x ≠ 0) (hx : x < 18446744073709551616) (w : World) (hT : Tab w) : Calls Tryd.prog 20 #[.int .u64 x] w fun e w' => e = .returned (.int .i64 (Lib.ctz 64 x)) ∧ w = w' := by
  obtain ⟨hlow, hk⟩ := Lib.lowest_bit 64 x h0 hx
  obtain ⟨hi, htab⟩ := Lib.deBruijn64_at _ hk
  have hcell := hT.2 _ hi
  rw [htab] at hcell
  exact tz_core x _ _ w (by simp; omega) (tz64_key x _ hx h0 hlow) hi hk hcell
end Go.Proofs.YtpoepaiaehhloaaDoor
