/- Walk: math/bits.OnesCount64, bits.Count. -/
import Derived.Test.YtpoepaiaehhloaaDoorProg
import Derived.Test.YtpoepaiaehhloaaDoorPopP
import Derived.Lib.Hide
import Derived.WalkKit
import Derived.IntWalk
import Derived.Laws.BitsLemmas
import Derived.Laws.BitsAllLaws
namespace Go.Proofs.YtpoepaiaehhloaaDoor
open Go.RowKit
set_option linter.unusedVariables false
theorem mask127 (x : Int) (h0 : 0 ≤ x) (h1 : x < 9223372036854775808) : bits .and .i64 x 127 = x % 128 :=
  bits_mask .i64 63 (by decide) (fun n h h' => by rw [IntKind.wrap_i64]; omega) 7 (by decide) x h0 h1
theorem and_cast (a m : Nat) (A : Int) (hA : A = (a : Int)) (ha : a < 18446744073709551616) (hm : m < 18446744073709551616) : bits .and .u64 A (m : Int) = ((a &&& m : Nat) : Int) := by
  rw [hA]; exact u64_and_nat a m ha hm
set_option maxHeartbeats 2000000 in
theorem ones_any (x : Nat) (hx : x < 18446744073709551616) (w : World) : Calls Tryd.prog 18 #[.int .u64 (x : Int)] w fun e w' => e = .returned (.int .i64 (pop 64 x : Nat)) ∧ w = w' := by
  obtain ⟨y1, y2, y3, h1, h2, h3, b1, b2, b3, b4, b5, b6⟩ := ones_steps hx
  obtain ⟨y4, h4⟩ : ∃ y4, y3 + y3 / 256 = y4 := ⟨_, rfl⟩
  rw [h4] at b3 b4 b5 b6
  obtain ⟨y5, h5⟩ : ∃ y5, y4 + y4 / 65536 = y5 := ⟨_, rfl⟩
  rw [h5] at b4 b5 b6
  obtain ⟨y6, h6⟩ : ∃ y6, y5 + y5 / 4294967296 = y6 := ⟨_, rfl⟩
  rw [h6] at b5 b6
  have e1 : IntKind.u64.wrap (bits .and .u64 ((x : Int) / 2) 6148914691236517205 + bits .and .u64 (x : Int) 6148914691236517205) = (y1 : Int) := by
    rw [show (6148914691236517205 : Int) = ((6148914691236517205 : Nat) : Int) from rfl, and_cast (x / 2) _ _ (by omega) (by omega) (by omega), and_cast x _ _ rfl hx (by omega), IntKind.wrap_u64]
    omega
  have e2 : IntKind.u64.wrap (bits .and .u64 ((y1 : Int) / 4) 3689348814741910323 + bits .and .u64 (y1 : Int) 3689348814741910323) = (y2 : Int) := by
    rw [show (3689348814741910323 : Int) = ((3689348814741910323 : Nat) : Int) from rfl, and_cast (y1 / 4) _ _ (by omega) (by omega) (by omega), and_cast y1 _ _ rfl b1 (by omega), IntKind.wrap_u64]
    omega
  have e3 : bits .and .u64 (IntKind.u64.wrap ((y2 : Int) / 16 + (y2 : Int))) 1085102592571150095 = (y3 : Int) := by
    rw [show (1085102592571150095 : Int) = ((1085102592571150095 : Nat) : Int) from rfl, and_cast (y2 / 16 + y2) _ _ (by rw [IntKind.wrap_u64]; omega) (by omega) (by omega), h3]
  have e4 : IntKind.u64.wrap ((y3 : Int) + (y3 : Int) / 256) = (y4 : Int) := by rw [IntKind.wrap_u64]; omega
  have e5 : IntKind.u64.wrap ((y4 : Int) + (y4 : Int) / 65536) = (y5 : Int) := by rw [IntKind.wrap_u64]; omega
  have e6 : IntKind.u64.wrap ((y5 : Int) + (y5 : Int) / 4294967296) = (y6 : Int) := by rw [IntKind.wrap_u64]; omega
  have e7 : bits .and .i64 (wrap64 (y6 : Int)) 127 = ((pop 64 x : Nat) : Int) := by
    rw [show wrap64 (y6 : Int) = (y6 : Int) by unfold wrap64; omega, mask127 _ (by omega) (by omega)]
    omega
  have c0 : (0 : Int) ≤ (x : Int) := by omega
  have c1 : (0 : Int) ≤ (y1 : Int) := by omega
  have c2 : (0 : Int) ≤ (y2 : Int) := by omega
  have c3 : (0 : Int) ≤ (y3 : Int) := by omega
  have c4 : (0 : Int) ≤ (y4 : Int) := by omega
  have c5 : (0 : Int) ≤ (y5 : Int) := by omega
  generalize pop 64 x = p at *
  clear h1 h2 h3 h4 h5 h6 b1 b2 b3 b4 b5 b6 hx
  go_enter Tryd.func18, Tryd.ntmps18
  go_wp2
  go_ret
  exact ⟨by first | rfl | (rw [e7]), rfl⟩
theorem count_any (x : Nat) (hx : x < 18446744073709551616) (w : World) : Calls Tryd.prog 13 #[.int .u64 (x : Int)] w fun e w' => e = .returned (.int .i64 (pop 64 x : Nat)) ∧ w = w' := by
  have H := fun W => ones_any x hx W
  have HH := Lib.hid H
  clear H
  generalize pop 64 x = p at *
  go_enter Tryd.func13, Tryd.ntmps13
  go_wp2_with fail
  refine (HH.out _).mono ?_
  rintro e w2 ⟨rfl, rfl⟩
  go_wp2
  go_ret
  exact ⟨rfl, rfl⟩
end Go.Proofs.YtpoepaiaehhloaaDoor
