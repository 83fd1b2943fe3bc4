/- Walks: Take. -/
import Derived.Test.YthgbdonjheengaaNimT
namespace Go.Proofs.Ythgbdonjheengaa
open Go.ChangeShapes Go.WideShapes Go.ChangeAt Go.RowKit
set_option linter.unusedVariables false
def outT (z : Int) : Bool := decide (z < 0) || decide (100000000 < z)
theorem take1_any (z : Int) (w : World) : Calls Try.prog 26 #[.int .i64 z] w fun e w' => e = .returned (.bool (outT z)) ∧ Ext w w' := by
  unfold outT
  by_cases h1 : z < 0
  · go_enter Try.func26, Try.ntmps26
    go_wp2
    go_ret
    exact ⟨by simp [h1], Below.refl _ _⟩
  · by_cases h2 : 100000000 < z
    · go_enter Try.func26, Try.ntmps26
      go_wp2
      go_ret
      exact ⟨by simp, Below.refl _ _⟩
    · go_enter Try.func26, Try.ntmps26
      go_wp2
      go_ret
      exact ⟨by simp; omega, Below.refl _ _⟩
theorem take1Enters (args : Array Value) (W : World) : (callFunc 26 args).run Try.prog W = .ok (.enter 26 args) W := by kernel_rfl
theorem take_large (L : List Int) (hl : 256 < L.length) (A : Option Addr) (c : Nat) (w : World) : Calls Try.prog 13 #[.slice A L.length c] w fun e w' => e = .returned (.tuple #[.int .i64 0, .int .i64 0, .int .i64 2]) ∧ Ext w w' := by
  generalize L.length = n at *
  have t0 : decide ((256 : Int) < (n : Int)) = true := decide_eq_true (by omega)
  clear hl
  go_enter Try.func13, Try.ntmps13
  go_wp2
  refine bodyPost_ret (v := .tuple #[.int .i64 0, .int .i64 0, .int .i64 2]) (by simp [results, Try.results13, go_sem]) rfl ?_
  exact ⟨rfl, Below.refl _ _⟩
theorem take_out (L : List Int) (hl : L.length ≤ 256) (ho : L.any outT = true) (A : Option Addr) (c : Nat) (w : World) (hA : IntsAt w A L) : Calls Try.prog 13 #[.slice A L.length c] w fun e w' => e = .returned (.tuple #[.int .i64 0, .int .i64 0, .int .i64 4]) ∧ Ext w w' := by
  have HC := Lib.hid (hasInts_none 26 outT A L.length c L w rfl (by omega) hA take1Enters (fun z W _ => take1_any z W))
  rw [ho] at HC
  generalize L.length = n at *
  have t0 : decide ((256 : Int) < (n : Int)) = false := decide_eq_false (by omega)
  clear hl hA ho
  go_enter Try.func13, Try.ntmps13
  go_wp2_with fail
  refine HC.out.mono ?_
  rintro e w1 ⟨rfl, x1⟩
  have X1 := Lib.hid x1
  clear x1
  go_wp2
  refine bodyPost_ret (v := .tuple #[.int .i64 0, .int .i64 0, .int .i64 4]) (by simp [results, Try.results13, go_sem]) rfl ?_
  exact ⟨rfl, X1.out⟩
/-- What Take answers of heaps that are not refused. -/
def TakeIs (l : List Nat) (w : World) (e : Ending) (w' : World) : Prop :=
  Ext w w' ∧ ((∃ (i h : Nat), l[i]? = some h ∧ h ^^^ xorN l < h ∧ e = .returned (.tuple #[.int .i64 (i : Int), .int .i64 ((h ^^^ xorN l : Nat) : Int), .int .i64 0])) ∨ (xorN l = 0 ∧ e = .returned (.tuple #[.int .i64 0, .int .i64 0, .int .i64 8])))
set_option maxHeartbeats 2000000 in
set_option maxRecDepth 100000 in
theorem take_any (l : List Nat) (hl : l.length ≤ 256) (hx : ∀ x ∈ l, x ≤ 100000000) (A : Option Addr) (c : Nat) (w : World) (hA : IntsAt w A (zs l)) : Calls Try.prog 13 #[.slice A l.length c] w (TakeIs l w) := by
  have HC := Lib.hid (hasInts_none 26 outT A l.length c (zs l) w (zs_len l) (by omega) hA take1Enters (fun z W _ => take1_any z W))
  rw [show (zs l).any outT = false by
    rw [List.any_eq_false]
    intro z hz
    obtain ⟨x, hx', rfl⟩ := List.mem_map.1 hz
    have := hx x hx'
    unfold outT
    simp
    omega] at HC
  have HSU := Lib.hid (fun W (hW : Ext w W) => sum_any l (by omega) (fun x h => by have := hx x h; omega) A c W (hA.ext hW))
  have HXL := Lib.hid (xorN_lt (l := l) fun x h => by have := hx x h; omega)
  have HX := Lib.hid hx
  have HA := Lib.hid hA
  obtain ⟨X, hX⟩ : ∃ X, X = xorN l := ⟨_, rfl⟩
  have HXE := Lib.hid hX
  rw [← hX] at HSU HXL
  obtain ⟨n, hn⟩ : ∃ n, n = l.length := ⟨_, rfl⟩
  have HN := Lib.hid hn
  rw [← hn] at hl HC HSU ⊢
  have t0 : decide ((256 : Int) < (n : Int)) = false := decide_eq_false (by omega)
  clear hx hA hX hn
  go_enter Try.func13, Try.ntmps13
  go_wp2_with fail
  refine HC.out.mono ?_
  rintro e w1 ⟨rfl, x1⟩
  have X1 := Lib.hid x1
  clear x1 HC
  go_wp2_with fail
  refine (HSU.out _ X1.out).mono ?_
  rintro e w2 ⟨rfl, rfl⟩
  clear HSU
  go_wp2_with fail
  go_loop [17] (fun i => ∃ k : Nat, k ≤ n ∧ i = .int .i64 (k : Int) ∧ ∀ j y, j < k → l[j]? = some y → ¬ y ^^^ X < y) (fun i => n - (intOf i).toNat)
  case atStart => exact ⟨0, Nat.zero_le _, rfl, fun j y h => absurd h (Nat.not_lt_zero j)⟩
  case round =>
    obtain ⟨k, hk, rfl, hno⟩ := hrel
    have HNO := Lib.hid hno
    by_cases hkn : k < n
    · obtain ⟨y, hy⟩ : ∃ y, l[k]? = some y := ⟨_, List.getElem?_eq_getElem (by rw [← HN.out]; exact hkn)⟩
      obtain ⟨b, o, rfl, hc⟩ := HA.out.ext X1.out k (by rw [zs_len, ← HN.out]; exact hkn)
      rw [show (zs l).getD k 0 = (y : Int) by rw [List.getD_eq_getElem?_getD]; simp [zs, hy]] at hc
      have y8 := HX.out y (List.mem_of_getElem? hy)
      have e1 := i64_xor_nat y X (by omega) HXL.out
      have HY := Lib.hid hy
      have HKN := Lib.hid hkn
      have i1 : (k : Int) < (n : Int) := by omega
      by_cases hlt : y ^^^ X < y
      · have t1 : decide (((y ^^^ X : Nat) : Int) < (y : Int)) = true := decide_eq_true (by omega)
        have t1n : decide (y ^^^ X < y) = true := decide_eq_true hlt
        have HR : Hid (∃ (i h : Nat), l[i]? = some h ∧ h ^^^ X < h ∧ Ending.returned (.tuple #[.int .i64 (k : Int), .int .i64 ((y ^^^ X : Nat) : Int), .int .i64 0]) = .returned (.tuple #[.int .i64 (i : Int), .int .i64 ((h ^^^ X : Nat) : Int), .int .i64 0])) := hide ⟨k, y, hy, hlt, rfl⟩
        clear hy hk hkn hno hlt y8
        generalize y ^^^ X = z at *
        go_wp2
        refine bodyPost_ret (v := .tuple #[.int .i64 (k : Int), .int .i64 (z : Int), .int .i64 0]) (by simp [results, Try.results13, go_sem]) rfl ?_
        exact ⟨X1.out, .inl (by rw [← HXE.out]; exact HR.out)⟩
      · have t1 : decide (((y ^^^ X : Nat) : Int) < (y : Int)) = false := decide_eq_false (by omega)
        have t1n : decide (y ^^^ X < y) = false := decide_eq_false hlt
        have HNX := Lib.hid (show ∀ j z, j < k + 1 → l[j]? = some z → ¬ z ^^^ X < z from fun j z hj hz => by
          rcases Nat.lt_succ_iff_lt_or_eq.1 hj with h | rfl
          · exact hno j z h hz
          · rw [hy] at hz; cases hz; exact hlt)
        clear hy hk hkn hno hlt y8
        generalize y ^^^ X = z at *
        go_wp2
        go_round
        case rel => exact ⟨k + 1, HKN.out, by go_num, HNX.out⟩
        case measure => have := HKN.out; simp [intOf]; omega
    · obtain rfl : k = n := by omega
      clear hk hkn hno
      go_wp2
      refine bodyPost_ret (v := .tuple #[.int .i64 0, .int .i64 0, .int .i64 8]) (by simp [results, Try.results13, go_sem]) rfl ?_
      exact ⟨X1.out, .inr ⟨xor_zero fun x hx => by
        obtain ⟨j, hj⟩ := List.getElem?_of_mem hx
        have hl2 := (List.getElem?_eq_some_iff.1 hj).1
        rw [← HXE.out]
        exact HNO.out j x (by rw [HN.out]; exact hl2) hj, rfl⟩⟩
end Go.Proofs.Ythgbdonjheengaa
