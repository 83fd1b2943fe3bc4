/- Walks: the exclusive or of values; the move that makes it 0. -/
import Derived.Test.YthgbdonjheengaaHasN
import Derived.Test.YthgbdonjheengaaNimP
import Derived.Laws.BitsAllLaws
import Derived.Lib.Hide
namespace Go.Proofs.Ythgbdonjheengaa
open Go.RowKit
set_option linter.unusedVariables false
theorem i64_xor_nat (a b : Nat) (ha : a < 4294967296) (hb : b < 4294967296) : bits .xor .i64 (a : Int) (b : Int) = ((a ^^^ b : Nat) : Int) := by
  have hx : a ^^^ b < 2 ^ 32 := Nat.xor_lt_two_pow (by omega) (by omega)
  show IntKind.i64.wrap ((BitVec.ofInt 64 (a : Int) ^^^ BitVec.ofInt 64 (b : Int)).toNat : Int) = _
  rw [BitVec.toNat_xor, ofInt_u64 a (by omega), ofInt_u64 b (by omega), IntKind.wrap_i64]
  omega
/-- The exclusive or of a list. -/
def xorN (l : List Nat) : Nat := l.foldl (· ^^^ ·) 0
theorem fold_xor : ∀ (l : List Nat) (a : Nat), l.foldl (· ^^^ ·) a = a ^^^ xorN l
  | [], a => by simp [xorN]
  | b :: l, a => by
    unfold xorN
    rw [List.foldl_cons, List.foldl_cons, fold_xor l, fold_xor l, Nat.zero_xor, Nat.xor_assoc]
theorem xorN_cons (a : Nat) (l : List Nat) : xorN (a :: l) = a ^^^ xorN l := by
  show (a :: l).foldl _ 0 = _
  rw [List.foldl_cons, fold_xor, Nat.zero_xor]
theorem xorN_take {l : List Nat} {k x : Nat} (h : l[k]? = some x) : xorN (l.take (k + 1)) = xorN (l.take k) ^^^ x := by
  unfold xorN
  rw [List.take_add_one, h, List.foldl_append]
  rfl
theorem xorN_lt {l : List Nat} (h : ∀ x ∈ l, x < 4294967296) : xorN l < 4294967296 := by
  induction l with
  | nil => show 0 < 4294967296; omega
  | cons a l ih =>
    rw [xorN_cons]
    exact Nat.xor_lt_two_pow (n := 32) (h a (List.mem_cons_self ..)) (ih fun x hx => h x (List.mem_cons_of_mem _ hx))
/-- A number below the sum: some heap can be lowered to reach it. -/
theorem xor_some : ∀ (l : List Nat) (k : Nat), k < xorN l → ∃ h ∈ l, k ^^^ (xorN l ^^^ h) < h
  | [], k, hk => absurd hk (Nat.not_lt_zero k)
  | a :: l, k, hk => by
    rw [xorN_cons] at hk ⊢
    rcases xor_split _ k a (xorN l) (Nat.le_refl _) hk with h | h
    · refine ⟨a, List.mem_cons_self .., ?_⟩
      rw [show k ^^^ ((a ^^^ xorN l) ^^^ a) = k ^^^ xorN l by rw [Nat.xor_comm a (xorN l), Nat.xor_assoc (xorN l), Nat.xor_self, Nat.xor_zero]]
      exact h
    · obtain ⟨x, hx, h2⟩ := xor_some l (k ^^^ a) h
      refine ⟨x, List.mem_cons_of_mem _ hx, ?_⟩
      rw [show k ^^^ ((a ^^^ xorN l) ^^^ x) = (k ^^^ a) ^^^ (xorN l ^^^ x) by rw [Nat.xor_assoc a, ← Nat.xor_assoc k]]
      exact h2
theorem xor_zero {l : List Nat} (h : ∀ x ∈ l, ¬ x ^^^ xorN l < x) : xorN l = 0 := by
  refine Classical.byContradiction fun hne => ?_
  obtain ⟨x, hx, h2⟩ := xor_some l 0 (by omega)
  rw [Nat.zero_xor, Nat.xor_comm] at h2
  exact h x hx h2
theorem xorN_set : ∀ {l : List Nat} {i x : Nat} (y : Nat), l[i]? = some x → xorN (l.set i y) = xorN l ^^^ (x ^^^ y)
  | [], i, x, y, h => by simp at h
  | a :: l, 0, x, y, h => by
    obtain rfl : a = x := by simpa using h
    rw [List.set_cons_zero, xorN_cons, xorN_cons, Nat.xor_comm a y, ← Nat.xor_assoc, Nat.xor_comm (a ^^^ xorN l) y, Nat.xor_comm a (xorN l), Nat.xor_assoc y, Nat.xor_assoc (xorN l), Nat.xor_self, Nat.xor_zero]
  | a :: l, i + 1, x, y, h => by
    rw [List.set_cons_succ, xorN_cons, xorN_cons, xorN_set y (by simpa using h), Nat.xor_assoc]
def zs (l : List Nat) : List Int := l.map fun (x : Nat) => (x : Int)
theorem zs_len (l : List Nat) : (zs l).length = l.length := by simp [zs]
set_option maxHeartbeats 1000000 in
set_option maxRecDepth 100000 in
theorem sum_any (l : List Nat) (hl : l.length ≤ 1000000) (hx : ∀ x ∈ l, x < 4294967296) (A : Option Addr) (c : Nat) (w : World) (hA : IntsAt w A (zs l)) :
    Calls Try.prog 12 #[.slice A l.length c] w fun e w' => e = .returned (.int .i64 (xorN l : Int)) ∧ w = w' := by
  have HA := Lib.hid hA
  have HX := Lib.hid hx
  have HT := Lib.hid (fun k => xorN_lt (l := l.take k) fun x h => hx x (List.mem_of_mem_take h))
  obtain ⟨n, hn⟩ : ∃ n, n = l.length := ⟨_, rfl⟩
  have HN := Lib.hid hn
  rw [← hn] at hl ⊢
  clear hA hx hn
  go_enter Try.func12, Try.ntmps12
  go_wp2_with fail
  go_loop [3, 8] (fun s i => ∃ k : Nat, k ≤ n ∧ i = .int .i64 (k : Int) ∧ s = .int .i64 (xorN (l.take k) : Int)) (fun _ i => n - (intOf i).toNat)
  case atStart => exact ⟨0, Nat.zero_le _, rfl, rfl⟩
  case round =>
    obtain ⟨k, hk, rfl, rfl⟩ := hrel
    by_cases hkn : k < n
    · obtain ⟨y, hy⟩ : ∃ y, l[k]? = some y := ⟨_, List.getElem?_eq_getElem (by rw [← HN.out]; exact hkn)⟩
      obtain ⟨b, o, rfl, hc⟩ := HA.out k (by rw [zs_len, ← HN.out]; exact hkn)
      rw [show (zs l).getD k 0 = (y : Int) by rw [List.getD_eq_getElem?_getD]; simp [zs, hy]] at hc
      have e1 := i64_xor_nat (xorN (l.take k)) y (HT.out k) (HX.out y (List.mem_of_getElem? hy))
      have HE := Lib.hid (xorN_take hy)
      have HKN := Lib.hid hkn
      have i1 : (k : Int) < (n : Int) := by omega
      clear hy hk hkn
      generalize xorN (l.take k) = s at *
      go_wp2
      go_round
      case rel => exact ⟨k + 1, HKN.out, by go_num, by rw [HE.out]⟩
      case measure => have := HKN.out; simp [intOf]; omega
    · obtain rfl : k = n := by omega
      have HF := Lib.hid (show xorN (l.take k) = xorN l by rw [HN.out, List.take_length])
      rw [HF.out]
      clear hk hkn
      go_wp2
      go_ret
      exact ⟨rfl, rfl⟩
end Go.Proofs.Ythgbdonjheengaa
