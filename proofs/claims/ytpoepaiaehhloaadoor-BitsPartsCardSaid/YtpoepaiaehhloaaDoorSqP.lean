/- The squares of a set, in order. Plain. -/
import Derived.Lib.TrailingZeros
import Derived.Test.YtpoepaiaehhloaaDoorPopP
namespace Go.Proofs.YtpoepaiaehhloaaDoor
set_option linter.unusedVariables false
/-- A square of the board. -/
abbrev S64 := { x : Nat // x < 64 }
/-- The squares of a set, from the least on. -/
def sqs (x : Nat) : List Nat := (List.range 64).filter x.testBit
theorem mem_sqs {x s : Nat} : s ∈ sqs x ↔ s < 64 ∧ x.testBit s = true := by simp [sqs]
theorem sqs_zero : sqs 0 = [] := by decide
theorem sqs_nodup (x : Nat) : (sqs x).Nodup := List.Nodup.sublist List.filter_sublist List.nodup_range
theorem low_form {x : Nat} (h0 : x ≠ 0) (hx : x < 18446744073709551616) : ∃ m, x = 2 ^ (Lib.ctz 64 x + 1) * m + 2 ^ Lib.ctz 64 x ∧ Lib.ctz 64 x < 64 := by
  obtain ⟨m, hm, hk⟩ := Lib.ctzFrom_spec 64 x (by omega) hx
  have e : Lib.ctz 64 x = Lib.ctzFrom 64 x := by simp [Lib.ctz, h0]
  rw [e]
  refine ⟨m, ?_, hk⟩
  rw [Nat.pow_succ, Nat.mul_assoc]
  conv => lhs; rw [hm]
  rw [Nat.mul_add, Nat.mul_one]
theorem drop_bit {x : Nat} (h0 : x ≠ 0) (hx : x < 18446744073709551616) (i : Nat) : (x &&& (x - 1)).testBit i = (x.testBit i && !decide (i = Lib.ctz 64 x)) := by
  obtain ⟨m, hm, hk⟩ := low_form h0 hx
  generalize Lib.ctz 64 x = k at *
  have hp : 0 < 2 ^ k := Nat.two_pow_pos _
  have hps : 2 ^ (k + 1) = 2 * 2 ^ k := by rw [Nat.pow_succ, Nat.mul_comm]
  have h1 : x - 1 = 2 ^ (k + 1) * m + (2 ^ k - 1) := by omega
  have t1 := Nat.testBit_two_pow_mul_add m (b := 2 ^ k) (i := k + 1) (by omega) i
  have t2 := Nat.testBit_two_pow_mul_add m (b := 2 ^ k - 1) (i := k + 1) (by omega) i
  rw [Nat.testBit_and, h1, t2]
  conv => lhs; arg 1; rw [hm, t1]
  conv => rhs; arg 1; rw [hm, t1]
  by_cases hi : i < k + 1
  · simp only [if_pos hi, Nat.testBit_two_pow_sub_one, Nat.testBit_two_pow]
    by_cases hik : i = k
    · simp [hik]
    · have : ¬ k = i := fun e => hik e.symm
      simp [this]
  · simp only [if_neg hi]
    have : ¬ i = k := by omega
    simp [this]
theorem ctz_bit {x : Nat} (h0 : x ≠ 0) (hx : x < 18446744073709551616) : x.testBit (Lib.ctz 64 x) = true ∧ Lib.ctz 64 x < 64 ∧ ∀ i, i < Lib.ctz 64 x → x.testBit i = false := by
  obtain ⟨m, hm, hk⟩ := low_form h0 hx
  generalize Lib.ctz 64 x = k at *
  have hp : 0 < 2 ^ k := Nat.two_pow_pos _
  have hps : 2 ^ (k + 1) = 2 * 2 ^ k := by rw [Nat.pow_succ, Nat.mul_comm]
  have t := fun i => Nat.testBit_two_pow_mul_add m (b := 2 ^ k) (i := k + 1) (by omega) i
  refine ⟨?_, hk, fun i hi => ?_⟩
  · rw [hm, t, if_pos (by omega), Nat.testBit_two_pow_self]
  · rw [hm, t, if_pos (by omega), Nat.testBit_two_pow]
    exact decide_eq_false (by omega)
theorem filter_split (p q : Nat → Bool) (k n : Nat) (hk : k < n) (h1 : ∀ i, i < k → p i = false) (h2 : p k = true) (hq : ∀ i, q i = (p i && !decide (i = k))) :
    (List.range n).filter p = k :: (List.range n).filter q := by
  obtain ⟨d, rfl⟩ : ∃ d, n = k + (1 + d) := ⟨n - k - 1, by omega⟩
  rw [List.range_add, List.filter_append, List.filter_append]
  have e1 : (List.range k).filter p = [] := List.filter_eq_nil_iff.2 (fun a ha => by simp [h1 a (List.mem_range.1 ha)])
  have e2 : (List.range k).filter q = [] := List.filter_eq_nil_iff.2 (fun a ha => by simp [hq, h1 a (List.mem_range.1 ha)])
  rw [e1, e2, List.nil_append, List.nil_append, List.range_add, List.map_append, List.filter_append, List.filter_append]
  have e3 : ((List.range 1).map (k + ·)) = [k] := rfl
  rw [e3]
  have hqk : q k = false := by rw [hq]; simp
  simp only [List.filter_cons, List.filter_nil, h2, hqk, if_true, List.cons_append, List.nil_append, Bool.false_eq_true, if_false]
  congr 1
  refine List.filter_congr (fun a ha => ?_)
  simp only [List.map_map, List.mem_map, List.mem_range, Function.comp] at ha
  obtain ⟨c, hc, rfl⟩ := ha
  rw [hq, decide_eq_false (by omega)]
  simp
theorem sqs_next {x : Nat} (h0 : x ≠ 0) (hx : x < 18446744073709551616) : sqs x = Lib.ctz 64 x :: sqs (x &&& (x - 1)) := by
  obtain ⟨h1, h2, h3⟩ := ctz_bit h0 hx
  exact filter_split _ _ _ 64 h2 h3 h1 (drop_bit h0 hx)
theorem pop_range : ∀ (n x : Nat), pop n x = ((List.range n).filter x.testBit).length
  | 0, x => rfl
  | n + 1, x => by
    have ih := pop_range n (x / 2)
    rw [List.range_succ_eq_map, List.filter_cons, List.filter_map]
    have e : (x.testBit ∘ Nat.succ) = (x / 2).testBit := by
      funext i
      show x.testBit (i + 1) = _
      rw [Nat.testBit_succ]
    show x % 2 + pop n (x / 2) = _
    rw [ih, e, Nat.testBit_zero]
    by_cases h : x % 2 = 1
    · simp [h]
      omega
    · simp [h]
      omega
theorem pop_sqs (x : Nat) : pop 64 x = (sqs x).length := pop_range 64 x
theorem pop_le (x : Nat) : pop 64 x ≤ 64 := by
  rw [pop_sqs]
  have h := List.length_filter_le x.testBit (List.range 64)
  simpa [sqs] using h
end Go.Proofs.YtpoepaiaehhloaaDoor
