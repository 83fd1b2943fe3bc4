/- The subsets of a set of squares, one after the other. Plain. -/
import Derived.Test.YtpoepaiaehhloaaPopP
namespace Go.Proofs.Ytpoepaiaehhloaa
set_option linter.unusedVariables false
theorem and_bit (a b x y : Nat) (hx : x < 2) (hy : y < 2) : (2 * a + x) &&& (2 * b + y) = 2 * (a &&& b) + (x &&& y) := by
  have h1 : ((2 * a + x) &&& (2 * b + y)) / 2 = a &&& b := by
    have h := Nat.and_div_two_pow (a := 2 * a + x) (b := 2 * b + y) (n := 1)
    rw [show (2 : Nat) ^ 1 = 2 from rfl] at h
    rw [h, show (2 * a + x) / 2 = a by omega, show (2 * b + y) / 2 = b by omega]
  have h2 : ((2 * a + x) &&& (2 * b + y)) % 2 = x &&& y := by
    have h := Nat.and_mod_two_pow (a := 2 * a + x) (b := 2 * b + y) (n := 1)
    rw [show (2 : Nat) ^ 1 = 2 from rfl] at h
    rw [h, show (2 * a + x) % 2 = x by omega, show (2 * b + y) % 2 = y by omega]
  omega
theorem b00 : (0 : Nat) &&& 0 = 0 := rfl
theorem b01 : (0 : Nat) &&& 1 = 0 := rfl
theorem b10 : (1 : Nat) &&& 0 = 0 := rfl
theorem b11 : (1 : Nat) &&& 1 = 1 := rfl
/-- Subset number i of the last k bits of b. -/
def dep : Nat → Nat → Nat → Nat
  | 0, _, _ => 0
  | k + 1, b, i => if b % 2 = 1 then 2 * dep k (b / 2) (i / 2) + i % 2 else 2 * dep k (b / 2) i
theorem dep_zero : ∀ k b, dep k b 0 = 0
  | 0, _ => rfl
  | k + 1, b => by unfold dep; split <;> simp [dep_zero k]
/-- What Subsets goes on with. -/
def nxt (k b p : Nat) : Nat := ((p + 2 ^ k - b) % 2 ^ k) &&& b
theorem dep_fill : ∀ k b i, b < 2 ^ k → dep k b i + (2 ^ k - 1 - b) < 2 ^ k ∧ (dep k b i + (2 ^ k - 1 - b)) &&& b = dep k b i
  | 0, b, i, h => by
    have : b = 0 := by simpa using h
    subst this
    simp [dep]
  | k + 1, b, i, h => by
    have hp : 2 ^ (k + 1) = 2 * 2 ^ k := by rw [Nat.pow_succ, Nat.mul_comm]
    have hb : b / 2 < 2 ^ k := by omega
    unfold dep
    by_cases h1 : b % 2 = 1
    · rw [if_pos h1]
      obtain ⟨ih1, ih2⟩ := dep_fill k (b / 2) (i / 2) hb
      generalize dep k (b / 2) (i / 2) = p at *
      have e : 2 * p + i % 2 + (2 ^ (k + 1) - 1 - b) = 2 * (p + (2 ^ k - 1 - b / 2)) + i % 2 := by omega
      have eb : b = 2 * (b / 2) + 1 := by omega
      rw [e]
      refine ⟨by omega, ?_⟩
      conv => lhs; arg 2; rw [eb]
      rw [and_bit _ _ _ _ (by omega) (by omega), ih2]
      rcases Nat.mod_two_eq_zero_or_one i with hi | hi <;> rw [hi] <;> rfl
    · rw [if_neg h1]
      obtain ⟨ih1, ih2⟩ := dep_fill k (b / 2) i hb
      generalize dep k (b / 2) i = p at *
      have e : 2 * p + (2 ^ (k + 1) - 1 - b) = 2 * (p + (2 ^ k - 1 - b / 2)) + 1 := by omega
      have eb : b = 2 * (b / 2) + 0 := by omega
      rw [e]
      refine ⟨by omega, ?_⟩
      conv => lhs; arg 2; rw [eb]
      rw [and_bit _ _ _ _ (by omega) (by omega), ih2, b10]
      rfl
theorem mod_two_mul (a x m : Nat) (hx : x < 2) : (2 * a + x) % (2 * m) = 2 * (a % m) + x := by
  rw [Nat.mod_mul, show (2 * a + x) % 2 = x by omega, show (2 * a + x) / 2 = a by omega]
  omega
theorem dep_next : ∀ k b i, b < 2 ^ k → dep k b (i + 1) = nxt k b (dep k b i)
  | 0, b, i, h => by
    have : b = 0 := by simpa using h
    subst this
    simp [dep, nxt]
  | k + 1, b, i, h => by
    have hp : 2 ^ (k + 1) = 2 * 2 ^ k := by rw [Nat.pow_succ, Nat.mul_comm]
    have hb : b / 2 < 2 ^ k := by omega
    by_cases h1 : b % 2 = 1
    · have eb : b = 2 * (b / 2) + 1 := by omega
      have e1 : dep (k + 1) b (i + 1) = 2 * dep k (b / 2) ((i + 1) / 2) + (i + 1) % 2 := if_pos h1
      have e2 : dep (k + 1) b i = 2 * dep k (b / 2) (i / 2) + i % 2 := if_pos h1
      rcases Nat.mod_two_eq_zero_or_one i with hi | hi
      · obtain ⟨f1, f2⟩ := dep_fill k (b / 2) (i / 2) hb
        rw [e1, e2, hi, show (i + 1) / 2 = i / 2 by omega, show (i + 1) % 2 = 1 by omega]
        generalize dep k (b / 2) (i / 2) = p at *
        unfold nxt
        rw [show 2 * p + 0 + 2 ^ (k + 1) - b = 2 * (p + (2 ^ k - 1 - b / 2)) + 1 by omega, hp, mod_two_mul _ _ _ (by omega), Nat.mod_eq_of_lt f1]
        conv => rhs; arg 2; rw [eb]
        rw [and_bit _ _ _ _ (by omega) (by omega), f2, b11]
      · have ih := dep_next k (b / 2) (i / 2) hb
        rw [e1, e2, hi, show (i + 1) / 2 = i / 2 + 1 by omega, show (i + 1) % 2 = 0 by omega, ih]
        generalize dep k (b / 2) (i / 2) = p at *
        unfold nxt
        rw [show 2 * p + 1 + 2 ^ (k + 1) - b = 2 * (p + 2 ^ k - b / 2) + 0 by omega, hp, mod_two_mul _ _ _ (by omega)]
        conv => rhs; arg 2; rw [eb]
        rw [and_bit _ _ _ _ (by omega) (by omega), b01]
    · have eb : b = 2 * (b / 2) + 0 := by omega
      have e1 : dep (k + 1) b (i + 1) = 2 * dep k (b / 2) (i + 1) := if_neg h1
      have e2 : dep (k + 1) b i = 2 * dep k (b / 2) i := if_neg h1
      have ih := dep_next k (b / 2) i hb
      rw [e1, e2, ih]
      generalize dep k (b / 2) i = p at *
      unfold nxt
      rw [show 2 * p + 2 ^ (k + 1) - b = 2 * (p + 2 ^ k - b / 2) + 0 by omega, hp, mod_two_mul _ _ _ (by omega)]
      conv => rhs; arg 2; rw [eb]
      rw [and_bit _ _ _ _ (by omega) (by omega), b00]
      rfl
theorem dep_lt : ∀ k b i j, i < j → j < 2 ^ pop k b → dep k b i < dep k b j
  | 0, b, i, j, h, h2 => by simp [pop] at h2; omega
  | k + 1, b, i, j, h, h2 => by
    by_cases h1 : b % 2 = 1
    · have e1 : dep (k + 1) b i = 2 * dep k (b / 2) (i / 2) + i % 2 := if_pos h1
      have e2 : dep (k + 1) b j = 2 * dep k (b / 2) (j / 2) + j % 2 := if_pos h1
      have hp : pop (k + 1) b = pop k (b / 2) + 1 := by show b % 2 + pop k (b / 2) = _; omega
      rw [hp, Nat.pow_succ] at h2
      rw [e1, e2]
      by_cases hij : i / 2 = j / 2
      · rw [hij]; omega
      · have := dep_lt k (b / 2) (i / 2) (j / 2) (by omega) (by omega)
        omega
    · have e1 : dep (k + 1) b i = 2 * dep k (b / 2) i := if_neg h1
      have e2 : dep (k + 1) b j = 2 * dep k (b / 2) j := if_neg h1
      have hp : pop (k + 1) b = pop k (b / 2) := by show b % 2 + pop k (b / 2) = _; omega
      rw [hp] at h2
      rw [e1, e2]
      have := dep_lt k (b / 2) i j h h2
      omega
theorem dep_all : ∀ k b, b < 2 ^ k → dep k b (2 ^ pop k b - 1) = b
  | 0, b, h => by
    have : b = 0 := by simpa using h
    subst this
    rfl
  | k + 1, b, h => by
    have hp2 : 2 ^ (k + 1) = 2 * 2 ^ k := by rw [Nat.pow_succ, Nat.mul_comm]
    have ih := dep_all k (b / 2) (by omega)
    have hpos : 0 < 2 ^ pop k (b / 2) := Nat.two_pow_pos _
    by_cases h1 : b % 2 = 1
    · have hp : pop (k + 1) b = pop k (b / 2) + 1 := by show b % 2 + pop k (b / 2) = _; omega
      have e1 : dep (k + 1) b (2 ^ pop (k + 1) b - 1) = 2 * dep k (b / 2) ((2 ^ pop (k + 1) b - 1) / 2) + (2 ^ pop (k + 1) b - 1) % 2 := if_pos h1
      rw [e1, hp, Nat.pow_succ, show (2 ^ pop k (b / 2) * 2 - 1) / 2 = 2 ^ pop k (b / 2) - 1 by omega, ih]
      omega
    · have hp : pop (k + 1) b = pop k (b / 2) := by show b % 2 + pop k (b / 2) = _; omega
      have e1 : dep (k + 1) b (2 ^ pop (k + 1) b - 1) = 2 * dep k (b / 2) (2 ^ pop (k + 1) b - 1) := if_neg h1
      rw [e1, hp, ih]
      omega
theorem dep_sub : ∀ k b i, dep k b i &&& b = dep k b i
  | 0, b, i => by simp [dep]
  | k + 1, b, i => by
    by_cases h1 : b % 2 = 1
    · have e1 : dep (k + 1) b i = 2 * dep k (b / 2) (i / 2) + i % 2 := if_pos h1
      have eb : b = 2 * (b / 2) + 1 := by omega
      have ih := dep_sub k (b / 2) (i / 2)
      rw [e1]
      conv => lhs; arg 2; rw [eb]
      rw [and_bit _ _ _ _ (by omega) (by omega), ih]
      rcases Nat.mod_two_eq_zero_or_one i with hi | hi <;> rw [hi] <;> rfl
    · have e1 : dep (k + 1) b i = 2 * dep k (b / 2) i := if_neg h1
      have eb : b = 2 * (b / 2) + 0 := by omega
      have ih := dep_sub k (b / 2) i
      rw [e1]
      conv => lhs; arg 2; rw [eb]
      rw [show 2 * dep k (b / 2) i = 2 * dep k (b / 2) i + 0 from rfl, and_bit _ _ _ _ (by omega) (by omega), ih, b00]
/-- The least bit is struck. -/
theorem pop_drop : ∀ k b, b < 2 ^ k → b ≠ 0 → pop k (b &&& (b - 1)) + 1 = pop k b
  | 0, b, h, h0 => by exact absurd (by simpa using h) h0
  | k + 1, b, h, h0 => by
    have hp : 2 ^ (k + 1) = 2 * 2 ^ k := by rw [Nat.pow_succ, Nat.mul_comm]
    by_cases h1 : b % 2 = 1
    · have eb : b = 2 * (b / 2) + 1 := by omega
      have e : b &&& (b - 1) = 2 * (b / 2) := by
        have h3 : b - 1 = 2 * (b / 2) + 0 := by omega
        rw [h3]
        conv => lhs; arg 1; rw [eb]
        rw [and_bit _ _ _ _ (by omega) (by omega), Nat.and_self, b10]
        rfl
      rw [e]
      show (2 * (b / 2) % 2 + pop k (2 * (b / 2) / 2)) + 1 = b % 2 + pop k (b / 2)
      rw [show 2 * (b / 2) / 2 = b / 2 by omega]
      omega
    · have eb : b = 2 * (b / 2) + 0 := by omega
      have e : b &&& (b - 1) = 2 * (b / 2 &&& (b / 2 - 1)) := by
        have h3 : b - 1 = 2 * (b / 2 - 1) + 1 := by omega
        rw [h3]
        conv => lhs; arg 1; rw [eb]
        rw [and_bit _ _ _ _ (by omega) (by omega), b01]
        rfl
      have ih := pop_drop k (b / 2) (by omega) (by omega)
      rw [e]
      show (2 * (b / 2 &&& (b / 2 - 1)) % 2 + pop k (2 * (b / 2 &&& (b / 2 - 1)) / 2)) + 1 = b % 2 + pop k (b / 2)
      rw [show 2 * (b / 2 &&& (b / 2 - 1)) / 2 = b / 2 &&& (b / 2 - 1) by omega]
      omega
theorem pop_le : ∀ k b, pop k b ≤ k
  | 0, _ => Nat.le_refl _
  | k + 1, b => by have := pop_le k (b / 2); show b % 2 + pop k (b / 2) ≤ k + 1; omega
/-- All subsets of b, in increasing order. -/
def subsL (b : Nat) (n : Nat) : List Nat := (List.range n).map (dep 64 b)
theorem subs_facts {b : Nat} (hb : b < 18446744073709551616) : ∀ i, i < 2 ^ pop 64 b → dep 64 b i &&& b = dep 64 b i ∧ (∀ j, j < i → dep 64 b j < dep 64 b i) ∧ (dep 64 b i = b ↔ i = 2 ^ pop 64 b - 1) ∧ dep 64 b i ≤ b := fun i hi => by
  have h64 : b < 2 ^ 64 := hb
  refine ⟨dep_sub _ _ _, fun j hj => dep_lt _ _ _ _ hj hi, ⟨fun e => ?_, fun e => by rw [e]; exact dep_all 64 b h64⟩, ?_⟩
  · by_cases h : i = 2 ^ pop 64 b - 1
    · exact h
    · have := dep_lt 64 b i (2 ^ pop 64 b - 1) (by omega) (by omega)
      rw [dep_all 64 b h64] at this
      omega
  · by_cases h : i = 2 ^ pop 64 b - 1
    · rw [h, dep_all 64 b h64]; exact Nat.le_refl _
    · have := dep_lt 64 b i (2 ^ pop 64 b - 1) (by omega) (by omega)
      rw [dep_all 64 b h64] at this
      omega
end Go.Proofs.Ytpoepaiaehhloaa
