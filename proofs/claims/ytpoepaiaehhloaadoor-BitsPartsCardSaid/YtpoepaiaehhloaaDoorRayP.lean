/- Rays. Plain. -/
import Derived.Test.YtpoepaiaehhloaaDoorShiftP
namespace Go.Proofs.YtpoepaiaehhloaaDoor
set_option linter.unusedVariables false
/-- The set with the square that is reached after n steps; empty if it lies outside. -/
def rq (dx dy : Int) (s n : Nat) : Nat := if okSq ((n : Int) * dx) ((n : Int) * dy) s then 2 ^ toSq ((n : Int) * dx) ((n : Int) * dy) s else 0
def okN (dx dy : Int) (s n : Nat) : Prop := okSq ((n : Int) * dx) ((n : Int) * dy) s
/-- The squares of the first n steps. -/
def rayOut (dx dy : Int) (s : Nat) : Nat → Nat
  | 0 => 0
  | n + 1 => rayOut dx dy s n ||| rq dx dy s (n + 1)
theorem shift_one (t : Nat) (ht : t < 64) (dx dy : Int) : shiftM (2 ^ t) dx dy = if okSq dx dy t then 2 ^ toSq dx dy t else 0 := by
  refine Nat.eq_of_testBit_eq fun u => Bool.eq_iff_iff.2 ?_
  rw [shift_bit]
  constructor
  · rintro ⟨s, hs, hb, ho, rfl⟩
    obtain rfl : t = s := by simpa [Nat.testBit_two_pow] using hb
    rw [if_pos ho, Nat.testBit_two_pow_self]
  · intro h
    split at h
    · rename_i ho
      have e : toSq dx dy t = u := by simpa [Nat.testBit_two_pow] using h
      exact ⟨t, ht, Nat.testBit_two_pow_self, ho, e⟩
    · simp at h
theorem ok_zero {s : Nat} (hs : s < 64) (dx dy : Int) : okN dx dy s 0 := by
  unfold okN okSq
  simp
  omega
theorem rq_zero {s : Nat} (hs : s < 64) (dx dy : Int) : rq dx dy s 0 = 2 ^ s := by
  have h : okSq (((0 : Nat) : Int) * dx) (((0 : Nat) : Int) * dy) s := ok_zero hs dx dy
  unfold rq
  rw [if_pos h]
  congr 1
  unfold toSq
  simp
  omega
theorem step_mul (n : Nat) (d : Int) : ((n + 1 : Nat) : Int) * d = (n : Int) * d + d := by
  rw [Int.natCast_add, Int.add_mul]
  simp
theorem sq_step {a b dx dy : Int} {s : Nat} (hs : s < 64) (h : okSq a b s) : (okSq dx dy (toSq a b s) ↔ okSq (a + dx) (b + dy) s) ∧ toSq dx dy (toSq a b s) = toSq (a + dx) (b + dy) s := by
  obtain ⟨h1, h2, h3, h4⟩ := h
  obtain ⟨x, hx⟩ : ∃ x : Nat, (x : Int) = ((s % 8 : Nat) : Int) + a := ⟨(((s % 8 : Nat) : Int) + a).toNat, by omega⟩
  obtain ⟨y, hy⟩ : ∃ y : Nat, (y : Int) = ((s / 8 : Nat) : Int) + b := ⟨(((s / 8 : Nat) : Int) + b).toNat, by omega⟩
  have e : toSq a b s = 8 * y + x := by unfold toSq; omega
  have e1 : (8 * y + x) % 8 = x := by omega
  have e2 : (8 * y + x) / 8 = y := by omega
  rw [e]
  unfold okSq toSq
  rw [e1, e2]
  generalize ((s % 8 : Nat) : Int) = p at *
  generalize ((s / 8 : Nat) : Int) = q at *
  rw [hx, hy, Int.add_assoc, Int.add_assoc]
  exact ⟨Iff.rfl, rfl⟩
theorem rq_step {dx dy : Int} {s n : Nat} (hs : s < 64) (h : okN dx dy s n) : shiftM (rq dx dy s n) dx dy = rq dx dy s (n + 1) := by
  have h' : okSq ((n : Int) * dx) ((n : Int) * dy) s := h
  have e : rq dx dy s n = 2 ^ toSq ((n : Int) * dx) ((n : Int) * dy) s := if_pos h'
  rw [e, shift_one _ (toSq_lt h')]
  obtain ⟨k1, k2⟩ := sq_step (dx := dx) (dy := dy) hs h'
  unfold rq
  rw [step_mul, step_mul, k2]
  by_cases hk : okSq ((n : Int) * dx + dx) ((n : Int) * dy + dy) s
  · rw [if_pos hk, if_pos (k1.2 hk)]
  · rw [if_neg hk, if_neg (fun c => hk (k1.1 c))]
theorem rq_ne {dx dy : Int} {s n : Nat} (h : okN dx dy s n) : rq dx dy s n ≠ 0 := by
  have h' : okSq ((n : Int) * dx) ((n : Int) * dy) s := h
  have e : rq dx dy s n = 2 ^ toSq ((n : Int) * dx) ((n : Int) * dy) s := if_pos h'
  rw [e]
  have := Nat.two_pow_pos (toSq ((n : Int) * dx) ((n : Int) * dy) s)
  omega
theorem rq_off {dx dy : Int} {s n : Nat} (h : ¬ okN dx dy s n) : rq dx dy s n = 0 := if_neg h
theorem rq_lt (dx dy : Int) (s n : Nat) : rq dx dy s n < 18446744073709551616 := by
  unfold rq
  split
  · rename_i h
    have e : (2 : Nat) ^ 64 = 18446744073709551616 := rfl
    rw [← e]
    exact Nat.pow_lt_pow_right (by omega) (toSq_lt h)
  · omega
theorem rayOut_lt (dx dy : Int) (s : Nat) : ∀ n, rayOut dx dy s n < 18446744073709551616
  | 0 => by show 0 < 18446744073709551616; omega
  | n + 1 => by
    have e : (2 : Nat) ^ 64 = 18446744073709551616 := rfl
    have h1 := rayOut_lt dx dy s n
    have h2 := rq_lt dx dy s (n + 1)
    rw [← e] at *
    exact Nat.or_lt_two_pow h1 h2
theorem ok_small {dx dy : Int} {s n : Nat} (hs : s < 64) (hx : -1 ≤ dx ∧ dx ≤ 1) (hy : -1 ≤ dy ∧ dy ≤ 1) (h0 : ¬ (dx = 0 ∧ dy = 0)) (h : okN dx dy s n) : n ≤ 7 := by
  obtain ⟨h1, h2, h3, h4⟩ := h
  have cx : dx = -1 ∨ dx = 0 ∨ dx = 1 := by omega
  have cy : dy = -1 ∨ dy = 0 ∨ dy = 1 := by omega
  rcases cx with rfl | rfl | rfl <;> rcases cy with rfl | rfl | rfl <;> omega
/-- What Ray answers where it answers no error. -/
def RayIs (dx dy : Int) (s occ res : Nat) : Prop := ∃ n, (∀ j, 1 ≤ j → j ≤ n → okN dx dy s j ∧ rq dx dy s j &&& occ = 0) ∧
  ((¬ okN dx dy s (n + 1) ∧ res = rayOut dx dy s n) ∨ (okN dx dy s (n + 1) ∧ rq dx dy s (n + 1) &&& occ ≠ 0 ∧ res = rayOut dx dy s (n + 1)))
theorem rayOut_bit {dx dy : Int} {s t : Nat} : ∀ {n : Nat}, (rayOut dx dy s n).testBit t = true ↔ ∃ j, 1 ≤ j ∧ j ≤ n ∧ (rq dx dy s j).testBit t = true
  | 0 => by
    constructor
    · intro h
      simp [rayOut] at h
    · rintro ⟨j, h1, h2, _⟩
      omega
  | n + 1 => by
    rw [rayOut, Nat.testBit_or, Bool.or_eq_true, rayOut_bit (n := n)]
    constructor
    · rintro (⟨j, h1, h2, h3⟩ | h)
      · exact ⟨j, h1, by omega, h3⟩
      · exact ⟨n + 1, by omega, by omega, h⟩
    · rintro ⟨j, h1, h2, h3⟩
      by_cases hj : j = n + 1
      · subst hj
        exact .inr h3
      · exact .inl ⟨j, h1, by omega, h3⟩
theorem pop_one {x t : Nat} (h : ∀ i, x.testBit i = true → i = t) : pop 64 x ≤ 1 := by
  rw [pop_sqs]
  have hn := sqs_nodup x
  have hm : ∀ i ∈ sqs x, i = t := fun i hi => h i (mem_sqs.1 hi).2
  generalize sqs x = l at *
  match l, hn, hm with
  | [], _, _ => simp
  | [a], _, _ => simp
  | a :: b :: l, hn, hm =>
    have ha := hm a (by simp)
    have hb := hm b (by simp)
    rw [ha, hb] at hn
    simp at hn
theorem ray_hits {dx dy : Int} {s occ res : Nat} (h : RayIs dx dy s occ res) : pop 64 (res &&& occ) ≤ 1 := by
  obtain ⟨n, hj, ⟨h1, rfl⟩ | ⟨h1, h2, rfl⟩⟩ := h
  · refine pop_one (t := 0) (fun i hi => ?_)
    rw [Nat.testBit_and, Bool.and_eq_true, rayOut_bit] at hi
    obtain ⟨⟨j, j1, j2, j3⟩, ho⟩ := hi
    have e := congrArg (fun z => z.testBit i) (hj j j1 j2).2
    simp [Nat.testBit_and, j3, ho] at e
  · have e0 : rq dx dy s (n + 1) = 2 ^ toSq (((n + 1 : Nat) : Int) * dx) (((n + 1 : Nat) : Int) * dy) s := if_pos h1
    refine pop_one (t := toSq (((n + 1 : Nat) : Int) * dx) (((n + 1 : Nat) : Int) * dy) s) (fun i hi => ?_)
    rw [Nat.testBit_and, Bool.and_eq_true, rayOut_bit] at hi
    obtain ⟨⟨j, j1, j2, j3⟩, ho⟩ := hi
    by_cases hn : j = n + 1
    · subst hn
      rw [e0, Nat.testBit_two_pow] at j3
      exact (of_decide_eq_true j3).symm
    · have e := congrArg (fun z => z.testBit i) (hj j j1 (by omega)).2
      simp [Nat.testBit_and, j3, ho] at e
theorem ray_zero {dx dy : Int} {s occ res : Nat} (h : RayIs dx dy s occ res) : res = 0 ↔ ¬ okN dx dy s 1 := by
  have key : ∀ m, 1 ≤ m → okN dx dy s 1 → rayOut dx dy s m ≠ 0 := fun m hm hk e => by
    have e0 : rq dx dy s 1 = 2 ^ toSq (((1 : Nat) : Int) * dx) (((1 : Nat) : Int) * dy) s := if_pos hk
    have hb : (rayOut dx dy s m).testBit (toSq (((1 : Nat) : Int) * dx) (((1 : Nat) : Int) * dy) s) = true := rayOut_bit.2 ⟨1, by omega, hm, by rw [e0, Nat.testBit_two_pow_self]⟩
    rw [e] at hb
    simp at hb
  obtain ⟨n, hj, ⟨h1, rfl⟩ | ⟨h1, h2, rfl⟩⟩ := h
  · constructor
    · intro e hk
      by_cases hn : n = 0
      · subst hn
        exact h1 hk
      · exact key n (by omega) hk e
    · intro hk
      by_cases hn : n = 0
      · subst hn
        rfl
      · exact absurd (hj 1 (by omega) (by omega)).1 hk
  · constructor
    · intro e hk
      exact key (n + 1) (by omega) hk e
    · intro hk
      by_cases hn : n = 0
      · subst hn
        exact absurd h1 hk
      · exact absurd (hj 1 (by omega) (by omega)).1 hk
theorem ray_less {dx dy : Int} {s occ more a b : Nat} (ha : RayIs dx dy s occ a) (hb : RayIs dx dy s (occ ||| more) b) : b &&& a = b := by
  have sub : ∀ {x : Nat}, x &&& (occ ||| more) = 0 → x &&& occ = 0 := fun {x} h => by
    refine Nat.eq_of_testBit_eq fun i => ?_
    have e := congrArg (fun z => z.testBit i) h
    rw [Nat.testBit_and]
    simp [Nat.testBit_and, Nat.testBit_or] at e ⊢
    intro h1 
    exact (e h1).1
  have fin : ∀ m k, k ≤ m → rayOut dx dy s k &&& rayOut dx dy s m = rayOut dx dy s k := fun m k hk => by
    refine Nat.eq_of_testBit_eq fun i => ?_
    rw [Nat.testBit_and]
    cases h : (rayOut dx dy s k).testBit i
    · rfl
    · obtain ⟨j, j1, j2, j3⟩ := rayOut_bit.1 h
      rw [rayOut_bit.2 ⟨j, j1, by omega, j3⟩]
      rfl
  obtain ⟨n, hn, ⟨h1, rfl⟩ | ⟨h1, h2, rfl⟩⟩ := ha
  · obtain ⟨m, hm, ⟨g1, rfl⟩ | ⟨g1, g2, rfl⟩⟩ := hb
    · refine fin n m (Nat.le_of_not_lt fun hc => h1 (hm (n + 1) (by omega) (by omega)).1)
    · refine fin n (m + 1) (Nat.le_of_not_lt fun hc => ?_)
      by_cases e : m = n
      · subst e
        exact h1 g1
      · exact h1 (hm (n + 1) (by omega) (by omega)).1
  · obtain ⟨m, hm, ⟨g1, rfl⟩ | ⟨g1, g2, rfl⟩⟩ := hb
    · refine fin (n + 1) m (Nat.le_of_not_lt fun hc => h2 (sub (hm (n + 1) (by omega) (by omega)).2))
    · refine fin (n + 1) (m + 1) (Nat.le_of_not_lt fun hc => h2 (sub (hm (n + 1) (by omega) (by omega)).2))
/-- How many steps are left at most. -/
def remM (dx dy : Int) (v : Nat) : Nat := if v = 0 then 0 else if dx = 1 then 9 - v.log2 % 8 else if dx = -1 then 2 + v.log2 % 8 else if dy = 1 then 9 - v.log2 / 8 else 2 + v.log2 / 8
theorem rem_less {dx dy : Int} {s n : Nat} (hs : s < 64) (hx : -1 ≤ dx ∧ dx ≤ 1) (hy : -1 ≤ dy ∧ dy ≤ 1) (h0 : ¬ (dx = 0 ∧ dy = 0)) (h : okN dx dy s n) : remM dx dy (rq dx dy s (n + 1)) < remM dx dy (rq dx dy s n) := by
  have h' : okSq ((n : Int) * dx) ((n : Int) * dy) s := h
  have e : rq dx dy s n = 2 ^ toSq ((n : Int) * dx) ((n : Int) * dy) s := if_pos h'
  have ht := toSq_lt h'
  rw [← rq_step hs h, e]
  generalize toSq ((n : Int) * dx) ((n : Int) * dy) s = t at *
  rw [shift_one t ht]
  have p1 := Nat.two_pow_pos t
  have e1 : remM dx dy (2 ^ t) = if dx = 1 then 9 - t % 8 else if dx = -1 then 2 + t % 8 else if dy = 1 then 9 - t / 8 else 2 + t / 8 := by
    unfold remM
    rw [if_neg (by omega), Nat.log2_two_pow]
  rw [e1]
  have cx : dx = -1 ∨ dx = 0 ∨ dx = 1 := by omega
  have cy : dy = -1 ∨ dy = 0 ∨ dy = 1 := by omega
  by_cases hk : okSq dx dy t
  · rw [if_pos hk]
    have p2 := Nat.two_pow_pos (toSq dx dy t)
    unfold remM
    rw [if_neg (by omega), Nat.log2_two_pow]
    obtain ⟨k1, k2, k3, k4⟩ := hk
    unfold toSq
    rcases cx with rfl | rfl | rfl <;> rcases cy with rfl | rfl | rfl <;> simp at h0 ⊢ <;> omega
  · rw [if_neg hk]
    have e0 : remM dx dy 0 = 0 := rfl
    rw [e0]
    rcases cx with rfl | rfl | rfl <;> rcases cy with rfl | rfl | rfl <;> simp at h0 ⊢ <;> omega
theorem ray_sample {res : Nat} (h : RayIs 1 0 0 4 res) : res = 6 := by
  have o1 : okN 1 0 0 1 := by unfold okN; decide
  have o2 : okN 1 0 0 2 := by unfold okN; decide
  have r1 : rq 1 0 0 1 &&& 4 = 0 := by decide
  have r2 : rq 1 0 0 2 &&& 4 ≠ 0 := by decide
  obtain ⟨n, hn, h⟩ := h
  have hle : n ≤ 1 := Nat.le_of_not_lt fun hc => r2 (hn 2 (by omega) (by omega)).2
  have c : n = 0 ∨ n = 1 := by omega
  rcases c with rfl | rfl
  · rcases h with ⟨h1, _⟩ | ⟨_, h2, _⟩
    · exact absurd o1 h1
    · exact absurd r1 h2
  · rcases h with ⟨h1, _⟩ | ⟨_, _, rfl⟩
    · exact absurd o2 h1
    · decide
end Go.Proofs.YtpoepaiaehhloaaDoor
