/- Plain: impartial games: the least excluded number, values, the sum of two games, heaps. -/
import Derived.Lib.Hide
namespace Go.Proofs.Ythgbdonjheengaa
set_option linter.unusedVariables false
def mexGo (L : List Nat) : Nat → Nat → Nat
  | 0, n => n
  | f + 1, n => if n ∈ L then mexGo L f (n + 1) else n
def mex (L : List Nat) : Nat := mexGo L (L.sum + 1) 0
def IsMex (L : List Nat) (n : Nat) : Prop := n ∉ L ∧ ∀ k, k < n → k ∈ L
theorem le_sum {L : List Nat} {n : Nat} (h : n ∈ L) : n ≤ L.sum := by
  induction L with
  | nil => cases h
  | cons a L ih =>
    rw [List.sum_cons]
    rcases List.mem_cons.1 h with rfl | h
    · omega
    · have := ih h; omega
theorem mexGo_is (L : List Nat) : ∀ f n, L.sum < n + f → (∀ k, k < n → k ∈ L) → IsMex L (mexGo L f n)
  | 0, n, h, hk => ⟨fun hn => by
      have := le_sum (n := n) hn
      omega, hk⟩
  | f + 1, n, h, hk => by
    unfold mexGo
    split
    · next hn =>
      refine mexGo_is L f (n + 1) (by omega) fun k hk' => ?_
      rcases Nat.lt_succ_iff_lt_or_eq.1 hk' with h1 | rfl
      · exact hk k h1
      · exact hn
    · next hn => exact ⟨hn, hk⟩
theorem mex_is (L : List Nat) : IsMex L (mex L) := mexGo_is L _ 0 (by omega) fun k h => absurd h (Nat.not_lt_zero k)
theorem IsMex.unique {L : List Nat} {a b : Nat} (ha : IsMex L a) (hb : IsMex L b) : a = b := by
  rcases Nat.lt_trichotomy a b with h | h | h
  · exact absurd (hb.2 a h) ha.1
  · exact h
  · exact absurd (ha.2 b h) hb.1
theorem IsMex.congr {L M : List Nat} {a : Nat} (ha : IsMex L a) (h : ∀ x, x ∈ L ↔ x ∈ M) : IsMex M a := ⟨fun hm => ha.1 ((h a).2 hm), fun k hk => (h k).1 (ha.2 k hk)⟩
theorem mex_eq {L : List Nat} {a : Nat} (ha : IsMex L a) : mex L = a := (mex_is L).unique ha
theorem mex_congr {L M : List Nat} (h : ∀ x, x ∈ L ↔ x ∈ M) : mex L = mex M := ((mex_is L).congr h).unique (mex_is M)
section
variable {σ : Type}
def grF (nx : σ → List σ) : Nat → σ → Nat
  | 0, _ => 0
  | f + 1, s => mex ((nx s).map (grF nx f))
/-- A game of finite length: every move lowers the rank. -/
def Falls (nx : σ → List σ) (rk : σ → Nat) : Prop := ∀ s, ∀ t ∈ nx s, rk t < rk s
def gr (nx : σ → List σ) (rk : σ → Nat) (s : σ) : Nat := grF nx (rk s + 1) s
variable {nx : σ → List σ} {rk : σ → Nat}
theorem grF_stable (h : Falls nx rk) : ∀ f g s, rk s < f → rk s < g → grF nx f s = grF nx g s
  | 0, _, _, h1, _ => absurd h1 (Nat.not_lt_zero _)
  | _, 0, _, _, h2 => absurd h2 (Nat.not_lt_zero _)
  | f + 1, g + 1, s, h1, h2 => by
    show mex _ = mex _
    congr 1
    refine List.map_congr_left fun t ht => ?_
    have := h s t ht
    exact grF_stable h f g t (by omega) (by omega)
theorem gr_eq (h : Falls nx rk) (s : σ) : gr nx rk s = mex ((nx s).map (gr nx rk)) := by
  show mex _ = mex _
  congr 1
  refine List.map_congr_left fun t ht => ?_
  have := h s t ht
  exact grF_stable h _ _ t (by omega) (by omega)
theorem gr_is (h : Falls nx rk) (s : σ) : IsMex ((nx s).map (gr nx rk)) (gr nx rk s) := by
  rw [gr_eq h s]; exact mex_is _
theorem gr_le (h : Falls nx rk) : ∀ n s, rk s ≤ n → gr nx rk s ≤ rk s
  | n, s, hn => by
    refine Nat.le_of_not_lt fun hc => ?_
    have h1 := (gr_is h s).2 (rk s) hc
    obtain ⟨t, ht, he⟩ := List.mem_map.1 h1
    have h2 := h s t ht
    match n with
    | 0 => omega
    | n + 1 => have := gr_le h n t (by omega); omega
end
theorem xor_split : ∀ (n k a b : Nat), a + b + k ≤ n → k < a ^^^ b → k ^^^ b < a ∨ k ^^^ a < b
  | 0, k, a, b, hn, h => by
    obtain rfl : a = 0 := by omega
    obtain rfl : b = 0 := by omega
    simp at h
  | n + 1, k, a, b, hn, h => by
    have d1 := @Nat.xor_div_two a b
    have d2 := @Nat.xor_div_two k b
    have d3 := @Nat.xor_div_two k a
    have m1 := @Nat.xor_mod_two_eq_one a b
    have m2 := @Nat.xor_mod_two_eq_one k b
    have m3 := @Nat.xor_mod_two_eq_one k a
    generalize hA : a ^^^ b = A at *
    generalize k ^^^ b = B at *
    generalize k ^^^ a = C at *
    by_cases hlt : k / 2 < A / 2
    · have hz : ¬ (a = 0 ∧ b = 0) := fun hz => by
        obtain ⟨rfl, rfl⟩ := hz
        simp at hA
        omega
      rw [d1] at hlt
      rcases xor_split n (k / 2) (a / 2) (b / 2) (by omega) hlt with h1 | h1
      · rw [← d2] at h1; exact .inl (by omega)
      · rw [← d3] at h1; exact .inr (by omega)
    · have he : k / 2 = A / 2 := by omega
      have e1 : A % 2 = 1 := by omega
      have e2 : k % 2 = 0 := by omega
      have x1 : k / 2 ^^^ b / 2 = a / 2 := by rw [he, d1, Nat.xor_assoc, Nat.xor_self, Nat.xor_zero]
      have x2 : k / 2 ^^^ a / 2 = b / 2 := by rw [he, d1, Nat.xor_comm (a / 2), Nat.xor_assoc, Nat.xor_self, Nat.xor_zero]
      by_cases ha : a % 2 = 1
      · have hb : b % 2 = 0 := by have := m1.1 e1; simp [ha] at this; omega
        have : B % 2 ≠ 1 := fun hB => by have := m2.1 hB; simp [e2, hb] at this
        exact .inl (by omega)
      · have hb : b % 2 = 1 := by have := m1.1 e1; simp [ha] at this; omega
        have : C % 2 ≠ 1 := fun hB => by have := m3.1 hB; simp [e2] at this; omega
        exact .inr (by omega)
theorem xor_can {a b x : Nat} (h : x ^^^ b = a ^^^ b) : x = a := by
  have := congrArg (· ^^^ b) h
  simpa [Nat.xor_assoc] using this
theorem xor_mex {A B : List Nat} {a b : Nat} (ha : IsMex A a) (hb : IsMex B b) : IsMex (A.map (· ^^^ b) ++ B.map (a ^^^ ·)) (a ^^^ b) := by
  refine ⟨fun h => ?_, fun k hk => ?_⟩
  · rcases List.mem_append.1 h with h | h
    · obtain ⟨x, hx, he⟩ := List.mem_map.1 h
      rw [xor_can he] at hx
      exact ha.1 hx
    · obtain ⟨x, hx, he⟩ := List.mem_map.1 h
      have he' : a ^^^ x = a ^^^ b := he
      rw [Nat.xor_comm a x, Nat.xor_comm a b] at he'
      rw [xor_can he'] at hx
      exact hb.1 hx
  · rcases xor_split _ k a b (Nat.le_refl _) hk with h | h
    · exact List.mem_append.2 (.inl (List.mem_map.2 ⟨_, ha.2 _ h, by show (k ^^^ b) ^^^ b = k; rw [Nat.xor_assoc, Nat.xor_self, Nat.xor_zero]⟩))
    · exact List.mem_append.2 (.inr (List.mem_map.2 ⟨_, hb.2 _ h, by show a ^^^ (k ^^^ a) = k; rw [Nat.xor_comm k a, ← Nat.xor_assoc, Nat.xor_self, Nat.zero_xor]⟩))
section
variable {σ τ : Type} {nx : σ → List σ} {rk : σ → Nat} {my : τ → List τ} {rl : τ → Nat}
def nxB (nx : σ → List σ) (my : τ → List τ) (p : σ × τ) : List (σ × τ) := (nx p.1).map (·, p.2) ++ (my p.2).map (p.1, ·)
def rkB (rk : σ → Nat) (rl : τ → Nat) (p : σ × τ) : Nat := rk p.1 + rl p.2
theorem falls_both (h : Falls nx rk) (h' : Falls my rl) : Falls (nxB nx my) (rkB rk rl) := by
  intro ⟨a, b⟩ t ht
  rcases List.mem_append.1 ht with ht | ht
  · obtain ⟨x, hx, rfl⟩ := List.mem_map.1 ht
    have := h a x hx
    show rk x + rl b < rk a + rl b
    omega
  · obtain ⟨x, hx, rfl⟩ := List.mem_map.1 ht
    have := h' b x hx
    show rk a + rl x < rk a + rl b
    omega
theorem gr_both (h : Falls nx rk) (h' : Falls my rl) : ∀ n p, rkB rk rl p ≤ n → gr (nxB nx my) (rkB rk rl) p = gr nx rk p.1 ^^^ gr my rl p.2
  | n, (a, b), hn => by
    rw [gr_eq (falls_both h h')]
    refine mex_eq ((xor_mex (gr_is h a) (gr_is h' b)).congr fun x => ?_)
    rw [show nxB nx my (a, b) = (nx a).map (·, b) ++ (my b).map (a, ·) from rfl, List.map_append, List.map_map, List.map_map, List.map_map, List.map_map]
    have e1 : (nx a).map ((fun q => q ^^^ gr my rl b) ∘ gr nx rk) = (nx a).map (gr (nxB nx my) (rkB rk rl) ∘ fun q => (q, b)) := by
      refine List.map_congr_left fun t ht => ?_
      have h1 := h a t ht
      have hn' : rk a + rl b ≤ n := hn
      match n with
      | 0 => omega
      | n + 1 => exact (gr_both h h' n (t, b) (by show rk t + rl b ≤ n; omega)).symm
    have e2 : (my b).map ((fun q => gr nx rk a ^^^ q) ∘ gr my rl) = (my b).map (gr (nxB nx my) (rkB rk rl) ∘ fun q => (a, q)) := by
      refine List.map_congr_left fun t ht => ?_
      have h1 := h' b t ht
      have hn' : rk a + rl b ≤ n := hn
      match n with
      | 0 => omega
      | n + 1 => exact (gr_both h h' n (a, t) (by show rk a + rl t ≤ n; omega)).symm
    rw [e1, e2]
end
/-- The heaps after all moves, from the greatest. -/
def nxH (m : Int) (n : Nat) : List Nat := (List.range (if m ≤ 0 then n else min n m.toNat)).map fun j => n - 1 - j
theorem falls_heap (m : Int) : Falls (nxH m) id := by
  intro s t ht
  obtain ⟨j, hj, rfl⟩ := List.mem_map.1 ht
  have hj := List.mem_range.1 hj
  show s - 1 - j < s
  split at hj <;> omega
end Go.Proofs.Ythgbdonjheengaa
