/- Plain facts on the symmetries of a board: no program. -/
import Derived.WalkKit
import Derived.Laws.BitsLemmas
namespace Go.Proofs.Ytdoibgmmijhlfaa
def okSide (a b : Int) : Prop := 1 ≤ a ∧ a ≤ 8 ∧ 1 ≤ b ∧ b ≤ 8
def cnt (a b : Int) : Int := if a = b then 8 else 4
theorem cnt_bd (a b : Int) : 4 ≤ cnt a b ∧ cnt a b ≤ 8 := by unfold cnt; split <;> omega
def okSym (a b s : Int) : Prop := 0 ≤ s ∧ s < cnt a b
def turnedL (s : Int) : Int := s / 4 * 4 + s % 2 * 2 + s / 2 % 2
theorem below8 {s : Int} (h0 : 0 ≤ s) (h1 : s < 8) : s = 0 ∨ s = 1 ∨ s = 2 ∨ s = 3 ∨ s = 4 ∨ s = 5 ∨ s = 6 ∨ s = 7 := by omega
/-- Bits 0, 1, 2 of a symmetry. -/
def b0 (s : Int) : Bool := s % 2 == 1
def b1 (s : Int) : Bool := s / 2 % 2 == 1
def b2 (s : Int) : Bool := decide (4 ≤ s)
theorem bit_tests (s : Int) (h0 : 0 ≤ s) (h1 : s < 8) : (bits .and .i64 s 4 != 0) = b2 s ∧ (bits .and .i64 s 1 != 0) = b0 s ∧ (bits .and .i64 s 2 != 0) = b1 s := by
  rcases below8 h0 h1 with rfl | rfl | rfl | rfl | rfl | rfl | rfl | rfl
  all_goals decide +kernel
/-- The square to which symmetry s of the board a by b moves the square at (x, y). -/
def toX (a s x y : Int) : Int := bif b0 s then a - 1 - (bif b2 s then y else x) else (bif b2 s then y else x)
def toY (b s x y : Int) : Int := bif b1 s then b - 1 - (bif b2 s then x else y) else (bif b2 s then x else y)
def toL (a b s q : Int) : Int := toY b s (q % a) (q / a) * a + toX a s (q % a) (q / a)
theorem sq_bd (a b q : Int) (h : okSide a b) (h0 : 0 ≤ q) (h1 : q < a * b) : 0 ≤ q % a ∧ q % a < a ∧ 0 ≤ q / a ∧ q / a < b := by
  obtain ⟨ha, ha', hb, hb'⟩ := h
  refine ⟨Int.emod_nonneg _ (by omega), Int.emod_lt_of_pos _ (by omega), Int.ediv_nonneg h0 (by omega), ?_⟩
  exact Int.ediv_lt_of_lt_mul (by omega) (by rw [Int.mul_comm]; exact h1)
theorem area_bd (a b : Int) (h : okSide a b) : 1 ≤ a * b ∧ a * b ≤ 64 := by
  obtain ⟨ha, ha', hb, hb'⟩ := h
  have h1 : a * b ≤ 8 * 8 := Int.mul_le_mul (by omega) (by omega) (by omega) (by omega)
  have h2 : 1 * 1 ≤ a * b := Int.mul_le_mul (by omega) (by omega) (by omega) (by omega)
  omega
theorem okSym_sq {a b s : Int} (hs : okSym a b s) : 0 ≤ s ∧ s < 8 ∧ (b2 s = true → a = b) := by
  obtain ⟨h0, h1⟩ := hs
  have hc := cnt_bd a b
  refine ⟨h0, by omega, fun h2 => ?_⟩
  unfold b2 at h2; unfold cnt at h1; simp at h2; split at h1 <;> omega
theorem toXY_bd {a b s x y : Int} (hs : okSym a b s) (hx0 : 0 ≤ x) (hx : x < a) (hy0 : 0 ≤ y) (hy : y < b) :
    0 ≤ toX a s x y ∧ toX a s x y < a ∧ 0 ≤ toY b s x y ∧ toY b s x y < b := by
  obtain ⟨_, _, hsq⟩ := okSym_sq hs
  unfold toX toY
  cases h2 : b2 s <;> cases b0 s <;> cases b1 s <;> simp <;> (try have := hsq h2) <;> omega
theorem coords {a x y : Int} (hx0 : 0 ≤ x) (hx : x < a) : (y * a + x) % a = x ∧ (y * a + x) / a = y := by
  constructor
  · rw [Int.add_comm, Int.add_mul_emod_self_right]; exact Int.emod_eq_of_lt hx0 hx
  · rw [Int.add_comm, Int.add_mul_ediv_right _ _ (by omega), Int.ediv_eq_zero_of_lt hx0 hx]; omega
theorem toL_coords {a b s q : Int} (h : okSide a b) (hs : okSym a b s) (h0 : 0 ≤ q) (h1 : q < a * b) :
    toL a b s q % a = toX a s (q % a) (q / a) ∧ toL a b s q / a = toY b s (q % a) (q / a) := by
  obtain ⟨x0, x1, y0, y1⟩ := sq_bd a b q h h0 h1
  obtain ⟨u0, u1, _, _⟩ := toXY_bd hs x0 x1 y0 y1
  exact coords u0 u1
theorem sq_mk {a b x y : Int} (hx0 : 0 ≤ x) (hx : x < a) (hy0 : 0 ≤ y) (hy : y < b) : 0 ≤ y * a + x ∧ y * a + x < a * b := by
  have h1 : 0 ≤ y * a := Int.mul_nonneg hy0 (by omega)
  have h2 : (y + 1) * a ≤ b * a := Int.mul_le_mul_of_nonneg_right (by omega) (by omega)
  rw [Int.add_mul, Int.mul_comm b a] at h2
  omega
theorem toL_bd {a b s q : Int} (h : okSide a b) (hs : okSym a b s) (h0 : 0 ≤ q) (h1 : q < a * b) : 0 ≤ toL a b s q ∧ toL a b s q < a * b := by
  obtain ⟨x0, x1, y0, y1⟩ := sq_bd a b q h h0 h1
  obtain ⟨u0, u1, v0, v1⟩ := toXY_bd hs x0 x1 y0 y1
  exact sq_mk u0 u1 v0 v1
theorem sq_self (a q : Int) : q / a * a + q % a = q := by
  have := Int.mul_ediv_add_emod q a
  rw [Int.mul_comm] at this; exact this
def compL (a b : Int) : Int := bits .xor .i64 a (bif b2 a then turnedL b else b)
def invL (a : Int) : Int := bif b2 a then turnedL a else a
theorem inv_bits {s : Int} (h0 : 0 ≤ s) (h1 : s < 8) : 0 ≤ invL s ∧ invL s < 8 ∧ b2 (invL s) = b2 s ∧ b0 (invL s) = (bif b2 s then b1 s else b0 s) ∧ b1 (invL s) = (bif b2 s then b0 s else b1 s) := by
  rcases below8 h0 h1 with rfl | rfl | rfl | rfl | rfl | rfl | rfl | rfl
  all_goals decide +kernel
theorem comp_bits {s t : Int} (h0 : 0 ≤ s) (h1 : s < 8) (k0 : 0 ≤ t) (k1 : t < 8) : 0 ≤ compL s t ∧ compL s t < 8 ∧ b2 (compL s t) = (b2 s ^^ b2 t) ∧
    b0 (compL s t) = (b0 s ^^ (bif b2 s then b1 t else b0 t)) ∧ b1 (compL s t) = (b1 s ^^ (bif b2 s then b0 t else b1 t)) := by
  rcases below8 h0 h1 with rfl | rfl | rfl | rfl | rfl | rfl | rfl | rfl <;> rcases below8 k0 k1 with rfl | rfl | rfl | rfl | rfl | rfl | rfl | rfl
  all_goals decide +kernel
theorem okSym_of {a b s : Int} (h0 : 0 ≤ s) (h1 : s < 8) (h : b2 s = true → a = b) : okSym a b s := by
  refine ⟨h0, ?_⟩
  unfold cnt
  by_cases e : a = b
  · rw [if_pos e]; exact h1
  · rw [if_neg e]
    have : ¬ b2 s = true := fun k => e (h k)
    simp [b2] at this
    exact this
theorem inv_ok {a b s : Int} (hs : okSym a b s) : okSym a b (invL s) := by
  obtain ⟨h0, h1, h2⟩ := okSym_sq hs
  obtain ⟨i0, i1, i2, _, _⟩ := inv_bits h0 h1
  exact okSym_of i0 i1 (fun h => h2 (by rw [← i2]; exact h))
theorem comp_ok {a b s t : Int} (hs : okSym a b s) (ht : okSym a b t) : okSym a b (compL s t) := by
  obtain ⟨h0, h1, h2⟩ := okSym_sq hs
  obtain ⟨k0, k1, k2⟩ := okSym_sq ht
  obtain ⟨i0, i1, i2, _, _⟩ := comp_bits h0 h1 k0 k1
  refine okSym_of i0 i1 (fun h => ?_)
  rw [i2] at h
  cases e : b2 s
  · rw [e] at h; exact k2 (by simpa using h)
  · exact h2 e
theorem toL_inv {a b s q : Int} (h : okSide a b) (hs : okSym a b s) (h0 : 0 ≤ q) (h1 : q < a * b) : toL a b (invL s) (toL a b s q) = q := by
  obtain ⟨c1, c2⟩ := toL_coords h hs h0 h1
  obtain ⟨x0, x1, y0, y1⟩ := sq_bd a b q h h0 h1
  obtain ⟨s0, s1, hsq⟩ := okSym_sq hs
  obtain ⟨_, _, i2, i0, i1⟩ := inv_bits s0 s1
  have hq := sq_self a q
  show toY b (invL s) (toL a b s q % a) (toL a b s q / a) * a + toX a (invL s) (toL a b s q % a) (toL a b s q / a) = q
  rw [c1, c2]
  have e1 : toX a (invL s) (toX a s (q % a) (q / a)) (toY b s (q % a) (q / a)) = q % a := by
    unfold toX toY; rw [i0, i2]
    cases h2 : b2 s <;> cases b0 s <;> cases b1 s <;> simp <;> (try have := hsq h2) <;> omega
  have e2 : toY b (invL s) (toX a s (q % a) (q / a)) (toY b s (q % a) (q / a)) = q / a := by
    unfold toX toY; rw [i1, i2]
    cases h2 : b2 s <;> cases b0 s <;> cases b1 s <;> simp <;> (try have := hsq h2) <;> omega
  rw [e1, e2]
  exact hq
theorem toL_comp {a b s t q : Int} (h : okSide a b) (hs : okSym a b s) (ht : okSym a b t) (h0 : 0 ≤ q) (h1 : q < a * b) : toL a b s (toL a b t q) = toL a b (compL s t) q := by
  obtain ⟨c1, c2⟩ := toL_coords h ht h0 h1
  obtain ⟨x0, x1, y0, y1⟩ := sq_bd a b q h h0 h1
  obtain ⟨s0, s1, hsq⟩ := okSym_sq hs
  obtain ⟨t0, t1, htq⟩ := okSym_sq ht
  obtain ⟨_, _, i2, i0, i1⟩ := comp_bits s0 s1 t0 t1
  show toY b s (toL a b t q % a) (toL a b t q / a) * a + toX a s (toL a b t q % a) (toL a b t q / a) = toY b (compL s t) (q % a) (q / a) * a + toX a (compL s t) (q % a) (q / a)
  rw [c1, c2]
  have e1 : toX a s (toX a t (q % a) (q / a)) (toY b t (q % a) (q / a)) = toX a (compL s t) (q % a) (q / a) := by
    unfold toX toY; rw [i0, i2]
    cases h2 : b2 s <;> cases k2 : b2 t <;> cases b0 s <;> cases b1 t <;> cases b0 t <;> simp <;> (try have := hsq h2) <;> (try have := htq k2) <;> omega
  have e2 : toY b s (toX a t (q % a) (q / a)) (toY b t (q % a) (q / a)) = toY b (compL s t) (q % a) (q / a) := by
    unfold toX toY; rw [i1, i2]
    cases h2 : b2 s <;> cases k2 : b2 t <;> cases b1 s <;> cases b1 t <;> cases b0 t <;> simp <;> (try have := hsq h2) <;> (try have := htq k2) <;> omega
  rw [e1, e2]
end Go.Proofs.Ytdoibgmmijhlfaa
