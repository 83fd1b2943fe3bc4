/- Plain facts on the symmetries of a board: no program. Plain facts on moved cells and their canonical form: no program. -/
import Derived.WalkKit
import Derived.Laws.BitsLemmas
namespace Go.Proofs.YtdoibgmmijhlfaaDoor
def okSide (a b : Int) : Prop := 1 ≤ a ∧ a ≤ 8 ∧ 1 ≤ b ∧ b ≤ 8
def cnt (a b : Int) : Int := if a = b then 8 else 4
theorem cnt_bd (a b : Int) : 4 ≤ cnt a b ∧ cnt a b ≤ 8 := by unfold cnt; split <;> omega
def okSym (a b s : Int) : Prop := 0 ≤ s ∧ s < cnt a b
def turnedL (s : Int) : Int := s / 4 * 4 + s % 2 * 2 + s / 2 % 2
theorem below8 {s : Int} (h0 : 0 ≤ s) (h1 : s < 8) : s = 0 ∨ s = 1 ∨ s = 2 ∨ s = 3 ∨ s = 4 ∨ s = 5 ∨ s = 6 ∨ s = 7 := by omega
/-- Bits 0, 1, 2 of a symmetry. -/
def b0 (s : Int) : Bool := s % 2 == 1
def b1 (s : Int) : Bool := s / 2 % 2 == 1
def b2 (s : Int) : Bool := decide (4 ≤ s)
theorem bit_tests (s : Int) (h0 : 0 ≤ s) (h1 : s < 8) : (bits .and .i64 s 4 != 0) = b2 s ∧ (bits .and .i64 s 1 != 0) = b0 s ∧ (bits .and .i64 s 2 != 0) = b1 s := by
  rcases below8 h0 h1 with rfl | rfl | rfl | rfl | rfl | rfl | rfl | rfl
  all_goals decide +kernel
/-- The square to which symmetry s of the board a by b moves the square at (x, y). -/
def toX (a s x y : Int) : Int := bif b0 s then a - 1 - (bif b2 s then y else x) else (bif b2 s then y else x)
def toY (b s x y : Int) : Int := bif b1 s then b - 1 - (bif b2 s then x else y) else (bif b2 s then x else y)
def toL (a b s q : Int) : Int := toY b s (q % a) (q / a) * a + toX a s (q % a) (q / a)
theorem sq_bd (a b q : Int) (h : okSide a b) (h0 : 0 ≤ q) (h1 : q < a * b) : 0 ≤ q % a ∧ q % a < a ∧ 0 ≤ q / a ∧ q / a < b := by
  obtain ⟨ha, ha', hb, hb'⟩ := h
  refine ⟨Int.emod_nonneg _ (by omega), Int.emod_lt_of_pos _ (by omega), Int.ediv_nonneg h0 (by omega), ?_⟩
  exact Int.ediv_lt_of_lt_mul (by omega) (by rw [Int.mul_comm]; exact h1)
theorem area_bd (a b : Int) (h : okSide a b) : 1 ≤ a * b ∧ a * b ≤ 64 := by
  obtain ⟨ha, ha', hb, hb'⟩ := h
  have h1 : a * b ≤ 8 * 8 := Int.mul_le_mul (by omega) (by omega) (by omega) (by omega)
  have h2 : 1 * 1 ≤ a * b := Int.mul_le_mul (by omega) (by omega) (by omega) (by omega)
  omega
theorem okSym_sq {a b s : Int} (hs : okSym a b s) : 0 ≤ s ∧ s < 8 ∧ (b2 s = true → a = b) := by
  obtain ⟨h0, h1⟩ := hs
  have hc := cnt_bd a b
  refine ⟨h0, by omega, fun h2 => ?_⟩
  unfold b2 at h2; unfold cnt at h1; simp at h2; split at h1 <;> omega
theorem toXY_bd {a b s x y : Int} (hs : okSym a b s) (hx0 : 0 ≤ x) (hx : x < a) (hy0 : 0 ≤ y) (hy : y < b) :
    0 ≤ toX a s x y ∧ toX a s x y < a ∧ 0 ≤ toY b s x y ∧ toY b s x y < b := by
  obtain ⟨_, _, hsq⟩ := okSym_sq hs
  unfold toX toY
  cases h2 : b2 s <;> cases b0 s <;> cases b1 s <;> simp <;> (try have := hsq h2) <;> omega
theorem coords {a x y : Int} (hx0 : 0 ≤ x) (hx : x < a) : (y * a + x) % a = x ∧ (y * a + x) / a = y := by
  constructor
  · rw [Int.add_comm, Int.add_mul_emod_self_right]; exact Int.emod_eq_of_lt hx0 hx
  · rw [Int.add_comm, Int.add_mul_ediv_right _ _ (by omega), Int.ediv_eq_zero_of_lt hx0 hx]; omega
theorem toL_coords {a b s q : Int} (h : okSide a b) (hs : okSym a b s) (h0 : 0 ≤ q) (h1 : q < a * b) :
    toL a b s q % a = toX a s (q % a) (q / a) ∧ toL a b s q / a = toY b s (q % a) (q / a) := by
  obtain ⟨x0, x1, y0, y1⟩ := sq_bd a b q h h0 h1
  obtain ⟨u0, u1, _, _⟩ := toXY_bd hs x0 x1 y0 y1
  exact coords u0 u1
theorem sq_mk {a b x y : Int} (hx0 : 0 ≤ x) (hx : x < a) (hy0 : 0 ≤ y) (hy : y < b) : 0 ≤ y * a + x ∧ y * a + x < a * b := by
  have h1 : 0 ≤ y * a := Int.mul_nonneg hy0 (by omega)
  have h2 : (y + 1) * a ≤ b * a := Int.mul_le_mul_of_nonneg_right (by omega) (by omega)
  rw [Int.add_mul, Int.mul_comm b a] at h2
  omega
theorem toL_bd {a b s q : Int} (h : okSide a b) (hs : okSym a b s) (h0 : 0 ≤ q) (h1 : q < a * b) : 0 ≤ toL a b s q ∧ toL a b s q < a * b := by
  obtain ⟨x0, x1, y0, y1⟩ := sq_bd a b q h h0 h1
  obtain ⟨u0, u1, v0, v1⟩ := toXY_bd hs x0 x1 y0 y1
  exact sq_mk u0 u1 v0 v1
theorem sq_self (a q : Int) : q / a * a + q % a = q := by
  have := Int.mul_ediv_add_emod q a
  rw [Int.mul_comm] at this; exact this
def compL (a b : Int) : Int := bits .xor .i64 a (bif b2 a then turnedL b else b)
def invL (a : Int) : Int := bif b2 a then turnedL a else a
theorem inv_bits {s : Int} (h0 : 0 ≤ s) (h1 : s < 8) : 0 ≤ invL s ∧ invL s < 8 ∧ b2 (invL s) = b2 s ∧ b0 (invL s) = (bif b2 s then b1 s else b0 s) ∧ b1 (invL s) = (bif b2 s then b0 s else b1 s) := by
  rcases below8 h0 h1 with rfl | rfl | rfl | rfl | rfl | rfl | rfl | rfl
  all_goals decide +kernel
theorem comp_bits {s t : Int} (h0 : 0 ≤ s) (h1 : s < 8) (k0 : 0 ≤ t) (k1 : t < 8) : 0 ≤ compL s t ∧ compL s t < 8 ∧ b2 (compL s t) = (b2 s ^^ b2 t) ∧
    b0 (compL s t) = (b0 s ^^ (bif b2 s then b1 t else b0 t)) ∧ b1 (compL s t) = (b1 s ^^ (bif b2 s then b0 t else b1 t)) := by
  rcases below8 h0 h1 with rfl | rfl | rfl | rfl | rfl | rfl | rfl | rfl <;> rcases below8 k0 k1 with rfl | rfl | rfl | rfl | rfl | rfl | rfl | rfl
  all_goals decide +kernel
theorem okSym_of {a b s : Int} (h0 : 0 ≤ s) (h1 : s < 8) (h : b2 s = true → a = b) : okSym a b s := by
  refine ⟨h0, ?_⟩
  unfold cnt
  by_cases e : a = b
  · rw [if_pos e]; exact h1
  · rw [if_neg e]
    have : ¬ b2 s = true := fun k => e (h k)
    simp [b2] at this
    exact this
theorem inv_ok {a b s : Int} (hs : okSym a b s) : okSym a b (invL s) := by
  obtain ⟨h0, h1, h2⟩ := okSym_sq hs
  obtain ⟨i0, i1, i2, _, _⟩ := inv_bits h0 h1
  exact okSym_of i0 i1 (fun h => h2 (by rw [← i2]; exact h))
theorem comp_ok {a b s t : Int} (hs : okSym a b s) (ht : okSym a b t) : okSym a b (compL s t) := by
  obtain ⟨h0, h1, h2⟩ := okSym_sq hs
  obtain ⟨k0, k1, k2⟩ := okSym_sq ht
  obtain ⟨i0, i1, i2, _, _⟩ := comp_bits h0 h1 k0 k1
  refine okSym_of i0 i1 (fun h => ?_)
  rw [i2] at h
  cases e : b2 s
  · rw [e] at h; exact k2 (by simpa using h)
  · exact h2 e
theorem toL_inv {a b s q : Int} (h : okSide a b) (hs : okSym a b s) (h0 : 0 ≤ q) (h1 : q < a * b) : toL a b (invL s) (toL a b s q) = q := by
  obtain ⟨c1, c2⟩ := toL_coords h hs h0 h1
  obtain ⟨x0, x1, y0, y1⟩ := sq_bd a b q h h0 h1
  obtain ⟨s0, s1, hsq⟩ := okSym_sq hs
  obtain ⟨_, _, i2, i0, i1⟩ := inv_bits s0 s1
  have hq := sq_self a q
  show toY b (invL s) (toL a b s q % a) (toL a b s q / a) * a + toX a (invL s) (toL a b s q % a) (toL a b s q / a) = q
  rw [c1, c2]
  have e1 : toX a (invL s) (toX a s (q % a) (q / a)) (toY b s (q % a) (q / a)) = q % a := by
    unfold toX toY; rw [i0, i2]
    cases h2 : b2 s <;> cases b0 s <;> cases b1 s <;> simp <;> (try have := hsq h2) <;> omega
  have e2 : toY b (invL s) (toX a s (q % a) (q / a)) (toY b s (q % a) (q / a)) = q / a := by
    unfold toX toY; rw [i1, i2]
    cases h2 : b2 s <;> cases b0 s <;> cases b1 s <;> simp <;> (try have := hsq h2) <;> omega
  rw [e1, e2]
  exact hq
theorem toL_comp {a b s t q : Int} (h : okSide a b) (hs : okSym a b s) (ht : okSym a b t) (h0 : 0 ≤ q) (h1 : q < a * b) : toL a b s (toL a b t q) = toL a b (compL s t) q := by
  obtain ⟨c1, c2⟩ := toL_coords h ht h0 h1
  obtain ⟨x0, x1, y0, y1⟩ := sq_bd a b q h h0 h1
  obtain ⟨s0, s1, hsq⟩ := okSym_sq hs
  obtain ⟨t0, t1, htq⟩ := okSym_sq ht
  obtain ⟨_, _, i2, i0, i1⟩ := comp_bits s0 s1 t0 t1
  show toY b s (toL a b t q % a) (toL a b t q / a) * a + toX a s (toL a b t q % a) (toL a b t q / a) = toY b (compL s t) (q % a) (q / a) * a + toX a (compL s t) (q % a) (q / a)
  rw [c1, c2]
  have e1 : toX a s (toX a t (q % a) (q / a)) (toY b t (q % a) (q / a)) = toX a (compL s t) (q % a) (q / a) := by
    unfold toX toY; rw [i0, i2]
    cases h2 : b2 s <;> cases k2 : b2 t <;> cases b0 s <;> cases b1 t <;> cases b0 t <;> simp <;> (try have := hsq h2) <;> (try have := htq k2) <;> omega
  have e2 : toY b s (toX a t (q % a) (q / a)) (toY b t (q % a) (q / a)) = toY b (compL s t) (q % a) (q / a) := by
    unfold toX toY; rw [i1, i2]
    cases h2 : b2 s <;> cases k2 : b2 t <;> cases b1 s <;> cases b1 t <;> cases b0 t <;> simp <;> (try have := hsq h2) <;> (try have := htq k2) <;> omega
  rw [e1, e2]
end Go.Proofs.YtdoibgmmijhlfaaDoor
namespace Go.Proofs.YtdoibgmmijhlfaaDoor
/-- After k rounds the cells zs are moved as far as square k. -/
def Moved (a b s : Int) (cells zs : List Int) (k : Nat) : Prop := zs.length = cells.length ∧ ∀ i : Nat, i < k → zs.getD (toL a b s i).toNat 0 = cells.getD i 0
theorem Moved.step {a b s : Int} {cells zs : List Int} {k j : Nat} (h : okSide a b) (hs : okSym a b s) (hl : (cells.length : Int) = a * b) (hk : k < cells.length) (hj : toL a b s k = j) (hm : Moved a b s cells zs k) :
    Moved a b s cells (zs.set j (cells.getD k 0)) (k + 1) := by
  obtain ⟨h1, h2⟩ := hm
  have hb := toL_bd (q := (k : Int)) h hs (by omega) (by omega)
  refine ⟨by simpa using h1, fun i hi => ?_⟩
  by_cases e : i = k
  · subst e
    rw [hj]
    simp only [Int.toNat_natCast]
    rw [List.getD_eq_getElem?_getD, List.getElem?_set_self (by omega)]
    rfl
  · have hne : (toL a b s i).toNat ≠ j := by
      intro he
      have hbi := toL_bd (q := (i : Int)) h hs (by omega) (by omega)
      have e2 : toL a b s i = toL a b s k := by omega
      have e3 := toL_inv (q := (i : Int)) h hs (by omega) (by omega)
      have e4 := toL_inv (q := (k : Int)) h hs (by omega) (by omega)
      rw [e2, e4] at e3
      omega
    rw [← h2 i (by omega), List.getD_eq_getElem?_getD, List.getD_eq_getElem?_getD (l := zs), List.getElem?_set_ne (by omega)]
/-- The cells after symmetry s. -/
def movedL (a b s : Int) (cells : List Int) : List Int := (List.range cells.length).map fun (j : Nat) => cells.getD (toL a b (invL s) j).toNat 0
theorem movedL_length (a b s : Int) (cells : List Int) : (movedL a b s cells).length = cells.length := by simp [movedL]
theorem movedL_getD (a b s : Int) (cells : List Int) {j : Nat} (hj : j < cells.length) : (movedL a b s cells).getD j 0 = cells.getD (toL a b (invL s) j).toNat 0 := by
  simp [movedL, hj]
theorem inv_inv {s : Int} (h0 : 0 ≤ s) (h1 : s < 8) : invL (invL s) = s := by
  rcases below8 h0 h1 with rfl | rfl | rfl | rfl | rfl | rfl | rfl | rfl
  all_goals decide +kernel
theorem inv_comp {s t : Int} (h0 : 0 ≤ s) (h1 : s < 8) (k0 : 0 ≤ t) (k1 : t < 8) : invL (compL s t) = compL (invL t) (invL s) ∧ compL (compL s (invL t)) t = s := by
  rcases below8 h0 h1 with rfl | rfl | rfl | rfl | rfl | rfl | rfl | rfl <;> rcases below8 k0 k1 with rfl | rfl | rfl | rfl | rfl | rfl | rfl | rfl
  all_goals decide +kernel
theorem toL_inv' {a b s q : Int} (h : okSide a b) (hs : okSym a b s) (h0 : 0 ≤ q) (h1 : q < a * b) : toL a b s (toL a b (invL s) q) = q := by
  obtain ⟨s0, s1, _⟩ := okSym_sq hs
  have := toL_inv h (inv_ok hs) h0 h1
  rw [inv_inv s0 s1] at this
  exact this
theorem Moved.eq {a b s : Int} {cells xs : List Int} (h : okSide a b) (hs : okSym a b s) (hl : (cells.length : Int) = a * b) (hm : Moved a b s cells xs cells.length) : xs = movedL a b s cells := by
  apply List.ext_getElem
  · rw [movedL_length, hm.1]
  · intro j h1 h2
    have hj : j < cells.length := by rw [movedL_length] at h2; exact h2
    have hb := toL_bd (q := (j : Int)) h (inv_ok hs) (by omega) (by omega)
    obtain ⟨i, hi⟩ := Int.eq_ofNat_of_zero_le hb.1
    have e := hm.2 i (by omega)
    rw [← hi, toL_inv' h hs (by omega) (by omega)] at e
    have e2 := movedL_getD a b s cells hj
    rw [hi, Int.toNat_natCast, ← e, Int.toNat_natCast] at e2
    simpa [h1, h2] using e2.symm
theorem movedL_comp {a b s t : Int} {cells : List Int} (h : okSide a b) (hs : okSym a b s) (ht : okSym a b t) (hl : (cells.length : Int) = a * b) :
    movedL a b s (movedL a b t cells) = movedL a b (compL s t) cells := by
  obtain ⟨s0, s1, _⟩ := okSym_sq hs
  obtain ⟨t0, t1, _⟩ := okSym_sq ht
  apply List.ext_getElem
  · simp [movedL_length]
  · intro j h1 h2
    have hj : j < cells.length := by simpa [movedL_length] using h2
    have hj' : j < (movedL a b t cells).length := by rw [movedL_length]; exact hj
    have hb := toL_bd (q := (j : Int)) h (inv_ok hs) (by omega) (by omega)
    obtain ⟨i, hi⟩ := Int.eq_ofNat_of_zero_le hb.1
    have hij : i < cells.length := by omega
    have e1 := movedL_getD a b s (movedL a b t cells) hj'
    rw [hi, Int.toNat_natCast, movedL_getD a b t cells hij] at e1
    have e2 := movedL_getD a b (compL s t) cells hj
    rw [(inv_comp s0 s1 t0 t1).1, ← toL_comp h (inv_ok ht) (inv_ok hs) (by omega) (by omega), hi, ← e1] at e2
    simpa [h1, h2] using e2.symm
theorem sym0 {a b : Int} : okSym a b 0 := ⟨by omega, by have := cnt_bd a b; omega⟩
theorem movedL_zero {a b : Int} {cells : List Int} : movedL a b 0 cells = cells := by
  apply List.ext_getElem
  · rw [movedL_length]
  · intro j h1 h2
    have e := movedL_getD a b 0 cells h2
    have t : toL a b (invL 0) j = j := by
      have i0 : invL 0 = 0 := rfl
      rw [i0]
      show toY b 0 ((j : Int) % a) ((j : Int) / a) * a + toX a 0 ((j : Int) % a) ((j : Int) / a) = j
      have := sq_self a j
      simpa [toX, toY, b0, b1, b2] using this
    rw [t, Int.toNat_natCast] at e
    simpa [h1, h2] using e
/-- What Canon returns: the first of the least images. -/
def CanonSpec (a b : Int) (cells xs : List Int) (at_ : Int) : Prop :=
  okSym a b at_ ∧ xs = movedL a b at_ cells ∧ (∀ s, okSym a b s → ¬ movedL a b s cells < xs) ∧ (∀ s, 0 ≤ s → s < at_ → xs < movedL a b s cells)
/-- The same behind k rounds. -/
def CanonPart (a b : Int) (cells xs : List Int) (at_ : Int) (k : Nat) : Prop :=
  okSym a b at_ ∧ xs = movedL a b at_ cells ∧ (∀ s : Int, 0 ≤ s → s < k → ¬ movedL a b s cells < xs) ∧ (∀ s, 0 ≤ s → s < at_ → xs < movedL a b s cells)
theorem lt_of_lt_of_not {x y z : List Int} (h : x < y) (h' : ¬ z < y) : x < z := by
  rcases Classical.em (x < z) with h1 | h1
  · exact h1
  · exfalso
    have : z ≤ x := List.not_lt.1 h1
    exact h' (List.lt_of_le_of_lt this h)
theorem canonPart_zero {a b : Int} {cells : List Int} : CanonPart a b cells cells 0 0 :=
  ⟨⟨by omega, by have := cnt_bd a b; omega⟩, by rw [movedL_zero], fun s h1 h2 => by omega, fun s h1 h2 => by omega⟩
theorem canonPart_less {a b at_ : Int} {cells xs : List Int} {k : Nat} (hk : (k : Int) < cnt a b) (h : CanonPart a b cells xs at_ k) (hl : movedL a b k cells < xs) : CanonPart a b cells (movedL a b k cells) k (k + 1) := by
  obtain ⟨h1, h2, h3, h4⟩ := h
  refine ⟨⟨by omega, hk⟩, rfl, fun s s0 s1 => ?_, fun s s0 s1 => ?_⟩
  · by_cases e : s = k
    · subst e; exact List.lt_irrefl _
    · intro hlt
      exact h3 s s0 (by omega) (List.lt_trans hlt hl)
  · exact lt_of_lt_of_not hl (h3 s s0 s1)
theorem canonPart_not {a b at_ : Int} {cells xs : List Int} {k : Nat} (h : CanonPart a b cells xs at_ k) (hl : ¬ movedL a b k cells < xs) : CanonPart a b cells xs at_ (k + 1) := by
  obtain ⟨h1, h2, h3, h4⟩ := h
  refine ⟨h1, h2, fun s s0 s1 => ?_, h4⟩
  by_cases e : s = k
  · subst e; exact hl
  · exact h3 s s0 (by omega)
theorem canonPart_all {a b at_ : Int} {cells xs : List Int} {k : Nat} (hk : (k : Int) = cnt a b) (h : CanonPart a b cells xs at_ k) : CanonSpec a b cells xs at_ :=
  ⟨h.1, h.2.1, fun s hs => h.2.2.1 s hs.1 (by rw [hk]; exact hs.2), h.2.2.2⟩
theorem canon_try {xs : List Int} {at_ : Int} (h : CanonSpec 2 1 [6, 5] xs at_) : xs = [5, 6] ∧ at_ = 1 := by
  obtain ⟨⟨h0, h1⟩, h2, h3, h4⟩ := h
  have c : cnt 2 1 = 4 := by decide
  rw [c] at h1
  rcases (by omega : at_ = 0 ∨ at_ = 1 ∨ at_ = 2 ∨ at_ = 3) with rfl | rfl | rfl | rfl
  · exfalso
    have := h3 1 ⟨by omega, by rw [c]; omega⟩
    rw [h2] at this
    revert this
    decide +kernel
  · exact ⟨by rw [h2]; decide +kernel, rfl⟩
  · exfalso
    have := h4 1 (by omega) (by omega)
    rw [h2] at this
    revert this
    decide +kernel
  · exfalso
    have := h4 1 (by omega) (by omega)
    rw [h2] at this
    revert this
    decide +kernel
theorem lex_eq {x y : List Int} (h1 : ¬ x < y) (h2 : ¬ y < x) : x = y := List.le_antisymm (List.not_lt.1 h2) (List.not_lt.1 h1)
theorem canon_turned {a b s at1 at2 : Int} {cells x y : List Int} (h : okSide a b) (hs : okSym a b s) (hl : (cells.length : Int) = a * b)
    (h1 : CanonSpec a b cells x at1) (h2 : CanonSpec a b (movedL a b s cells) y at2) : x = y := by
  obtain ⟨p1, q1, r1, _⟩ := h1
  obtain ⟨p2, q2, r2, _⟩ := h2
  obtain ⟨s0, s1, _⟩ := okSym_sq hs
  obtain ⟨t0, t1, _⟩ := okSym_sq p1
  apply lex_eq
  · have e : x = movedL a b (compL at1 (invL s)) (movedL a b s cells) := by
      rw [movedL_comp h (comp_ok p1 (inv_ok hs)) hs hl, (inv_comp t0 t1 s0 s1).2]; exact q1
    rw [e]
    exact r2 _ (comp_ok p1 (inv_ok hs))
  · have e : y = movedL a b (compL at2 s) cells := by rw [q2, movedL_comp h p2 hs hl]
    rw [e]
    exact r1 _ (comp_ok p2 hs)
theorem canon_again {a b at1 at2 : Int} {cells x y : List Int} (h : okSide a b) (hl : (cells.length : Int) = a * b)
    (h1 : CanonSpec a b cells x at1) (h2 : CanonSpec a b x y at2) : y = x ∧ at2 = 0 := by
  have e := canon_turned h h1.1 hl h1 (by rw [← h1.2.1]; exact h2)
  subst e
  refine ⟨rfl, ?_⟩
  rcases Int.lt_or_le 0 at2 with h0 | h0
  · have := h2.2.2.2 0 (by omega) h0
    rw [movedL_zero] at this
    exact absurd this (List.lt_irrefl _)
  · have := h2.1.1; omega
/-- The first k cells are alike, cell k decides. -/
theorem lex_less {x y : List Int} {k : Nat} (hx : k < x.length) (hy : k < y.length) (hp : ∀ i, i < k → x.getD i 0 = y.getD i 0) (h : x.getD k 0 < y.getD k 0) : x < y := by
  induction k generalizing x y with
  | zero =>
    match x, y, hx, hy with
    | a :: x, b :: y, _, _ => exact List.Lex.rel (by simpa using h)
  | succ k ih =>
    match x, y, hx, hy with
    | a :: x, b :: y, hx, hy =>
      have e : a = b := by simpa using hp 0 (by omega)
      subst e
      refine List.Lex.cons (ih (by simpa using hx) (by simpa using hy) (fun i hi => ?_) (by simpa using h))
      simpa using hp (i + 1) (by omega)
theorem lex_more {x y : List Int} {k : Nat} (hx : k < x.length) (hy : k < y.length) (hp : ∀ i, i < k → x.getD i 0 = y.getD i 0) (h : y.getD k 0 < x.getD k 0) : ¬ x < y := by
  have := lex_less hy hx (fun i hi => (hp i hi).symm) h
  exact fun h' => List.lt_irrefl _ (List.lt_trans this h')
theorem all_alike {x y : List Int} (hl : x.length = y.length) (hp : ∀ i, i < x.length → x.getD i 0 = y.getD i 0) : x = y := by
  apply List.ext_getElem hl
  intro i h1 h2
  have := hp i h1
  simpa [h1, h2] using this
end Go.Proofs.YtdoibgmmijhlfaaDoor
