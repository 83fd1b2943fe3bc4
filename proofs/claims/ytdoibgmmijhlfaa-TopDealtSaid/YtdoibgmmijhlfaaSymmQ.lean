/- Plain facts on moved cells and their canonical form: no program. -/
import Derived.Test.YtdoibgmmijhlfaaSymmP
namespace Go.Proofs.Ytdoibgmmijhlfaa
/-- After k rounds the cells zs are moved as far as square k. -/
def Moved (a b s : Int) (cells zs : List Int) (k : Nat) : Prop := zs.length = cells.length ∧ ∀ i : Nat, i < k → zs.getD (toL a b s i).toNat 0 = cells.getD i 0
theorem Moved.step {a b s : Int} {cells zs : List Int} {k j : Nat} (h : okSide a b) (hs : okSym a b s) (hl : (cells.length : Int) = a * b) (hk : k < cells.length) (hj : toL a b s k = j) (hm : Moved a b s cells zs k) :
    Moved a b s cells (zs.set j (cells.getD k 0)) (k + 1) := by
  obtain ⟨h1, h2⟩ := hm
  have hb := toL_bd (q := (k : Int)) h hs (by omega) (by omega)
  refine ⟨by simpa using h1, fun i hi => ?_⟩
  by_cases e : i = k
  · subst e
    rw [hj]
    simp only [Int.toNat_natCast]
    rw [List.getD_eq_getElem?_getD, List.getElem?_set_self (by omega)]
    rfl
  · have hne : (toL a b s i).toNat ≠ j := by
      intro he
      have hbi := toL_bd (q := (i : Int)) h hs (by omega) (by omega)
      have e2 : toL a b s i = toL a b s k := by omega
      have e3 := toL_inv (q := (i : Int)) h hs (by omega) (by omega)
      have e4 := toL_inv (q := (k : Int)) h hs (by omega) (by omega)
      rw [e2, e4] at e3
      omega
    rw [← h2 i (by omega), List.getD_eq_getElem?_getD, List.getD_eq_getElem?_getD (l := zs), List.getElem?_set_ne (by omega)]
/-- The cells after symmetry s. -/
def movedL (a b s : Int) (cells : List Int) : List Int := (List.range cells.length).map fun (j : Nat) => cells.getD (toL a b (invL s) j).toNat 0
theorem movedL_length (a b s : Int) (cells : List Int) : (movedL a b s cells).length = cells.length := by simp [movedL]
theorem movedL_getD (a b s : Int) (cells : List Int) {j : Nat} (hj : j < cells.length) : (movedL a b s cells).getD j 0 = cells.getD (toL a b (invL s) j).toNat 0 := by
  simp [movedL, hj]
theorem inv_inv {s : Int} (h0 : 0 ≤ s) (h1 : s < 8) : invL (invL s) = s := by
  rcases below8 h0 h1 with rfl | rfl | rfl | rfl | rfl | rfl | rfl | rfl
  all_goals decide +kernel
theorem inv_comp {s t : Int} (h0 : 0 ≤ s) (h1 : s < 8) (k0 : 0 ≤ t) (k1 : t < 8) : invL (compL s t) = compL (invL t) (invL s) ∧ compL (compL s (invL t)) t = s := by
  rcases below8 h0 h1 with rfl | rfl | rfl | rfl | rfl | rfl | rfl | rfl <;> rcases below8 k0 k1 with rfl | rfl | rfl | rfl | rfl | rfl | rfl | rfl
  all_goals decide +kernel
theorem toL_inv' {a b s q : Int} (h : okSide a b) (hs : okSym a b s) (h0 : 0 ≤ q) (h1 : q < a * b) : toL a b s (toL a b (invL s) q) = q := by
  obtain ⟨s0, s1, _⟩ := okSym_sq hs
  have := toL_inv h (inv_ok hs) h0 h1
  rw [inv_inv s0 s1] at this
  exact this
theorem Moved.eq {a b s : Int} {cells xs : List Int} (h : okSide a b) (hs : okSym a b s) (hl : (cells.length : Int) = a * b) (hm : Moved a b s cells xs cells.length) : xs = movedL a b s cells := by
  apply List.ext_getElem
  · rw [movedL_length, hm.1]
  · intro j h1 h2
    have hj : j < cells.length := by rw [movedL_length] at h2; exact h2
    have hb := toL_bd (q := (j : Int)) h (inv_ok hs) (by omega) (by omega)
    obtain ⟨i, hi⟩ := Int.eq_ofNat_of_zero_le hb.1
    have e := hm.2 i (by omega)
    rw [← hi, toL_inv' h hs (by omega) (by omega)] at e
    have e2 := movedL_getD a b s cells hj
    rw [hi, Int.toNat_natCast, ← e, Int.toNat_natCast] at e2
    simpa [h1, h2] using e2.symm
theorem movedL_comp {a b s t : Int} {cells : List Int} (h : okSide a b) (hs : okSym a b s) (ht : okSym a b t) (hl : (cells.length : Int) = a * b) :
    movedL a b s (movedL a b t cells) = movedL a b (compL s t) cells := by
  obtain ⟨s0, s1, _⟩ := okSym_sq hs
  obtain ⟨t0, t1, _⟩ := okSym_sq ht
  apply List.ext_getElem
  · simp [movedL_length]
  · intro j h1 h2
    have hj : j < cells.length := by simpa [movedL_length] using h2
    have hj' : j < (movedL a b t cells).length := by rw [movedL_length]; exact hj
    have hb := toL_bd (q := (j : Int)) h (inv_ok hs) (by omega) (by omega)
    obtain ⟨i, hi⟩ := Int.eq_ofNat_of_zero_le hb.1
    have hij : i < cells.length := by omega
    have e1 := movedL_getD a b s (movedL a b t cells) hj'
    rw [hi, Int.toNat_natCast, movedL_getD a b t cells hij] at e1
    have e2 := movedL_getD a b (compL s t) cells hj
    rw [(inv_comp s0 s1 t0 t1).1, ← toL_comp h (inv_ok ht) (inv_ok hs) (by omega) (by omega), hi, ← e1] at e2
    simpa [h1, h2] using e2.symm
theorem sym0 {a b : Int} : okSym a b 0 := ⟨by omega, by have := cnt_bd a b; omega⟩
theorem movedL_zero {a b : Int} {cells : List Int} : movedL a b 0 cells = cells := by
  apply List.ext_getElem
  · rw [movedL_length]
  · intro j h1 h2
    have e := movedL_getD a b 0 cells h2
    have t : toL a b (invL 0) j = j := by
      have i0 : invL 0 = 0 := rfl
      rw [i0]
      show toY b 0 ((j : Int) % a) ((j : Int) / a) * a + toX a 0 ((j : Int) % a) ((j : Int) / a) = j
      have := sq_self a j
      simpa [toX, toY, b0, b1, b2] using this
    rw [t, Int.toNat_natCast] at e
    simpa [h1, h2] using e
/-- What Canon returns: the first of the least images. -/
def CanonSpec (a b : Int) (cells xs : List Int) (at_ : Int) : Prop :=
  okSym a b at_ ∧ xs = movedL a b at_ cells ∧ (∀ s, okSym a b s → ¬ movedL a b s cells < xs) ∧ (∀ s, 0 ≤ s → s < at_ → xs < movedL a b s cells)
/-- The same behind k rounds. -/
def CanonPart (a b : Int) (cells xs : List Int) (at_ : Int) (k : Nat) : Prop :=
  okSym a b at_ ∧ xs = movedL a b at_ cells ∧ (∀ s : Int, 0 ≤ s → s < k → ¬ movedL a b s cells < xs) ∧ (∀ s, 0 ≤ s → s < at_ → xs < movedL a b s cells)
theorem lt_of_lt_of_not {x y z : List Int} (h : x < y) (h' : ¬ z < y) : x < z := by
  rcases Classical.em (x < z) with h1 | h1
  · exact h1
  · exfalso
    have : z ≤ x := List.not_lt.1 h1
    exact h' (List.lt_of_le_of_lt this h)
theorem canonPart_zero {a b : Int} {cells : List Int} : CanonPart a b cells cells 0 0 :=
  ⟨⟨by omega, by have := cnt_bd a b; omega⟩, by rw [movedL_zero], fun s h1 h2 => by omega, fun s h1 h2 => by omega⟩
theorem canonPart_less {a b at_ : Int} {cells xs : List Int} {k : Nat} (hk : (k : Int) < cnt a b) (h : CanonPart a b cells xs at_ k) (hl : movedL a b k cells < xs) : CanonPart a b cells (movedL a b k cells) k (k + 1) := by
  obtain ⟨h1, h2, h3, h4⟩ := h
  refine ⟨⟨by omega, hk⟩, rfl, fun s s0 s1 => ?_, fun s s0 s1 => ?_⟩
  · by_cases e : s = k
    · subst e; exact List.lt_irrefl _
    · intro hlt
      exact h3 s s0 (by omega) (List.lt_trans hlt hl)
  · exact lt_of_lt_of_not hl (h3 s s0 s1)
theorem canonPart_not {a b at_ : Int} {cells xs : List Int} {k : Nat} (h : CanonPart a b cells xs at_ k) (hl : ¬ movedL a b k cells < xs) : CanonPart a b cells xs at_ (k + 1) := by
  obtain ⟨h1, h2, h3, h4⟩ := h
  refine ⟨h1, h2, fun s s0 s1 => ?_, h4⟩
  by_cases e : s = k
  · subst e; exact hl
  · exact h3 s s0 (by omega)
theorem canonPart_all {a b at_ : Int} {cells xs : List Int} {k : Nat} (hk : (k : Int) = cnt a b) (h : CanonPart a b cells xs at_ k) : CanonSpec a b cells xs at_ :=
  ⟨h.1, h.2.1, fun s hs => h.2.2.1 s hs.1 (by rw [hk]; exact hs.2), h.2.2.2⟩
theorem canon_try {xs : List Int} {at_ : Int} (h : CanonSpec 2 1 [6, 5] xs at_) : xs = [5, 6] ∧ at_ = 1 := by
  obtain ⟨⟨h0, h1⟩, h2, h3, h4⟩ := h
  have c : cnt 2 1 = 4 := by decide
  rw [c] at h1
  rcases (by omega : at_ = 0 ∨ at_ = 1 ∨ at_ = 2 ∨ at_ = 3) with rfl | rfl | rfl | rfl
  · exfalso
    have := h3 1 ⟨by omega, by rw [c]; omega⟩
    rw [h2] at this
    revert this
    decide +kernel
  · exact ⟨by rw [h2]; decide +kernel, rfl⟩
  · exfalso
    have := h4 1 (by omega) (by omega)
    rw [h2] at this
    revert this
    decide +kernel
  · exfalso
    have := h4 1 (by omega) (by omega)
    rw [h2] at this
    revert this
    decide +kernel
theorem lex_eq {x y : List Int} (h1 : ¬ x < y) (h2 : ¬ y < x) : x = y := List.le_antisymm (List.not_lt.1 h2) (List.not_lt.1 h1)
theorem canon_turned {a b s at1 at2 : Int} {cells x y : List Int} (h : okSide a b) (hs : okSym a b s) (hl : (cells.length : Int) = a * b)
    (h1 : CanonSpec a b cells x at1) (h2 : CanonSpec a b (movedL a b s cells) y at2) : x = y := by
  obtain ⟨p1, q1, r1, _⟩ := h1
  obtain ⟨p2, q2, r2, _⟩ := h2
  obtain ⟨s0, s1, _⟩ := okSym_sq hs
  obtain ⟨t0, t1, _⟩ := okSym_sq p1
  apply lex_eq
  · have e : x = movedL a b (compL at1 (invL s)) (movedL a b s cells) := by
      rw [movedL_comp h (comp_ok p1 (inv_ok hs)) hs hl, (inv_comp t0 t1 s0 s1).2]; exact q1
    rw [e]
    exact r2 _ (comp_ok p1 (inv_ok hs))
  · have e : y = movedL a b (compL at2 s) cells := by rw [q2, movedL_comp h p2 hs hl]
    rw [e]
    exact r1 _ (comp_ok p2 hs)
theorem canon_again {a b at1 at2 : Int} {cells x y : List Int} (h : okSide a b) (hl : (cells.length : Int) = a * b)
    (h1 : CanonSpec a b cells x at1) (h2 : CanonSpec a b x y at2) : y = x ∧ at2 = 0 := by
  have e := canon_turned h h1.1 hl h1 (by rw [← h1.2.1]; exact h2)
  subst e
  refine ⟨rfl, ?_⟩
  rcases Int.lt_or_le 0 at2 with h0 | h0
  · have := h2.2.2.2 0 (by omega) h0
    rw [movedL_zero] at this
    exact absurd this (List.lt_irrefl _)
  · have := h2.1.1; omega
/-- The first k cells are alike, cell k decides. -/
theorem lex_less {x y : List Int} {k : Nat} (hx : k < x.length) (hy : k < y.length) (hp : ∀ i, i < k → x.getD i 0 = y.getD i 0) (h : x.getD k 0 < y.getD k 0) : x < y := by
  induction k generalizing x y with
  | zero =>
    match x, y, hx, hy with
    | a :: x, b :: y, _, _ => exact List.Lex.rel (by simpa using h)
  | succ k ih =>
    match x, y, hx, hy with
    | a :: x, b :: y, hx, hy =>
      have e : a = b := by simpa using hp 0 (by omega)
      subst e
      refine List.Lex.cons (ih (by simpa using hx) (by simpa using hy) (fun i hi => ?_) (by simpa using h))
      simpa using hp (i + 1) (by omega)
theorem lex_more {x y : List Int} {k : Nat} (hx : k < x.length) (hy : k < y.length) (hp : ∀ i, i < k → x.getD i 0 = y.getD i 0) (h : y.getD k 0 < x.getD k 0) : ¬ x < y := by
  have := lex_less hy hx (fun i hi => (hp i hi).symm) h
  exact fun h' => List.lt_irrefl _ (List.lt_trans this h')
theorem all_alike {x y : List Int} (hl : x.length = y.length) (hp : ∀ i, i < x.length → x.getD i 0 = y.getD i 0) : x = y := by
  apply List.ext_getElem hl
  intro i h1 h2
  have := hp i h1
  simpa [h1, h2] using this
end Go.Proofs.Ytdoibgmmijhlfaa
