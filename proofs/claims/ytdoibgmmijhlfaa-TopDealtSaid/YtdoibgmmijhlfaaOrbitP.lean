/- The squares of an orbit, as plain data. No program. -/
import Derived.Test.YtdoibgmmijhlfaaSymmP
import Derived.Test.YtdoibgmmijhlfaaSymmQ
namespace Go.Proofs.Ytdoibgmmijhlfaa
set_option linter.unusedVariables false
/-- A list of integers, in order, each once. -/
def insI (x : Int) : List Int → List Int
  | [] => [x]
  | y :: l => if x < y then x :: y :: l else if x = y then y :: l else y :: insI x l
theorem mem_insI {x z : Int} : ∀ {l : List Int}, z ∈ insI x l ↔ z = x ∨ z ∈ l
  | [] => by simp [insI]
  | y :: l => by
    unfold insI
    split
    · simp
    · split
      · rename_i h
        subst h
        constructor
        · exact .inr
        · rintro (rfl | h)
          · simp
          · exact h
      · rw [List.mem_cons, mem_insI, List.mem_cons]
        constructor
        · rintro (h | h | h) <;> simp [h]
        · rintro (h | h | h) <;> simp [h]
theorem insI_lt {x : Int} : ∀ {l : List Int}, l.Pairwise (· < ·) → (insI x l).Pairwise (· < ·)
  | [], _ => by simp [insI]
  | y :: l, h => by
    unfold insI
    obtain ⟨h1, h2⟩ := List.pairwise_cons.1 h
    split
    · rename_i hx
      refine List.pairwise_cons.2 ⟨fun z hz => ?_, h⟩
      rcases List.mem_cons.1 hz with rfl | hz
      · exact hx
      · have := h1 z hz; omega
    · split
      · exact h
      · refine List.pairwise_cons.2 ⟨fun z hz => ?_, insI_lt h2⟩
        rcases mem_insI.1 hz with rfl | hz
        · omega
        · exact h1 z hz
def setI (l : List Int) : List Int := l.foldr insI []
theorem mem_setI {z : Int} : ∀ {l : List Int}, z ∈ setI l ↔ z ∈ l
  | [] => by simp [setI]
  | y :: l => by
    show z ∈ insI y (setI l) ↔ _
    rw [mem_insI, mem_setI, List.mem_cons]
theorem setI_lt : ∀ l : List Int, (setI l).Pairwise (· < ·)
  | [] => List.Pairwise.nil
  | y :: l => insI_lt (setI_lt l)
theorem lt_ext : ∀ {x y : List Int}, x.Pairwise (· < ·) → y.Pairwise (· < ·) → (∀ z, z ∈ x ↔ z ∈ y) → x = y
  | [], [], _, _, _ => rfl
  | [], b :: y, _, _, h => absurd ((h b).2 (by simp)) (by simp)
  | a :: x, [], _, _, h => absurd ((h a).1 (by simp)) (by simp)
  | a :: x, b :: y, hx, hy, h => by
    obtain ⟨hx1, hx2⟩ := List.pairwise_cons.1 hx
    obtain ⟨hy1, hy2⟩ := List.pairwise_cons.1 hy
    have e : a = b := by
      have h1 := (h a).1 (by simp)
      have h2 := (h b).2 (by simp)
      rcases List.mem_cons.1 h1 with h1 | h1
      · exact h1
      · rcases List.mem_cons.1 h2 with h2 | h2
        · exact h2.symm
        · have := hx1 b h2
          have := hy1 a h1
          omega
    subst e
    rw [lt_ext hx2 hy2 (fun z => ?_)]
    have hz := h z
    rw [List.mem_cons, List.mem_cons] at hz
    constructor
    · intro m
      rcases hz.1 (.inr m) with rfl | k
      · have := hx1 z m; omega
      · exact k
    · intro m
      rcases hz.2 (.inr m) with rfl | k
      · have := hy1 z m; omega
      · exact k
/-- To where the symmetries move a square, in the order of the symmetries. -/
def orbL (a b q : Int) : List Int := (List.range (cnt a b).toNat).map fun (s : Nat) => toL a b (s : Int) q
def orbS (a b q : Int) : List Int := setI (orbL a b q)
theorem mem_orbL {a b q z : Int} : z ∈ orbL a b q ↔ ∃ s, okSym a b s ∧ z = toL a b s q := by
  unfold orbL
  rw [List.mem_map]
  constructor
  · rintro ⟨s, hs, rfl⟩
    have := List.mem_range.1 hs
    have := cnt_bd a b
    exact ⟨s, ⟨by omega, by omega⟩, rfl⟩
  · rintro ⟨s, ⟨h0, h1⟩, rfl⟩
    refine ⟨s.toNat, List.mem_range.2 (by omega), ?_⟩
    rw [show ((s.toNat : Nat) : Int) = s by omega]
theorem orbL_len (a b q : Int) : (orbL a b q).length = (cnt a b).toNat := by unfold orbL; simp
theorem toL_zero {a b q : Int} : toL a b 0 q = q := by
  unfold toL toX toY
  have e0 : b0 0 = false := rfl
  have e1 : b1 0 = false := rfl
  have e2 : b2 0 = false := rfl
  simp only [e0, e1, e2, cond_false]
  exact sq_self a q
theorem mem_orb {a b q z : Int} : z ∈ orbS a b q ↔ ∃ s, okSym a b s ∧ z = toL a b s q := mem_setI.trans mem_orbL
theorem orb_self {a b q : Int} : q ∈ orbS a b q := mem_orb.2 ⟨0, sym0, toL_zero.symm⟩
theorem orb_bd {a b q z : Int} (h : okSide a b) (h0 : 0 ≤ q) (h1 : q < a * b) (hz : z ∈ orbS a b q) : 0 ≤ z ∧ z < a * b := by
  obtain ⟨s, hs, rfl⟩ := mem_orb.1 hz
  exact toL_bd h hs h0 h1
/-- All squares of an orbit have the same one. -/
theorem orb_same {a b q x : Int} (h : okSide a b) (h0 : 0 ≤ q) (h1 : q < a * b) (hx : x ∈ orbS a b q) : orbS a b x = orbS a b q := by
  obtain ⟨s, hs, rfl⟩ := mem_orb.1 hx
  refine lt_ext (setI_lt _) (setI_lt _) (fun z => ?_)
  show z ∈ orbS a b _ ↔ z ∈ orbS a b _
  rw [mem_orb, mem_orb]
  constructor
  · rintro ⟨t, ht, rfl⟩
    exact ⟨compL t s, comp_ok ht hs, (toL_comp h ht hs h0 h1)⟩
  · rintro ⟨t, ht, rfl⟩
    refine ⟨compL t (invL s), comp_ok ht (inv_ok hs), ?_⟩
    obtain ⟨b0, b1⟩ := toL_bd h hs h0 h1
    rw [← toL_comp h ht (inv_ok hs) b0 b1, toL_inv h hs h0 h1]
def divB (a b q : Nat) : Bool := ((cnt a b) % ((orbS a b q).length : Int) == 0) && decide (0 < (orbS a b q).length)
def allB (n : Nat) (f : Nat → Bool) : Bool := (List.range n).all f
theorem allB_get {n : Nat} {f : Nat → Bool} (h : allB n f = true) {i : Nat} (hi : i < n) : f i = true := List.all_eq_true.1 h i (List.mem_range.2 hi)
theorem div_all : (allB 8 fun a => allB 8 fun b => allB ((a + 1) * (b + 1)) fun q => divB (a + 1) (b + 1) q) = true := by decide +kernel
/-- The number of squares of an orbit divides the number of symmetries. -/
theorem orb_div {a b q : Int} (h : okSide a b) (h0 : 0 ≤ q) (h1 : q < a * b) : cnt a b % ((orbS a b q).length : Int) = 0 ∧ 0 < (orbS a b q).length := by
  obtain ⟨ha0, ha1, hb0, hb1⟩ := h
  obtain ⟨x, hx⟩ : ∃ x : Nat, a = ((x + 1 : Nat) : Int) := ⟨(a - 1).toNat, by omega⟩
  obtain ⟨y, hy⟩ : ∃ y : Nat, b = ((y + 1 : Nat) : Int) := ⟨(b - 1).toNat, by omega⟩
  obtain ⟨z, rfl⟩ := Int.eq_ofNat_of_zero_le h0
  subst hx hy
  have hz : z < (x + 1) * (y + 1) := by exact_mod_cast h1
  have k := allB_get (allB_get (allB_get div_all (i := x) (by omega)) (i := y) (by omega)) hz
  unfold divB at k
  simp only [Bool.and_eq_true, beq_iff_eq, decide_eq_true_eq] at k
  exact k
end Go.Proofs.Ytdoibgmmijhlfaa
