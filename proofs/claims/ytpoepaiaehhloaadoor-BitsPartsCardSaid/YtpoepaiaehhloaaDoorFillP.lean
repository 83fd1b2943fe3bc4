/- Filled sets, parts. Plain. -/
import Derived.Test.YtpoepaiaehhloaaDoorShiftP
namespace Go.Proofs.YtpoepaiaehhloaaDoor
set_option linter.unusedVariables false
theorem bit_lt {b t : Nat} (hb : b < 18446744073709551616) (h : b.testBit t = true) : t < 64 := by
  refine Nat.lt_of_not_le fun hc => ?_
  have e : (2 : Nat) ^ 64 = 18446744073709551616 := rfl
  have h1 : b < 2 ^ t := Nat.lt_of_lt_of_le (by rw [← e] at hb; exact hb) (Nat.pow_le_pow_right (by omega) hc)
  rw [Nat.testBit_lt_two_pow h1] at h
  cases h
/-- Square t lies beside square s. -/
def AdjD (dx dy : Int) (s t : Nat) : Prop := okSq dx dy s ∧ toSq dx dy s = t
def Adj (s t : Nat) : Prop := AdjD 1 0 s t ∨ AdjD (-1) 0 s t ∨ AdjD 0 1 s t ∨ AdjD 0 (-1) s t
theorem adjD_symm {dx dy : Int} {s t : Nat} (hs : s < 64) (h : AdjD dx dy s t) : AdjD (-dx) (-dy) t s := by
  obtain ⟨h1, rfl⟩ := h
  exact ⟨(sq_back hs h1).1, (sq_back hs h1).2.1⟩
theorem adj_symm {s t : Nat} (hs : s < 64) (h : Adj s t) : Adj t s := by
  rcases h with h | h | h | h
  · exact .inr (.inl (adjD_symm hs h))
  · exact .inl (adjD_symm hs h)
  · exact .inr (.inr (.inr (adjD_symm hs h)))
  · exact .inr (.inr (.inl (adjD_symm hs h)))
theorem adj_lt {s t : Nat} (h : Adj s t) : t < 64 := by
  rcases h with ⟨h, rfl⟩ | ⟨h, rfl⟩ | ⟨h, rfl⟩ | ⟨h, rfl⟩ <;> exact toSq_lt h
/-- The squares beside those of a set. -/
def nbM (o : Nat) : Nat := ((shiftM o 1 0 ||| shiftM o (-1) 0) ||| shiftM o 0 1) ||| shiftM o 0 (-1)
theorem nb_bit {o t : Nat} : (nbM o).testBit t = true ↔ ∃ s, s < 64 ∧ o.testBit s = true ∧ Adj s t := by
  unfold nbM
  rw [Nat.testBit_or, Nat.testBit_or, Nat.testBit_or, Bool.or_eq_true, Bool.or_eq_true, Bool.or_eq_true, shift_bit, shift_bit, shift_bit, shift_bit]
  constructor
  · rintro (((⟨s, h1, h2, h3⟩ | ⟨s, h1, h2, h3⟩) | ⟨s, h1, h2, h3⟩) | ⟨s, h1, h2, h3⟩)
    · exact ⟨s, h1, h2, .inl h3⟩
    · exact ⟨s, h1, h2, .inr (.inl h3)⟩
    · exact ⟨s, h1, h2, .inr (.inr (.inl h3))⟩
    · exact ⟨s, h1, h2, .inr (.inr (.inr h3))⟩
  · rintro ⟨s, h1, h2, h3 | h3 | h3 | h3⟩
    · exact .inl (.inl (.inl ⟨s, h1, h2, h3⟩))
    · exact .inl (.inl (.inr ⟨s, h1, h2, h3⟩))
    · exact .inl (.inr ⟨s, h1, h2, h3⟩)
    · exact .inr ⟨s, h1, h2, h3⟩
theorem or_lt {a b : Nat} (ha : a < 18446744073709551616) (hb : b < 18446744073709551616) : a ||| b < 18446744073709551616 := by
  have e : (2 : Nat) ^ 64 = 18446744073709551616 := rfl
  rw [← e] at *
  exact Nat.or_lt_two_pow ha hb
theorem nb_lt (o : Nat) : nbM o < 18446744073709551616 := or_lt (or_lt (or_lt (shiftM_lt _ _ _) (shiftM_lt _ _ _)) (shiftM_lt _ _ _)) (shiftM_lt _ _ _)
def SubB (x y : Nat) : Prop := ∀ s, x.testBit s = true → y.testBit s = true
/-- C holds the neighbours in W of what it holds. -/
def Clo (W : Nat) (C : Nat → Prop) : Prop := ∀ s t, s < 64 → C s → Adj s t → W.testBit t = true → C t
def inB (x : Nat) : Nat → Prop := fun s => x.testBit s = true
/-- What Fill answers. -/
def FillIs (seed W R : Nat) : Prop := SubB (seed &&& W) R ∧ SubB R W ∧ Clo W (inB R) ∧ ∀ C : Nat → Prop, (∀ s, (seed &&& W).testBit s = true → C s) → Clo W C → ∀ s, R.testBit s = true → C s
def nextM (o W : Nat) : Nat := o ||| (W &&& nbM o)
/-- What holds between two rounds of Fill. -/
def FillInv (seed W o : Nat) : Prop := SubB (seed &&& W) o ∧ SubB o W ∧ ∀ C : Nat → Prop, (∀ s, (seed &&& W).testBit s = true → C s) → Clo W C → ∀ s, o.testBit s = true → C s
theorem fill_start (seed W : Nat) : FillInv seed W (seed &&& W) := ⟨fun s h => h, fun s h => by rw [Nat.testBit_and, Bool.and_eq_true] at h; exact h.2, fun C h _ s hs => h s hs⟩
theorem next_bit {o W t : Nat} : (nextM o W).testBit t = true ↔ (o.testBit t = true ∨ (W.testBit t = true ∧ ∃ s, s < 64 ∧ o.testBit s = true ∧ Adj s t)) := by
  unfold nextM
  rw [Nat.testBit_or, Nat.testBit_and, Bool.or_eq_true, Bool.and_eq_true, nb_bit]
theorem fill_next {seed W o : Nat} (h : FillInv seed W o) : FillInv seed W (nextM o W) := by
  obtain ⟨h1, h2, h3⟩ := h
  refine ⟨fun s hs => next_bit.2 (.inl (h1 s hs)), fun s hs => ?_, fun C hC hc s hs => ?_⟩
  · rcases next_bit.1 hs with h | ⟨h, _⟩
    · exact h2 s h
    · exact h
  · rcases next_bit.1 hs with h | ⟨h, r, hr, hb, ha⟩
    · exact h3 C hC hc s h
    · exact hc r s hr (h3 C hC hc r hb) ha h
theorem fill_end {seed W o : Nat} (h : FillInv seed W o) (he : nextM o W = o) : FillIs seed W o := by
  obtain ⟨h1, h2, h3⟩ := h
  refine ⟨h1, h2, fun s t hs hb ha hw => ?_, h3⟩
  have hb' : o.testBit s = true := hb
  have : (nextM o W).testBit t = true := next_bit.2 (.inr ⟨hw, s, hs, hb', ha⟩)
  rw [he] at this
  exact this
theorem fill_more {o W : Nat} (h : nextM o W ≠ o) : o < nextM o W := by
  have h1 : o ≤ nextM o W := Nat.left_le_or
  omega
theorem next_lt {o W : Nat} (ho : o < 18446744073709551616) (hw : W < 18446744073709551616) : nextM o W < 18446744073709551616 := or_lt ho (Nat.lt_of_le_of_lt Nat.and_le_left hw)
theorem fill_one {seed W R R' : Nat} (h : FillIs seed W R) (h' : FillIs seed W R') : R = R' :=
  Nat.eq_of_testBit_eq fun s => Bool.eq_iff_iff.2 ⟨fun hs => h.2.2.2 (inB R') (fun s hs => h'.1 s hs) h'.2.2.1 s hs, fun hs => h'.2.2.2 (inB R) (fun s hs => h.1 s hs) h.2.2.1 s hs⟩
/-- What is left of a set without a part. -/
def lessM (b p : Nat) : Nat := b &&& (18446744073709551615 - p)
theorem less_bit {b p t : Nat} (hb : b < 18446744073709551616) (hp : p < 18446744073709551616) : (lessM b p).testBit t = true ↔ (b.testBit t = true ∧ p.testBit t = false) := by
  unfold lessM
  rw [Nat.testBit_and, Bool.and_eq_true, show 18446744073709551615 - p = 2 ^ 64 - (p + 1) by rw [show (2 : Nat) ^ 64 = 18446744073709551616 from rfl]; omega, Nat.testBit_two_pow_sub_succ hp]
  simp only [Bool.and_eq_true, decide_eq_true_eq, Bool.not_eq_true']
  constructor
  · exact fun h => ⟨h.1, h.2.2⟩
  · exact fun h => ⟨h.1, bit_lt hb h.1, h.2⟩
/-- What Parts answers. -/
def PartsIs : Nat → List Nat → Prop
  | b, [] => b = 0
  | b, p :: L => b ≠ 0 ∧ p < 18446744073709551616 ∧ FillIs (2 ^ Lib.ctz 64 b) b p ∧ PartsIs (lessM b p) L
theorem seed_bit {b t : Nat} (h0 : b ≠ 0) (hb : b < 18446744073709551616) : (2 ^ Lib.ctz 64 b &&& b).testBit t = true ↔ t = Lib.ctz 64 b := by
  rw [Nat.testBit_and, Bool.and_eq_true, Nat.testBit_two_pow, decide_eq_true_eq]
  constructor
  · exact fun h => h.1.symm
  · intro h
    subst h
    exact ⟨rfl, (ctz_bit h0 hb).1⟩
theorem less_lt {b p : Nat} (h0 : b ≠ 0) (hb : b < 18446744073709551616) (hp : p < 18446744073709551616) (h : FillIs (2 ^ Lib.ctz 64 b) b p) : lessM b p < b ∧ pop 64 (lessM b p) < pop 64 b := by
  have hc := (seed_bit h0 hb).2 rfl
  have hpc := h.1 _ hc
  have hn : (lessM b p).testBit (Lib.ctz 64 b) = false := by
    cases hx : (lessM b p).testBit (Lib.ctz 64 b)
    · rfl
    · have h1 := ((less_bit hb hp).1 hx).2
      rw [hpc] at h1
      cases h1
  refine ⟨Nat.lt_of_le_of_ne Nat.and_le_left fun e => ?_, ?_⟩
  · rw [e, (ctz_bit h0 hb).1] at hn
    cases hn
  · rw [pop_sqs, pop_sqs]
    have e : sqs (lessM b p) = (sqs b).filter (lessM b p).testBit := by
      unfold sqs
      rw [List.filter_filter]
      refine List.filter_congr fun x _ => ?_
      cases hx : (lessM b p).testBit x
      · rfl
      · rw [((less_bit hb hp).1 hx).1]
        rfl
    rw [e]
    exact List.length_filter_lt_length_iff_exists.2 ⟨Lib.ctz 64 b, mem_sqs.2 ⟨(ctz_bit h0 hb).2.1, (ctz_bit h0 hb).1⟩, by simp [hn]⟩
/-- What holds between two parts: what has been met is whole parts, the rest is what is left. -/
def MetInv (b all rem : Nat) : Prop := all < 18446744073709551616 ∧ rem < 18446744073709551616 ∧ (∀ s, b.testBit s = true ↔ (all.testBit s = true ∨ rem.testBit s = true)) ∧ (∀ s, all.testBit s = true → rem.testBit s = true → False) ∧ Clo b (inB all)
theorem met_start {b : Nat} (hb : b < 18446744073709551616) : MetInv b 0 b := ⟨by omega, hb, fun s => by simp, fun s h => by simp at h, fun s t _ h => by simp [inB] at h⟩
theorem met_end {b all : Nat} (h : MetInv b all 0) : all = b := Nat.eq_of_testBit_eq fun s => Bool.eq_iff_iff.2 ⟨fun hs => (h.2.2.1 s).2 (.inl hs), fun hs => by
  rcases (h.2.2.1 s).1 hs with h1 | h1
  · exact h1
  · simp at h1⟩
theorem met_part {b all rem p : Nat} (h : MetInv b all rem) (h0 : rem ≠ 0) (hp : p < 18446744073709551616) (hf : FillIs (2 ^ Lib.ctz 64 rem) rem p) :
    p ≠ 0 ∧ all &&& p = 0 ∧ (∀ dx dy, (∀ s t, AdjD dx dy s t → Adj s t) → shiftM p dx dy &&& all = 0) ∧ (∀ s R, p.testBit s = true → FillIs (2 ^ s) b R → R = p) ∧ MetInv b (all ||| p) (lessM rem p) := by
  obtain ⟨ha, hr, hu, hd, hc⟩ := h
  obtain ⟨f1, f2, f3, f4⟩ := hf
  have hpb : ∀ s, p.testBit s = true → b.testBit s = true := fun s hs => (hu s).2 (.inr (f2 s hs))
  have hpa : ∀ s, all.testBit s = true → p.testBit s = true → False := fun s h1 h2 => hd s h1 (f2 s h2)
  have hrc : ∀ s t, s < 64 → rem.testBit s = true → Adj s t → b.testBit t = true → rem.testBit t = true := fun s t hs h1 h2 h3 => by
    rcases (hu t).1 h3 with h4 | h4
    · exact (hd s (hc t s (adj_lt h2) h4 (adj_symm hs h2) ((hu s).2 (.inr h1))) h1).elim
    · exact h4
  have hpc : ∀ s t, s < 64 → p.testBit s = true → Adj s t → b.testBit t = true → p.testBit t = true := fun s t hs h1 h2 h3 => f3 s t hs h1 h2 (hrc s t hs (f2 s h1) h2 h3)
  have hcb := f1 _ ((seed_bit h0 hr).2 rfl)
  refine ⟨fun e => ?_, ?_, fun dx dy hdir => ?_, fun s R hs hR => ?_, or_lt ha hp, Nat.lt_of_le_of_lt Nat.and_le_left hr, fun s => ?_, fun s h1 h2 => ?_, fun s t hs h1 h2 h3 => ?_⟩
  · rw [e] at hcb
    simp at hcb
  · refine Nat.eq_of_testBit_eq fun s => ?_
    rw [Nat.testBit_and, Nat.zero_testBit]
    cases h1 : all.testBit s
    · rfl
    · cases h2 : p.testBit s
      · rfl
      · exact (hpa s h1 h2).elim
  · refine Nat.eq_of_testBit_eq fun t => ?_
    rw [Nat.testBit_and, Nat.zero_testBit]
    cases h1 : (shiftM p dx dy).testBit t
    · rfl
    · cases h2 : all.testBit t
      · rfl
      · obtain ⟨s, hs, hb, ho, ht⟩ := shift_bit.1 h1
        exact (hpa t h2 (hpc s t hs hb (hdir s t ⟨ho, ht⟩) ((hu t).2 (.inl h2)))).elim
  · have hs64 := bit_lt hp hs
    obtain ⟨r1, r2, r3, r4⟩ := hR
    have hseed : ∀ t, (2 ^ s &&& b).testBit t = true → t = s := fun t ht => by
      rw [Nat.testBit_and, Bool.and_eq_true, Nat.testBit_two_pow, decide_eq_true_eq] at ht
      exact ht.1.symm
    have hsR : R.testBit s = true := r1 s (by rw [Nat.testBit_and, Nat.testBit_two_pow_self, hpb s hs]; rfl)
    have hRp : ∀ t, R.testBit t = true → p.testBit t = true := r4 (inB p) (fun t ht => by rw [hseed t ht]; exact hs) (fun u v hu h1 h2 h3 => hpc u v hu h1 h2 h3)
    have hcR : R.testBit (Lib.ctz 64 rem) = true := by
      cases hx : R.testBit (Lib.ctz 64 rem)
      · have hC := f4 (fun t => p.testBit t = true ∧ R.testBit t = false) (fun t ht => by rw [(seed_bit h0 hr).1 ht]; exact ⟨hcb, hx⟩) (fun u v hu64 h1 h2 h3 => by
          have hv := f3 u v hu64 h1.1 h2 h3
          refine ⟨hv, ?_⟩
          cases hy : R.testBit v
          · rfl
          · have h5 : R.testBit u = true := r3 v u (adj_lt h2) hy (adj_symm hu64 h2) (hpb u h1.1)
            rw [h1.2] at h5
            cases h5) s hs
        rw [hsR] at hC
        cases hC.2
      · rfl
    refine Nat.eq_of_testBit_eq fun t => Bool.eq_iff_iff.2 ⟨hRp t, fun ht => f4 (inB R) (fun u hu => by rw [(seed_bit h0 hr).1 hu]; exact hcR) (fun u v hu64 h1 h2 h3 => r3 u v hu64 h1 h2 ((hu v).2 (.inr h3))) t ht⟩
  · rw [Nat.testBit_or, Bool.or_eq_true, less_bit hr hp, hu s]
    constructor
    · rintro (h1 | h1)
      · exact .inl (.inl h1)
      · cases h2 : p.testBit s
        · exact .inr ⟨h1, rfl⟩
        · exact .inl (.inr rfl)
    · rintro ((h1 | h1) | h1)
      · exact .inl h1
      · exact .inr (f2 s h1)
      · exact .inr h1.1
  · rw [Nat.testBit_or, Bool.or_eq_true] at h1
    obtain ⟨h3, h4⟩ := (less_bit hr hp).1 h2
    rcases h1 with h1 | h1
    · exact hd s h1 h3
    · rw [h1] at h4
      cases h4
  · have h1' : (all ||| p).testBit s = true := h1
    show (all ||| p).testBit t = true
    rw [Nat.testBit_or, Bool.or_eq_true] at h1' ⊢
    rcases h1' with h4 | h4
    · exact .inl (hc s t hs h4 h2 h3)
    · exact .inr (hpc s t hs h4 h2 h3)
end Go.Proofs.YtpoepaiaehhloaaDoor
