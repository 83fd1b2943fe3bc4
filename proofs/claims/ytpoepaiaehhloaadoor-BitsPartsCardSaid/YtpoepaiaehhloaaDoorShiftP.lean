/- Shifted sets. Plain. -/
import Derived.Test.YtpoepaiaehhloaaDoorShift
namespace Go.Proofs.YtpoepaiaehhloaaDoor
set_option linter.unusedVariables false
theorem fold_bit (dx dy : Int) (t : Nat) : ∀ (l : List Nat) (out : Nat), (l.foldl (stepSq dx dy) out).testBit t = true ↔ (out.testBit t = true ∨ ∃ s ∈ l, okSq dx dy s ∧ toSq dx dy s = t)
  | [], out => by simp
  | a :: l, out => by
    rw [List.foldl_cons, fold_bit dx dy t l]
    unfold stepSq
    by_cases h : okSq dx dy a
    · rw [if_pos h, Nat.testBit_or, Nat.testBit_two_pow]
      simp only [Bool.or_eq_true, decide_eq_true_eq, List.mem_cons, exists_eq_or_imp, h, true_and, or_assoc]
    · rw [if_neg h]
      simp only [List.mem_cons, exists_eq_or_imp, h, false_and, false_or]
theorem shift_bit {b : Nat} {dx dy : Int} {t : Nat} : (shiftM b dx dy).testBit t = true ↔ ∃ s, s < 64 ∧ b.testBit s = true ∧ okSq dx dy s ∧ toSq dx dy s = t := by
  unfold shiftM
  rw [fold_bit]
  simp only [Nat.zero_testBit, Bool.false_eq_true, false_or, mem_sqs, and_assoc]
theorem sq_back {dx dy : Int} {s : Nat} (hs : s < 64) (h : okSq dx dy s) : okSq (-dx) (-dy) (toSq dx dy s) ∧ toSq (-dx) (-dy) (toSq dx dy s) = s ∧ toSq dx dy s < 64 := by
  have hl := toSq_lt h
  obtain ⟨h1, h2, h3, h4⟩ := h
  obtain ⟨x, hx⟩ : ∃ x : Nat, (x : Int) = ((s % 8 : Nat) : Int) + dx := ⟨(((s % 8 : Nat) : Int) + dx).toNat, by omega⟩
  obtain ⟨y, hy⟩ : ∃ y : Nat, (y : Int) = ((s / 8 : Nat) : Int) + dy := ⟨(((s / 8 : Nat) : Int) + dy).toNat, by omega⟩
  have e : toSq dx dy s = 8 * y + x := by unfold toSq; omega
  rw [e] at hl ⊢
  have e1 : (8 * y + x) % 8 = x := by omega
  have e2 : (8 * y + x) / 8 = y := by omega
  refine ⟨⟨?_, ?_, ?_, ?_⟩, ?_, hl⟩
  · rw [e1]; omega
  · rw [e1]; omega
  · rw [e2]; omega
  · rw [e2]; omega
  · unfold toSq
    rw [e1, e2]
    omega
theorem back_bit {b : Nat} {dx dy : Int} {s : Nat} : (shiftM (shiftM b dx dy) (-dx) (-dy)).testBit s = true ↔ s < 64 ∧ b.testBit s = true ∧ okSq dx dy s := by
  rw [shift_bit]
  constructor
  · rintro ⟨t, ht, hb, ho, rfl⟩
    obtain ⟨r, hr, hb2, ho2, rfl⟩ := shift_bit.1 hb
    obtain ⟨k1, k2, k3⟩ := sq_back hr ho2
    rw [k2]
    exact ⟨hr, hb2, ho2⟩
  · rintro ⟨hs, hb, ho⟩
    obtain ⟨k1, k2, k3⟩ := sq_back hs ho
    exact ⟨_, k3, shift_bit.2 ⟨s, hs, hb, ho, rfl⟩, k1, k2⟩
theorem back_to (b : Nat) (dx dy : Int) : shiftM (shiftM (shiftM b dx dy) (-dx) (-dy)) dx dy = shiftM b dx dy := by
  refine Nat.eq_of_testBit_eq fun t => Bool.eq_iff_iff.2 ?_
  rw [shift_bit, shift_bit]
  constructor
  · rintro ⟨s, hs, hb, ho, ht⟩
    exact ⟨s, hs, (back_bit.1 hb).2.1, ho, ht⟩
  · rintro ⟨s, hs, hb, ho, ht⟩
    exact ⟨s, hs, back_bit.2 ⟨hs, hb, ho⟩, ho, ht⟩
theorem back_sub (b : Nat) (dx dy : Int) : shiftM (shiftM b dx dy) (-dx) (-dy) &&& b = shiftM (shiftM b dx dy) (-dx) (-dy) := by
  refine Nat.eq_of_testBit_eq fun s => ?_
  rw [Nat.testBit_and]
  cases h : (shiftM (shiftM b dx dy) (-dx) (-dy)).testBit s
  · rfl
  · rw [(back_bit.1 h).2.1]
    rfl
theorem back_count (b : Nat) (dx dy : Int) : pop 64 (shiftM (shiftM b dx dy) (-dx) (-dy)) = pop 64 (shiftM b dx dy) := by
  rw [pop_sqs, pop_sqs]
  have hp : List.Perm ((sqs (shiftM (shiftM b dx dy) (-dx) (-dy))).map (toSq dx dy)) (sqs (shiftM b dx dy)) := by
    refine (List.perm_ext_iff_of_nodup ?_ (sqs_nodup _)).2 (fun t => ?_)
    · refine List.pairwise_map.2 (List.Pairwise.imp_of_mem ?_ (sqs_nodup _))
      intro x y hx hy hne e
      obtain ⟨hx1, hx2, hx3⟩ := back_bit.1 (mem_sqs.1 hx).2
      obtain ⟨hy1, hy2, hy3⟩ := back_bit.1 (mem_sqs.1 hy).2
      have h1 := (sq_back hx1 hx3).2.1
      have h2 := (sq_back hy1 hy3).2.1
      rw [e] at h1
      exact hne (h1.symm.trans h2)
    · rw [List.mem_map, mem_sqs]
      constructor
      · rintro ⟨s, hs, rfl⟩
        obtain ⟨hs1, hs2, hs3⟩ := back_bit.1 (mem_sqs.1 hs).2
        exact ⟨toSq_lt hs3, shift_bit.2 ⟨s, hs1, hs2, hs3, rfl⟩⟩
      · rintro ⟨ht, hb⟩
        obtain ⟨s, hs, hb2, ho, rfl⟩ := shift_bit.1 hb
        exact ⟨s, mem_sqs.2 ⟨hs, back_bit.2 ⟨hs, hb2, ho⟩⟩, rfl⟩
  rw [← hp.length_eq, List.length_map]
end Go.Proofs.YtpoepaiaehhloaaDoor
