/- Plain: the ranks of a hand, its class, its value. -/

namespace Go.Proofs.Ytdoibgmmijhlfaa
set_option linter.unusedVariables false
set_option linter.unusedSimpArgs false
/-- How many cards of rank r. -/
def cntR (h : List Int) (r : Nat) : Nat := (h.filter fun c => c % 13 = (r : Int)).length
theorem cntR_snoc (h : List Int) (c : Int) (r : Nat) : cntR (h ++ [c]) r = cntR h r + (if c % 13 = (r : Int) then 1 else 0) := by
  unfold cntR
  rw [List.filter_append, List.length_append]
  congr 1
  by_cases e : c % 13 = (r : Int) <;> simp [e]
theorem cntR_le (h : List Int) (r : Nat) : cntR h r ≤ h.length := List.length_filter_le _ _
/-- The different ranks, in order. -/
def rawR (h : List Int) (n : Nat) : List Int := ((List.range n).filter (fun r => decide (0 < cntR h r))).map Int.ofNat
theorem rawR_succ (h : List Int) (n : Nat) : rawR h (n + 1) = rawR h n ++ (if 0 < cntR h n then [(n : Int)] else []) := by
  unfold rawR
  rw [List.range_succ, List.filter_append, List.map_append]
  congr 1
  by_cases e : 0 < cntR h n <;> simp [e]
theorem rawR_len (h : List Int) (n : Nat) : (rawR h n).length ≤ n := by
  unfold rawR
  rw [List.length_map]
  exact Nat.le_trans (List.length_filter_le _ _) (by simp)
theorem rawR_mem {h : List Int} {n : Nat} {z : Int} (hz : z ∈ rawR h n) : ∃ r : Nat, z = r ∧ r < n ∧ 0 < cntR h r := by
  unfold rawR at hz
  obtain ⟨r, hr, rfl⟩ := List.mem_map.1 hz
  obtain ⟨h1, h2⟩ := List.mem_filter.1 hr
  exact ⟨r, rfl, List.mem_range.1 h1, by simpa using h2⟩
def cmp2 (a b : Int) : Int := if a < b then -1 else if b < a then 1 else 0
/-- Ranks in order: the more frequent, then the higher ones. -/
def cmpR (h : List Int) (a b : Int) : Int := if cmp2 (cntR h b.toNat) (cntR h a.toNat) ≠ 0 then cmp2 (cntR h b.toNat) (cntR h a.toNat) else cmp2 b a
def ltR (h : List Int) (a b : Int) : Prop := cntR h b.toNat < cntR h a.toNat ∨ cntR h a.toNat = cntR h b.toNat ∧ b < a
theorem cmpR_lt {h : List Int} {a b : Int} : cmpR h a b < 0 ↔ ltR h a b := by
  unfold cmpR cmp2 ltR
  split <;> split <;> (try split) <;> omega
def ordR (h : List Int) : List Int := (rawR h 13).mergeSort fun x y => !(decide (cmpR h y x < 0))
theorem ordR_perm (h : List Int) : (ordR h).Perm (rawR h 13) := List.mergeSort_perm _ _
theorem ordR_len (h : List Int) : (ordR h).length ≤ 13 := by rw [(ordR_perm h).length_eq]; exact rawR_len h 13
theorem ordR_mem {h : List Int} {z : Int} (hz : z ∈ ordR h) : ∃ r : Nat, z = r ∧ r < 13 ∧ 0 < cntR h r := rawR_mem ((ordR_perm h).mem_iff.1 hz)
def oftR (h : List Int) : List Int := (ordR h).map fun r => (cntR h r.toNat : Int)
theorem oftR_len (h : List Int) : (oftR h).length = (ordR h).length := by simp [oftR]
theorem sum_filter (f : Nat → Nat) : ∀ l : List Nat, ((l.filter fun r => decide (0 < f r)).map f).sum = (l.map f).sum
  | [] => rfl
  | a :: l => by
    by_cases h : 0 < f a
    · rw [List.filter_cons_of_pos (by simpa using h)]
      simp [sum_filter f l]
    · rw [List.filter_cons_of_neg (by simpa using h)]
      rw [sum_filter f l]
      simp; omega
theorem sum_one (z : Int) (hz : 0 ≤ z) : ∀ n : Nat, ((List.range n).map fun (r : Nat) => if z = (r : Int) then 1 else 0).sum = if z < n then 1 else 0
  | 0 => by simp; omega
  | n + 1 => by
    rw [List.range_succ, List.map_append, List.sum_append, sum_one z hz n]
    simp only [List.map_cons, List.map_nil, List.sum_cons, List.sum_nil]
    split <;> split <;> split <;> omega
theorem sum_add (f g : Nat → Nat) : ∀ l : List Nat, (l.map fun r => f r + g r).sum = (l.map f).sum + (l.map g).sum
  | [] => rfl
  | a :: l => by simp [sum_add f g l]; omega
theorem cntR_sum : ∀ h : List Int, ((List.range 13).map (cntR h)).sum = h.length
  | [] => by decide +kernel
  | c :: h => by
    have e : ∀ r, cntR (c :: h) r = (if c % 13 = (r : Int) then 1 else 0) + cntR h r := fun r => by
      unfold cntR
      by_cases k : c % 13 = (r : Int)
      · rw [List.filter_cons_of_pos (by simpa using k), if_pos k]; simp; omega
      · rw [List.filter_cons_of_neg (by simpa using k), if_neg k]; omega
    rw [List.map_congr_left (fun r _ => e r), sum_add, cntR_sum h, sum_one _ (Int.emod_nonneg c (by omega)) 13]
    have := Int.emod_lt_of_pos c (show (0 : Int) < 13 by omega)
    rw [if_pos (by omega)]
    simp; omega
theorem oftR_sum (h : List Int) : (oftR h).sum = h.length := by
  have e1 : (oftR h).sum = (((ordR h).map fun r => cntR h r.toNat).sum : Nat) := by
    unfold oftR
    generalize ordR h = l
    induction l with
    | nil => rfl
    | cons a l ih => simp [ih]
  have e2 : ((ordR h).map fun r => cntR h r.toNat).sum = ((rawR h 13).map fun r => cntR h r.toNat).sum := ((ordR_perm h).map _).sum_nat
  have e3 : ((rawR h 13).map fun r => cntR h r.toNat) = ((List.range 13).filter (fun r => decide (0 < cntR h r))).map (cntR h) := by
    unfold rawR
    rw [List.map_map]
    rfl
  rw [e1, e2, e3, sum_filter, cntR_sum]
/-- The most frequent rank's number, the second one's. -/
theorem oftR_first {h : List Int} (h5 : h.length = 5) : 0 < (oftR h).length := by
  have := oftR_sum h
  rcases e : oftR h with _ | ⟨a, l⟩
  · rw [e] at this; simp at this; omega
  · simp
theorem oftR_second {h : List Int} (h5 : h.length = 5) (h2 : (oftR h).getD 0 0 ≤ 4) : 1 < (oftR h).length := by
  have := oftR_sum h
  rcases e : oftR h with _ | ⟨a, _ | ⟨b, l⟩⟩
  · rw [e] at this; simp at this; omega
  · rw [e] at this h2
    simp at this h2
    omega
  · simp
def straightR (l : List Int) : Int := if l.length < 5 then -1 else if l.getD 0 0 - l.getD 4 0 = 4 then l.getD 0 0 else if l.getD 0 0 = 12 ∧ l.getD 1 0 = 3 then 3 else -1
def flushR (h : List Int) : Bool := !(h.any fun c => decide (c / 13 ≠ h.getD 0 0 / 13))
def classR (h : List Int) : Int :=
  if flushR h = true ∧ 0 ≤ straightR (ordR h) then 8
  else if (oftR h).getD 0 0 = 4 then 7
  else if (oftR h).getD 0 0 = 3 ∧ (oftR h).getD 1 0 = 2 then 6
  else if flushR h = true then 5
  else if 0 ≤ straightR (ordR h) then 4
  else if (oftR h).getD 0 0 = 3 then 3
  else if (oftR h).getD 0 0 = 2 ∧ (oftR h).getD 1 0 = 2 then 2
  else if (oftR h).getD 0 0 = 2 then 1
  else 0
theorem classR_bd (h : List Int) : 0 ≤ classR h ∧ classR h ≤ 8 := by
  unfold classR
  repeat' split
  all_goals omega
def useR (h : List Int) : List Int := if classR h = 8 ∨ classR h = 4 then [straightR (ordR h)] else ordR h
theorem ordR_bd {h : List Int} {i : Nat} : 0 ≤ (ordR h).getD i 0 ∧ (ordR h).getD i 0 ≤ 12 := by
  rw [List.getD_eq_getElem?_getD]
  rcases e : (ordR h)[i]? with _ | z
  · simp
  · obtain ⟨r, rfl, hr, -⟩ := ordR_mem (List.mem_of_getElem? e)
    simp; omega
theorem straight_class {h : List Int} (k : classR h = 8 ∨ classR h = 4) : 0 ≤ straightR (ordR h) := by
  unfold classR at k
  repeat' split at k
  all_goals first | omega | (rename_i hh; first | exact hh.2 | exact hh)
theorem straightR_le (h : List Int) : straightR (ordR h) ≤ 12 := by
  have := ordR_bd (h := h) (i := 0)
  unfold straightR
  repeat' split
  all_goals omega
theorem useR_bd {h : List Int} {i : Nat} : 0 ≤ (useR h).getD i 0 ∧ (useR h).getD i 0 ≤ 12 := by
  unfold useR
  split
  · rename_i k
    have a := straight_class k
    have b := straightR_le h
    rcases i with _ | i
    · simpa using ⟨a, b⟩
    · simp
  · exact ordR_bd
theorem useR_len (h : List Int) : (useR h).length ≤ 13 := by
  unfold useR
  split
  · simp
  · exact ordR_len h
/-- The value after i rounds. -/
def valF (h : List Int) : Nat → Int
  | 0 => classR h
  | i + 1 => valF h i * 13 + (if i < (useR h).length then (useR h).getD i 0 else 0)
theorem valF_bd (h : List Int) : ∀ i, 0 ≤ valF h i ∧ valF h i ≤ 9 * 13 ^ i - 1
  | 0 => by have := classR_bd h; simp [valF]; omega
  | i + 1 => by
    obtain ⟨a, b⟩ := valF_bd h i
    have := useR_bd (h := h) (i := i)
    show 0 ≤ valF h i * 13 + _ ∧ valF h i * 13 + _ ≤ _
    rw [Int.pow_succ]
    split <;> omega
theorem valF_lt (h : List Int) {i : Nat} (hi : i ≤ 5) : 0 ≤ valF h i ∧ valF h i ≤ 4000000 := by
  obtain ⟨a, b⟩ := valF_bd h i
  rcases (by omega : i = 0 ∨ i = 1 ∨ i = 2 ∨ i = 3 ∨ i = 4 ∨ i = 5) with rfl | rfl | rfl | rfl | rfl | rfl <;> simp at b <;> omega
def valR (h : List Int) : Int := valF h 5
end Go.Proofs.Ytdoibgmmijhlfaa
