/- Plain facts on the colourings of a board: the cycles of a symmetry, sums of powers. No program. -/
import Derived.Test.YtmkckpiehffccaaSymmP
namespace Go.Proofs.Ytmkckpiehffccaa
/-- Marks the squares from k on, until a marked one. -/
def mark (f : Nat → Nat) : Nat → Nat → List Bool → List Bool
  | 0, _, l => l
  | n + 1, k, l => if l.getD k true then l else mark f n (f k) (l.set k true)
def cycStep (f : Nat → Nat) (st : List Bool × Nat) (i : Nat) : List Bool × Nat :=
  if st.1.getD i true then st else (mark f (st.1.count false) i st.1, st.2 + 1)
def cycAt (f : Nat → Nat) (n k : Nat) : List Bool × Nat := (List.range k).foldl (cycStep f) (List.replicate n false, 0)
def toF (a b s : Int) (k : Nat) : Nat := (toL a b s (k : Int)).toNat
/-- The number of cycles of symmetry s. -/
def cyc (a b s : Int) : Nat := (cycAt (toF a b s) (a * b).toNat (a * b).toNat).2
def cycs (a b : Int) (k : Nat) : List Nat := (List.range k).map fun (s : Nat) => cyc a b (s : Int)

theorem cycAt_succ (f : Nat → Nat) (n k : Nat) : cycAt f n (k + 1) = cycStep f (cycAt f n k) k := by
  unfold cycAt
  rw [List.range_succ, List.foldl_append]
  rfl
theorem count_set {l : List Bool} {k : Nat} (h : l[k]? = some false) : l.count false = (l.set k true).count false + 1 := by
  induction l generalizing k with
  | nil => simp at h
  | cons x l ih =>
    cases k with
    | zero => simp at h; subst h; simp
    | succ k =>
      simp at h
      have := ih h
      simp only [List.set_cons_succ, List.count_cons]
      omega
theorem mark_true {f : Nat → Nat} {n k : Nat} {l : List Bool} (h : l[k]? = some true) : mark f n k l = l := by
  cases n with
  | zero => rfl
  | succ n =>
    unfold mark
    rw [if_pos (by rw [List.getD_eq_getElem?_getD, h]; rfl)]
theorem mark_false {f : Nat → Nat} {k : Nat} {l : List Bool} (h : l[k]? = some false) : mark f (l.count false) k l = mark f ((l.set k true).count false) (f k) (l.set k true) := by
  rw [count_set h]
  show (if l.getD k true then l else mark f _ (f k) (l.set k true)) = _
  rw [if_neg (by rw [List.getD_eq_getElem?_getD, h]; simp)]
theorem mark_length (f : Nat → Nat) : ∀ (n k : Nat) (l : List Bool), (mark f n k l).length = l.length
  | 0, _, _ => rfl
  | n + 1, k, l => by
    unfold mark
    split
    · rfl
    · rw [mark_length f n]; simp
theorem cycAt_length (f : Nat → Nat) (n : Nat) : ∀ k, (cycAt f n k).1.length = n ∧ (cycAt f n k).2 ≤ k
  | 0 => by simp [cycAt]
  | k + 1 => by
    obtain ⟨h1, h2⟩ := cycAt_length f n k
    rw [cycAt_succ]
    unfold cycStep
    split
    · exact ⟨h1, by omega⟩
    · exact ⟨by rw [mark_length]; exact h1, by simp; omega⟩
theorem cyc_le {a b s : Int} (h : okSide a b) : cyc a b s ≤ 64 := by
  have := area_bd a b h
  have := (cycAt_length (toF a b s) (a * b).toNat (a * b).toNat).2
  unfold cyc
  omega

/-! ### All boards -/
def allSide : List (Int × Int) := (List.range 8).flatMap fun (i : Nat) => (List.range 8).map fun (j : Nat) => ((i : Int) + 1, (j : Int) + 1)
theorem mem_allSide {a b : Int} (h : okSide a b) : (a, b) ∈ allSide := by
  obtain ⟨h1, h2, h3, h4⟩ := h
  obtain ⟨i, rfl⟩ : ∃ i : Nat, a = (i : Int) + 1 := ⟨(a - 1).toNat, by omega⟩
  obtain ⟨j, rfl⟩ : ∃ j : Nat, b = (j : Int) + 1 := ⟨(b - 1).toNat, by omega⟩
  unfold allSide
  rw [List.mem_flatMap]
  refine ⟨i, List.mem_range.2 (by omega), ?_⟩
  rw [List.mem_map]
  exact ⟨j, List.mem_range.2 (by omega), rfl⟩
def goodSide (a b : Int) : Bool := (cycs a b (cnt a b).toNat).isPerm (cycs b a (cnt b a).toNat) && (cycs a b (cnt a b).toNat).all fun m => decide (1 ≤ m)
theorem all_good : (allSide.all fun p => goodSide p.1 p.2) = true := by decide +kernel
theorem side_good {a b : Int} (h : okSide a b) : (cycs a b (cnt a b).toNat).Perm (cycs b a (cnt b a).toNat) ∧ ∀ m ∈ cycs a b (cnt a b).toNat, 1 ≤ m := by
  have := List.all_eq_true.1 all_good _ (mem_allSide h)
  unfold goodSide at this
  rw [Bool.and_eq_true, List.isPerm_iff, List.all_eq_true] at this
  exact ⟨this.1, fun m hm => by simpa using this.2 m hm⟩

/-! ### Colourings -/
def big (c : Int) (m : Nat) : Bool := decide (281474976710656 < c ^ m)
def colBig (c : Int) (ms : List Nat) : Bool := ms.any (big c)
def colSum (c : Int) (ms : List Nat) : Int := ms.foldr (fun m x => c ^ m + x) 0
theorem colSum_snoc (c : Int) (ms : List Nat) (m : Nat) : colSum c (ms ++ [m]) = colSum c ms + c ^ m := by
  unfold colSum
  induction ms with
  | nil => simp
  | cons x l ih => simp only [List.cons_append, List.foldr_cons]; rw [ih]; omega
theorem cycs_succ (a b : Int) (k : Nat) : cycs a b (k + 1) = cycs a b k ++ [cyc a b (k : Int)] := by
  unfold cycs
  rw [List.range_succ, List.map_append]
  rfl
theorem pow_nonneg (c : Int) (h : 0 ≤ c) (m : Nat) : 0 ≤ c ^ m := by
  induction m with
  | zero => simp
  | succ m ih => rw [Int.pow_succ]; exact Int.mul_nonneg ih h
theorem pow_pos (c : Int) (h : 1 ≤ c) (m : Nat) : 1 ≤ c ^ m := by
  induction m with
  | zero => simp
  | succ m ih =>
    rw [Int.pow_succ]
    have := Int.mul_le_mul ih h (by omega) (by omega)
    omega
theorem pow_mono (c : Int) (h : 1 ≤ c) (j m : Nat) (hj : j ≤ m) : c ^ j ≤ c ^ m := by
  obtain ⟨d, rfl⟩ := Nat.exists_eq_add_of_le hj
  rw [Int.pow_add]
  have h1 := pow_pos c h d
  have h0 := pow_nonneg c (by omega) j
  have := Int.mul_le_mul_of_nonneg_left h1 h0
  omega
theorem pow_lt (c : Int) (h : 0 ≤ c) (m : Nat) (hm : 1 ≤ m) : c ^ m + 1 ≤ (c + 1) ^ m := by
  obtain ⟨d, rfl⟩ : ∃ d, m = d + 1 := ⟨m - 1, by omega⟩
  clear hm
  induction d with
  | zero => rw [Nat.zero_add, Int.pow_one, Int.pow_one]; exact Int.le_refl _
  | succ d ih =>
    rw [Int.pow_succ c, Int.pow_succ (c + 1)]
    have h0 := pow_nonneg c h (d + 1)
    have h1 : (c ^ (d + 1) + 1) * (c + 1) ≤ (c + 1) ^ (d + 1) * (c + 1) := Int.mul_le_mul_of_nonneg_right ih (by omega)
    have h2 : (c ^ (d + 1) + 1) * (c + 1) = c ^ (d + 1) * c + c ^ (d + 1) + c + 1 := by rw [Int.add_mul, Int.mul_add]; omega
    omega
theorem big_up {c : Int} {j m : Nat} (hc : 0 ≤ c) (hj : j ≤ m) (h : 281474976710656 < c ^ j) : 281474976710656 < c ^ m := by
  by_cases h0 : c = 0
  · subst h0
    cases j with
    | zero => rw [Int.pow_zero] at h; omega
    | succ j => rw [Int.zero_pow (by omega)] at h; omega
  · have := pow_mono c (by omega) j m hj
    omega
theorem colSum_bd (c : Int) (hc : 0 ≤ c) (ms : List Nat) (h : colBig c ms = false) : 0 ≤ colSum c ms ∧ colSum c ms ≤ 281474976710656 * ms.length := by
  induction ms with
  | nil => simp [colSum]
  | cons x l ih =>
    unfold colBig at h
    rw [List.any_cons, Bool.or_eq_false_iff] at h
    have := ih h.2
    have h1 := pow_nonneg c hc x
    have h2 : ¬ 281474976710656 < c ^ x := by simpa [big] using h.1
    unfold colSum at this ⊢
    simp only [List.foldr_cons, List.length_cons]
    omega
theorem colSum_perm (c : Int) {l l' : List Nat} (h : l.Perm l') : colSum c l = colSum c l' := by
  unfold colSum
  exact h.foldr_eq' (fun x _ y _ z => by omega) 0
theorem colSum_up (c : Int) (hc : 0 ≤ c) (ms : List Nat) (h : ∀ m ∈ ms, 1 ≤ m) : colSum c ms + ms.length ≤ colSum (c + 1) ms := by
  induction ms with
  | nil => simp [colSum]
  | cons x l ih =>
    have := ih (fun m hm => h m (by simp [hm]))
    have h1 := pow_lt c hc x (h x (by simp))
    unfold colSum at this ⊢
    simp only [List.foldr_cons, List.length_cons]
    omega
/-- The error and the number of colourings. -/
instance (a b : Int) : Decidable (okSide a b) := by unfold okSide; infer_instance
def colE (a b c : Int) : Int := if ¬ okSide a b then 4 else if c < 0 ∨ 16 < c then 1 else if colBig c (cycs a b (cnt a b).toNat) then 2 else 0
def colV (a b c : Int) : Int := if colE a b c = 0 then colSum c (cycs a b (cnt a b).toNat) / cnt a b else 0
theorem okSide_comm {a b : Int} : okSide a b ↔ okSide b a := by unfold okSide; omega
theorem cnt_comm (a b : Int) : cnt a b = cnt b a := by unfold cnt; split <;> split <;> omega
theorem colE_turned (a b c : Int) : colE a b c = colE b a c := by
  unfold colE
  by_cases h : okSide a b
  · have h' := okSide_comm.1 h
    unfold colBig
    simp only [h, h', not_true_eq_false, if_false, (side_good h).1.any_eq]
  · have h' : ¬ okSide b a := fun k => h (okSide_comm.1 k)
    simp only [h, h', not_false_eq_true, if_true]
theorem colE_zero {a b c : Int} (h : colE a b c = 0) : okSide a b ∧ 0 ≤ c ∧ c ≤ 16 := by
  unfold colE at h
  by_cases h1 : okSide a b
  · rw [if_neg (fun k => k h1)] at h
    by_cases h2 : c < 0 ∨ 16 < c
    · rw [if_pos h2] at h; omega
    · exact ⟨h1, by omega, by omega⟩
  · rw [if_pos h1] at h; omega
theorem colV_turned (a b c : Int) : colV a b c = colV b a c := by
  unfold colV
  rw [← colE_turned a b c, cnt_comm b a]
  split
  · rename_i h
    rw [colSum_perm c (side_good (colE_zero h).1).1, cnt_comm b a]
  · rfl
theorem colV_more {a b c : Int} (h : colE a b c = 0) (k : colE a b (c + 1) = 0) : colV a b c < colV a b (c + 1) := by
  unfold colV
  rw [if_pos h, if_pos k]
  obtain ⟨h1, h2, _⟩ := colE_zero h
  have := colSum_up c h2 _ (side_good h1).2
  have hl : (cycs a b (cnt a b).toNat).length = (cnt a b).toNat := by simp [cycs]
  have hc := cnt_bd a b
  rw [hl] at this
  generalize colSum c _ = x at *
  generalize colSum (c + 1) _ = y at *
  have h5 : (x + cnt a b) / cnt a b = x / cnt a b + 1 := by rw [Int.add_ediv_of_dvd_right (Int.dvd_refl _), Int.ediv_self (by omega)]
  have h6 : (x + cnt a b) / cnt a b ≤ y / cnt a b := Int.ediv_le_ediv (by omega) (by omega)
  omega
theorem col_six : colE 2 2 2 = 0 ∧ colV 2 2 2 = 6 := by
  have h : okSide 2 2 := by unfold okSide; omega
  have e : cycs 2 2 (cnt 2 2).toNat = [4, 2, 2, 2, 3, 1, 1, 3] := by decide +kernel
  have k : colE 2 2 2 = 0 := by
    unfold colE
    rw [if_neg (fun k => k h), if_neg (by omega), e]
    decide +kernel
  refine ⟨k, ?_⟩
  unfold colV
  rw [if_pos k, e]
  decide +kernel
end Go.Proofs.Ytmkckpiehffccaa
