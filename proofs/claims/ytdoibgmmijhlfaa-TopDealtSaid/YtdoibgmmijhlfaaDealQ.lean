/- Plain: decks of cards: fresh, shuffled, dealt; draws. -/

namespace Go.Proofs.Ytdoibgmmijhlfaa
set_option linter.unusedVariables false
set_option linter.unusedSimpArgs false
def freshL (n : Nat) : List Int := (List.range n).map Int.ofNat
theorem freshL_len (n : Nat) : (freshL n).length = n := by simp [freshL]
theorem freshL_succ (n : Nat) : freshL (n + 1) = freshL n ++ [(n : Int)] := by simp [freshL, List.range_succ]
theorem freshL_mem {n : Nat} {z : Int} : z ∈ freshL n ↔ 0 ≤ z ∧ z < n := by
  unfold freshL
  rw [List.mem_map]
  constructor
  · rintro ⟨k, hk, rfl⟩
    have := List.mem_range.1 hk
    simp only [Int.ofNat_eq_natCast]
    omega
  · intro ⟨h0, h1⟩
    obtain ⟨k, hk⟩ := Int.eq_ofNat_of_zero_le h0
    exact ⟨k, List.mem_range.2 (by omega), by rw [hk]; rfl⟩
theorem freshL_lt (n : Nat) : (freshL n).Pairwise (· < ·) := by
  induction n with
  | zero => simp [freshL]
  | succ n ih =>
    rw [freshL_succ, List.pairwise_append]
    refine ⟨ih, by simp, ?_⟩
    intro a ha b hb
    have := freshL_mem.1 ha
    simp at hb
    omega
theorem lt_nodup {l : List Int} (h : l.Pairwise (· < ·)) : l.Nodup := h.imp (fun h => by omega)
/-- Draws that fit a deck of n cards. -/
def FitsL (n : Int) (d : List Int) : Prop := (d.length : Int) = max n 1 - 1 ∧ ∀ j, j < d.length → 0 ≤ d.getD j 0 ∧ d.getD j 0 ≤ n - 1 - j
/-- A deck that is fine: different cards from 0 to 51. -/
def OkD (l : List Int) : Prop := l.length ≤ 52 ∧ (∀ z ∈ l, 0 ≤ z ∧ z < 52) ∧ l.Nodup
theorem okD_fresh : OkD (freshL 52) := ⟨by rw [freshL_len]; omega, fun z hz => by have := freshL_mem.1 hz; omega, lt_nodup (freshL_lt 52)⟩
theorem OkD.perm {l k : List Int} (h : OkD l) (p : k.Perm l) : OkD k := ⟨by rw [p.length_eq]; exact h.1, fun z hz => h.2.1 z (p.mem_iff.1 hz), p.nodup_iff.2 h.2.2⟩
theorem OkD.sub {l k : List Int} (h : OkD l) (p : k.Sublist l) : OkD k := ⟨Nat.le_trans p.length_le h.1, fun z hz => h.2.1 z (p.subset hz), p.nodup h.2.2⟩
/-- Two cards change places. -/
def swapL (l : List Int) (i d : Nat) : List Int := (l.set i (l.getD d 0)).set d (l.getD i 0)
theorem swapL_len (l : List Int) (i d : Nat) : (swapL l i d).length = l.length := by simp [swapL]
theorem swapL_perm {l : List Int} {i d : Nat} (hi : i < l.length) (hd : d < l.length) : (swapL l i d).Perm l := by
  rw [List.perm_iff_count]
  intro a
  unfold swapL
  have e1 : l.getD d 0 = l[d] := by simp [List.getD_eq_getElem?_getD, hd]
  have e2 : l.getD i 0 = l[i] := by simp [List.getD_eq_getElem?_getD, hi]
  rw [e1, e2, List.count_set (by simpa using hd), List.count_set hi]
  have hc1 : l[i] = a → 0 < l.count a := fun h => List.count_pos_iff.2 (h ▸ List.getElem_mem hi)
  have hc2 : l[d] = a → 0 < l.count a := fun h => List.count_pos_iff.2 (h ▸ List.getElem_mem hd)
  rw [List.getElem_set]
  by_cases hid : i = d
  · subst hid
    simp only [if_true]
    split
    · rename_i h
      have := hc1 (by simpa using h)
      omega
    · omega
  · rw [if_neg hid]
    by_cases h1 : l[i] = a <;> by_cases h2 : l[d] = a <;> simp [h1, h2] <;> simp_all <;> omega
/-- The cards of hand i, of the first t cards. -/
def dealt (l : List Int) (t i : Nat) : List Int := ((List.range t).filter (fun j => j % 4 = i)).map (l.getD · 0)
theorem dealt_zero (l : List Int) (i : Nat) : dealt l 0 i = [] := rfl
theorem dealt_succ (l : List Int) (t i : Nat) : dealt l (t + 1) i = dealt l t i ++ (if t % 4 = i then [l.getD t 0] else []) := by
  unfold dealt
  rw [List.range_succ, List.filter_append, List.map_append]
  congr 1
  by_cases h : t % 4 = i <;> simp [h]
theorem dealt_len {l : List Int} {t i : Nat} : (dealt l t i).length ≤ t := by
  unfold dealt
  rw [List.length_map]
  exact Nat.le_trans (List.length_filter_le _ _) (by simp)
theorem deal_idx : (((List.range 20).filter (fun j => j % 4 = 0) ++ ((List.range 20).filter (fun j => j % 4 = 1) ++ ((List.range 20).filter (fun j => j % 4 = 2) ++ (List.range 20).filter (fun j => j % 4 = 3)))) ++ (List.range 32).map (· + 20)).Perm (List.range 52) :=
  List.isPerm_iff.1 (by decide +kernel)
theorem map_getD {l : List Int} {n : Nat} (h : l.length = n) : (List.range n).map (l.getD · 0) = l := by
  subst h
  apply List.ext_getElem
  · simp
  · intro i h1 h2
    simp [h2]
theorem deal_perm {l : List Int} (h : l.length = 52) : ([dealt l 20 0, dealt l 20 1, dealt l 20 2, dealt l 20 3].flatten ++ l.drop 20).Perm l := by
  have p := deal_idx.map (l.getD · 0)
  rw [map_getD h] at p
  have e : l.drop 20 = ((List.range 32).map (· + 20)).map (l.getD · 0) := by
    apply List.ext_getElem
    · simp [h]
    · intro i h1 h2
      have : i < 32 := by simpa [h] using h1
      simp [List.getElem_drop, h, Nat.add_comm 20 i, show i + 20 < 52 by omega]
  rw [e]
  refine List.Perm.trans (List.Perm.of_eq ?_) p
  simp [dealt]
theorem dealt20 {l : List Int} (i : Nat) (hi : i < 4) : (dealt l 20 i).length = 5 := by
  unfold dealt
  rw [List.length_map]
  rcases (by omega : i = 0 ∨ i = 1 ∨ i = 2 ∨ i = 3) with rfl | rfl | rfl | rfl <;> decide +kernel
/-- A sorted deck. -/
theorem sort_fresh {l : List Int} {n : Nat} (h : l.Perm (freshL n)) : (l.mergeSort fun x y => decide (x ≤ y)) = freshL n := by
  refine List.Perm.eq_of_pairwise (le := (· ≤ ·)) (fun a b _ _ h1 h2 => by omega) ?_ ((freshL_lt n).imp (fun h => by omega)) ((List.mergeSort_perm l _).trans h)
  have := List.pairwise_mergeSort (le := fun x y : Int => decide (x ≤ y)) (fun a b c h1 h2 => by simp at *; omega) (fun a b => by simp; omega) l
  exact this.imp (fun h => by simpa using h)
/-- One row of draws more. -/
def stepC (n : Int) (out d : List Int) : List Int := (List.range out.length).map fun j => (out.getD j 0 + d.getD j 0) % (n - j)
theorem stepC_len (n : Int) (out d : List Int) : (stepC n out d).length = out.length := by simp [stepC]
theorem stepC_get {n : Int} {out d : List Int} {j : Nat} (h : j < out.length) : (stepC n out d).getD j 0 = (out.getD j 0 + d.getD j 0) % (n - j) := by simp [stepC, List.getD_eq_getElem?_getD, h]
def combM (n : Int) (l : List (List Int)) : List Int := l.foldl (stepC n) (List.replicate (max n 1 - 1).toNat 0)
theorem combM_fits {n : Int} (hn : 0 ≤ n) : ∀ (l : List (List Int)) (o : List Int), FitsL n o → FitsL n (l.foldl (stepC n) o)
  | [], o, h => h
  | d :: l, o, h => combM_fits hn l _ ⟨by rw [stepC_len]; exact h.1, fun j hj => by
      rw [stepC_len] at hj
      rw [stepC_get hj]
      have h1 := h.1
      have hp : 0 < n - j := by omega
      have a := Int.emod_nonneg (o.getD j 0 + d.getD j 0) (show n - j ≠ 0 by omega)
      have b := Int.emod_lt_of_pos (o.getD j 0 + d.getD j 0) hp
      omega⟩
theorem fits_zero {n : Int} (hn : 0 ≤ n) : FitsL n (List.replicate (max n 1 - 1).toNat 0) := by
  refine ⟨by simp; omega, fun j hj => ?_⟩
  have hj' : j < (max n 1 - 1).toNat := by simpa using hj
  have : ∀ k, (List.replicate k (0 : Int)).getD j 0 = 0 := fun k => by
    rw [List.getD_eq_getElem?_getD, List.getElem?_replicate]
    split <;> rfl
  replace this := this (max n 1 - 1).toNat
  rw [this]
  omega
end Go.Proofs.Ytdoibgmmijhlfaa
