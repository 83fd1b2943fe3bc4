/- Plain: lists of heaps that are divided: the value of a list is the sum of its heaps' values; few lists have one weight. -/
import Derived.Test.YthgbdonjheengaaNimP
namespace Go.Proofs.Ythgbdonjheengaa
set_option linter.unusedVariables false
def ins (x : Nat) : List Nat → List Nat
  | [] => [x]
  | y :: l => if x ≤ y then x :: y :: l else y :: ins x l
def splitsAt (l : List Nat) (i : Nat) : List (List Nat) := (List.range ((l.getD i 0 - 1) / 2)).map fun j => ins (l.getD i 0 - (j + 1)) (ins (j + 1) (l.eraseIdx i))
/-- The lists of heaps after all moves. -/
def nxS (l : List Nat) : List (List Nat) := if 64 < l.length ∨ 64 < l.sum then [] else (List.range l.length).flatMap (splitsAt l)
def rkS (l : List Nat) : Nat := (l.map fun h => h - 1).sum
def wtS (l : List Nat) : Nat := (l.map fun h => max h 1).sum
theorem ins_perm (x : Nat) : ∀ l, (ins x l).Perm (x :: l)
  | [] => List.Perm.refl _
  | y :: l => by
    unfold ins
    split
    · exact List.Perm.refl _
    · exact ((ins_perm x l).cons y).trans (List.Perm.swap x y l)
theorem ins_sorted (x : Nat) : ∀ l : List Nat, l.Pairwise (· ≤ ·) → (ins x l).Pairwise (· ≤ ·)
  | [], _ => by simp [ins]
  | y :: l, h => by
    obtain ⟨h1, h2⟩ := List.pairwise_cons.1 h
    unfold ins
    split
    · next hxy =>
      refine List.pairwise_cons.2 ⟨fun z hz => ?_, h⟩
      rcases List.mem_cons.1 hz with rfl | hz
      · exact hxy
      · have := h1 z hz; omega
    · next hxy =>
      refine List.pairwise_cons.2 ⟨fun z hz => ?_, ins_sorted x l h2⟩
      rcases List.mem_cons.1 ((ins_perm x l).mem_iff.1 hz) with rfl | hz
      · omega
      · exact h1 z hz
theorem sum_perm {l l' : List Nat} (f : Nat → Nat) (h : l.Perm l') : (l.map f).sum = (l'.map f).sum := by
  induction h with
  | nil => rfl
  | cons x _ ih => simp [ih]
  | swap x y l => simp; omega
  | trans _ _ h1 h2 => rw [h1, h2]
theorem cons_erase : ∀ (l : List Nat) (i : Nat) (hi : i < l.length), (l[i] :: l.eraseIdx i).Perm l
  | [], _, hi => absurd hi (Nat.not_lt_zero _)
  | x :: l, 0, _ => List.Perm.refl _
  | x :: l, i + 1, hi => (List.Perm.swap x (l[i]'(Nat.lt_of_succ_lt_succ hi)) (l.eraseIdx i)).trans ((cons_erase l i (Nat.lt_of_succ_lt_succ hi)).cons x)
theorem split_mem {l t : List Nat} (h : t ∈ nxS l) : ∃ i, ∃ hi : i < l.length, ∃ a, 1 ≤ a ∧ 2 * a < l[i] ∧ t = ins (l[i] - a) (ins a (l.eraseIdx i)) := by
  unfold nxS at h
  split at h
  · cases h
  · obtain ⟨i, hi, ht⟩ := List.mem_flatMap.1 h
    have hi := List.mem_range.1 hi
    obtain ⟨j, hj, rfl⟩ := List.mem_map.1 ht
    have hj := List.mem_range.1 hj
    have e : l.getD i 0 = l[i] := by simp [List.getD, hi]
    rw [e] at hj ⊢
    exact ⟨i, hi, j + 1, by omega, by omega, rfl⟩
theorem mem_split {l : List Nat} {i a : Nat} (hi : i < l.length) (h1 : 1 ≤ a) (h2 : 2 * a < l[i]) (hl : l.length ≤ 64) (hs : l.sum ≤ 64) : ins (l[i] - a) (ins a (l.eraseIdx i)) ∈ nxS l := by
  unfold nxS
  rw [if_neg (by omega)]
  refine List.mem_flatMap.2 ⟨i, List.mem_range.2 hi, ?_⟩
  have e : l.getD i 0 = l[i] := by simp [List.getD, hi]
  refine List.mem_map.2 ⟨a - 1, List.mem_range.2 (by omega), ?_⟩
  rw [e, show a - 1 + 1 = a by omega]
theorem split_perm (l : List Nat) (i a b : Nat) : (ins b (ins a (l.eraseIdx i))).Perm (a :: b :: l.eraseIdx i) := (ins_perm b _).trans (((ins_perm a _).cons b).trans (List.Perm.swap a b _))
theorem sum_split (f : Nat → Nat) {l : List Nat} {i : Nat} (hi : i < l.length) (a b : Nat) : ((ins b (ins a (l.eraseIdx i))).map f).sum + f l[i] = f a + f b + (l.map f).sum := by
  rw [sum_perm f (split_perm l i a b), ← sum_perm f (cons_erase l i hi)]
  simp
  omega
theorem falls_split : Falls nxS rkS := by
  intro l t ht
  obtain ⟨i, hi, a, h1, h2, rfl⟩ := split_mem ht
  have := sum_split (fun h => h - 1) hi a (l[i] - a)
  show rkS _ < rkS l
  unfold rkS
  omega
theorem wt_split {l t : List Nat} (ht : t ∈ nxS l) : wtS t = wtS l := by
  obtain ⟨i, hi, a, h1, h2, rfl⟩ := split_mem ht
  have := sum_split (fun h => max h 1) hi a (l[i] - a)
  unfold wtS
  omega
theorem sorted_split {l t : List Nat} (ht : t ∈ nxS l) (hs : l.Pairwise (· ≤ ·)) : t.Pairwise (· ≤ ·) := by
  obtain ⟨i, hi, a, h1, h2, rfl⟩ := split_mem ht
  exact ins_sorted _ _ (ins_sorted _ _ (hs.sublist (List.eraseIdx_sublist ..)))
theorem len_wt : ∀ l, l.length ≤ wtS l
  | [] => Nat.le_refl _
  | a :: l => by have := len_wt l; unfold wtS at *; simp; omega
theorem sum_wt : ∀ l : List Nat, l.sum ≤ wtS l
  | [] => Nat.le_refl _
  | a :: l => by have := sum_wt l; unfold wtS at *; simp; omega
def gS (h : Nat) : Nat := gr nxS rkS [h]
def xS : List Nat → Nat
  | [] => 0
  | h :: l => gS h ^^^ xS l
theorem xor_swap (a b c : Nat) : a ^^^ (b ^^^ c) = b ^^^ (a ^^^ c) := by rw [← Nat.xor_assoc, Nat.xor_comm a b, Nat.xor_assoc]
theorem xS_perm {l l' : List Nat} (h : l.Perm l') : xS l = xS l' := by
  induction h with
  | nil => rfl
  | cons x _ ih => exact congrArg (gS x ^^^ ·) ih
  | swap x y l => exact xor_swap _ _ _
  | trans _ _ h1 h2 => rw [h1, h2]
def opts (A : Nat → List Nat) : List Nat → List Nat
  | [] => []
  | h :: l => (A h).map (· ^^^ xS l) ++ (opts A l).map (gS h ^^^ ·)
theorem opts_mex {A : Nat → List Nat} : ∀ l : List Nat, (∀ h ∈ l, IsMex (A h) (gS h)) → IsMex (opts A l) (xS l)
  | [], _ => ⟨fun h => (List.not_mem_nil h), fun _ hk => absurd hk (Nat.not_lt_zero _)⟩
  | h :: l, H => xor_mex (H h (List.mem_cons_self ..)) (opts_mex l fun x hx => H x (List.mem_cons_of_mem _ hx))
theorem opts_mem {A : Nat → List Nat} {x : Nat} : ∀ l : List Nat, x ∈ opts A l ↔ ∃ i, ∃ hi : i < l.length, ∃ v ∈ A l[i], x = v ^^^ xS (l.eraseIdx i)
  | [] => ⟨fun h => absurd h List.not_mem_nil, fun ⟨_, hi, _⟩ => absurd hi (Nat.not_lt_zero _)⟩
  | h :: l => by
    constructor
    · intro hx
      rcases List.mem_append.1 hx with hx | hx
      · obtain ⟨v, hv, rfl⟩ := List.mem_map.1 hx
        exact ⟨0, Nat.succ_pos _, v, hv, rfl⟩
      · obtain ⟨y, hy, rfl⟩ := List.mem_map.1 hx
        obtain ⟨i, hi, v, hv, rfl⟩ := (opts_mem l).1 hy
        exact ⟨i + 1, Nat.succ_lt_succ hi, v, hv, xor_swap _ _ _⟩
    · rintro ⟨i, hi, v, hv, rfl⟩
      match i, hi, hv with
      | 0, _, hv => exact List.mem_append.2 (.inl (List.mem_map.2 ⟨v, hv, rfl⟩))
      | i + 1, hi, hv => exact List.mem_append.2 (.inr (List.mem_map.2 ⟨_, (opts_mem l).2 ⟨i, Nat.lt_of_succ_lt_succ hi, v, hv, rfl⟩, xor_swap _ _ _⟩))
theorem wt_one {h : Nat} {l : List Nat} (hm : h ∈ l) : max h 1 ≤ wtS l := le_sum (List.mem_map.2 ⟨h, hm, rfl⟩)
theorem gr_split : ∀ n l, rkS l ≤ n → wtS l ≤ 64 → gr nxS rkS l = xS l
  | n, l, hn, hw => by
    rw [gr_eq falls_split]
    have hIH : ∀ t, rkS t < rkS l → wtS t ≤ 64 → gr nxS rkS t = xS t := fun t ht hwt => by
      match n with
      | 0 => omega
      | n + 1 => exact gr_split n t (by omega) hwt
    have hl := len_wt l
    have hsum := sum_wt l
    refine mex_eq ((opts_mex (A := fun h => (nxS [h]).map (gr nxS rkS)) l fun h hm => gr_is falls_split [h]).congr fun x => ?_)
    rw [opts_mem]
    constructor
    · rintro ⟨i, hi, v, hv, rfl⟩
      obtain ⟨t, ht, rfl⟩ := List.mem_map.1 hv
      obtain ⟨j, hj, a, h1, h2, rfl⟩ := split_mem ht
      obtain rfl : j = 0 := by simp at hj; omega
      have h2 : 2 * a < l[i] := h2
      have hm := mem_split hi h1 h2 (by omega) (by omega)
      refine List.mem_map.2 ⟨_, hm, ?_⟩
      have hr := falls_split l _ hm
      have hx1 := hIH _ hr (by rw [wt_split hm]; exact hw)
      have hr2 : rkS (ins ([l[i]][0] - a) (ins a ([l[i]].eraseIdx 0))) < rkS l := Nat.lt_of_lt_of_le (falls_split _ _ ht) (by
        show rkS [l[i]] ≤ rkS l
        have : l[i] - 1 ≤ rkS l := le_sum (List.mem_map.2 ⟨l[i], List.getElem_mem _, rfl⟩)
        unfold rkS at *
        simpa using this)
      have hx2 := hIH _ hr2 (by
        rw [wt_split ht]
        have := wt_one (l := l) (List.getElem_mem hi)
        show wtS [l[i]] ≤ 64
        unfold wtS at *
        simp
        omega)
      rw [hx1, hx2, xS_perm (split_perm _ _ _ _), xS_perm (split_perm _ _ _ _)]
      show gS a ^^^ (gS (l[i] - a) ^^^ xS (l.eraseIdx i)) = (gS a ^^^ (gS (l[i] - a) ^^^ 0)) ^^^ xS (l.eraseIdx i)
      rw [Nat.xor_zero, Nat.xor_assoc]
    · intro hx
      obtain ⟨t, ht, rfl⟩ := List.mem_map.1 hx
      have hr := falls_split l _ ht
      have hx1 := hIH _ hr (by rw [wt_split ht]; exact hw)
      obtain ⟨i, hi, a, h1, h2, rfl⟩ := split_mem ht
      have hw1 := wt_one (l := l) (List.getElem_mem hi)
      have hm : ins ([l[i]][0] - a) (ins a ([l[i]].eraseIdx 0)) ∈ nxS [l[i]] := mem_split (l := [l[i]]) (Nat.succ_pos 0) h1 h2 (by simp) (by simp; omega)
      have hr2 : rkS (ins ([l[i]][0] - a) (ins a ([l[i]].eraseIdx 0))) < rkS l := Nat.lt_of_lt_of_le (falls_split _ _ hm) (by
        show rkS [l[i]] ≤ rkS l
        have : l[i] - 1 ≤ rkS l := le_sum (List.mem_map.2 ⟨l[i], List.getElem_mem _, rfl⟩)
        unfold rkS at *
        simpa using this)
      have hx2 := hIH _ hr2 (by
        rw [wt_split hm]
        show wtS [l[i]] ≤ 64
        unfold wtS at *
        simp
        omega)
      refine ⟨i, hi, _, List.mem_map.2 ⟨_, hm, rfl⟩, ?_⟩
      rw [hx1, hx2, xS_perm (split_perm _ _ _ _), xS_perm (split_perm _ _ _ _)]
      show gS a ^^^ (gS (l[i] - a) ^^^ xS (l.eraseIdx i)) = (gS a ^^^ (gS (l[i] - a) ^^^ 0)) ^^^ xS (l.eraseIdx i)
      rw [Nat.xor_zero, Nat.xor_assoc]
/-- All sorted lists of a weight whose heaps are not below a number. -/
def enS : Nat → Nat → Nat → List (List Nat)
  | 0, _, _ => []
  | f + 1, lo, W => (if W = 0 then [[]] else []) ++ (List.range (W + 1)).flatMap fun h => if lo ≤ h ∧ max h 1 ≤ W then (enS f h (W - max h 1)).map (h :: ·) else []
theorem enS_all : ∀ (l : List Nat) (f lo : Nat), l.length < f → l.Pairwise (· ≤ ·) → (∀ h ∈ l, lo ≤ h) → l ∈ enS f lo (wtS l)
  | _, 0, _, hf, _, _ => absurd hf (Nat.not_lt_zero _)
  | [], f + 1, lo, _, _, _ => by simp [enS, wtS]
  | h :: l, f + 1, lo, hf, hs, hlo => by
    obtain ⟨h1, h2⟩ := List.pairwise_cons.1 hs
    have e : wtS (h :: l) = max h 1 + wtS l := by simp [wtS]
    refine List.mem_append.2 (.inr (List.mem_flatMap.2 ⟨h, List.mem_range.2 (by omega), ?_⟩))
    rw [if_pos ⟨hlo h (List.mem_cons_self ..), by omega⟩, e, show max h 1 + wtS l - max h 1 = wtS l by omega]
    exact List.mem_map.2 ⟨l, enS_all l f h (by simpa using hf) h2 h1, rfl⟩
theorem enS_few : ∀ W, W < 19 → (enS (W + 1) 0 W).length ≤ 2000 ∧ (W < 7 → (enS (W + 1) 0 W).length ≤ 100) := by decide +kernel
theorem enS_mem {l : List Nat} (hs : l.Pairwise (· ≤ ·)) : l ∈ enS (wtS l + 1) 0 (wtS l) := enS_all l _ 0 (by have := len_wt l; omega) hs fun _ _ => Nat.zero_le _
end Go.Proofs.Ythgbdonjheengaa
