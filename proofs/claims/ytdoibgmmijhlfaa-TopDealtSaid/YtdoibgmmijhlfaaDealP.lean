/- Plain: winners of hands, and what reversing the hands does. -/

namespace Go.Proofs.Ytdoibgmmijhlfaa
set_option linter.unusedVariables false
set_option linter.unusedSimpArgs false
/-- One hand more: the places of the best ones so far, and their value. -/
def winS (v : Int) (i : Nat) (s : List Int × Int) : List Int × Int := if s.2 < v then ([(i : Int)], v) else if v = s.2 then (s.1 ++ [(i : Int)], s.2) else s
/-- The winners of hands with these values, from place i on. -/
def winF : List Int → Nat → List Int × Int → List Int × Int
  | [], _, s => s
  | v :: l, i, s => winF l (i + 1) (winS v i s)
def winM (l : List Int) : List Int := (winF l 0 ([], -1)).1
/-- What the law asks of two rows of winners. -/
def winOk (w v : List Int) : Bool := decide (w.length ≠ 0) && decide (v.length = w.length) && (List.range w.length).all fun k => decide (v.getD (v.length - 1 - k) 0 = 3 - w.getD k 0)
/-- The places of value M. -/
def idxL (M : Int) : List Int → Nat → List Int
  | [], _ => []
  | v :: l, i => (if v = M then [(i : Int)] else []) ++ idxL M l (i + 1)
def maxL (l : List Int) (m : Int) : Int := l.foldl (fun m v => if m < v then v else m) m
theorem maxL_ge : ∀ (l : List Int) (m : Int), m ≤ maxL l m ∧ (∀ v ∈ l, v ≤ maxL l m) ∧ (maxL l m = m ∨ maxL l m ∈ l)
  | [], m => ⟨Int.le_refl m, by simp, .inl rfl⟩
  | v :: l, m => by
    have e : maxL (v :: l) m = maxL l (if m < v then v else m) := rfl
    rw [e]
    obtain ⟨h1, h2, h3⟩ := maxL_ge l (if m < v then v else m)
    have hm : m ≤ (if m < v then v else m) ∧ v ≤ (if m < v then v else m) := by split <;> omega
    refine ⟨by omega, ?_, ?_⟩
    · intro x hx
      rcases List.mem_cons.1 hx with rfl | hx
      · omega
      · exact h2 x hx
    · rcases h3 with h | h
      · rw [h]
        split
        · exact .inr (by simp)
        · exact .inl rfl
      · exact .inr (by simp [h])
theorem winF_is : ∀ (l : List Int) (i : Nat) (acc : List Int) (m : Int), (winF l i (acc, m)).1 = (if m = maxL l m then acc else []) ++ idxL (maxL l m) l i
  | [], i, acc, m => by simp [winF, idxL, maxL]
  | v :: l, i, acc, m => by
    have e : maxL (v :: l) m = maxL l (if m < v then v else m) := rfl
    rw [e]
    show (winF l (i + 1) (winS v i (acc, m))).1 = _
    unfold winS
    by_cases h : m < v
    · rw [if_pos h, if_pos h, winF_is l (i + 1) [(i : Int)] v]
      have := (maxL_ge l v).1
      rw [if_neg (show ¬ m = maxL l v by omega)]
      simp only [idxL, List.nil_append]
    · rw [if_neg h, if_neg h]
      have hge := (maxL_ge l m).1
      by_cases h2 : v = m
      · rw [if_pos h2, winF_is l (i + 1) (acc ++ [(i : Int)]) m]
        subst h2
        by_cases h3 : v = maxL l v
        · rw [if_pos h3, if_pos h3]
          simp only [idxL, if_pos h3, List.append_assoc]
        · rw [if_neg h3, if_neg h3]
          simp only [idxL, if_neg h3, List.nil_append]
      · rw [if_neg h2, winF_is l (i + 1) acc m]
        have h3 : ¬ v = maxL l m := by omega
        simp only [idxL, if_neg h3, List.nil_append]
theorem win_ok (a b c d : Int) (ha : 0 ≤ a) (hb : 0 ≤ b) (hc : 0 ≤ c) (hd : 0 ≤ d) : winOk (winM [a, b, c, d]) (winM [d, c, b, a]) = true := by
  unfold winM
  rw [winF_is, winF_is]
  obtain ⟨p1, p2, p3⟩ := maxL_ge [a, b, c, d] (-1)
  obtain ⟨q1, q2, q3⟩ := maxL_ge [d, c, b, a] (-1)
  simp only [List.mem_cons, List.not_mem_nil, or_false, forall_eq_or_imp, forall_eq] at p2 p3 q2 q3
  have e : maxL [d, c, b, a] (-1) = maxL [a, b, c, d] (-1) := by omega
  rw [e]
  generalize maxL [a, b, c, d] (-1) = M at *
  rw [if_neg (show ¬ -1 = M by omega)]
  by_cases h1 : a = M <;> by_cases h2 : b = M <;> by_cases h3 : c = M <;> by_cases h4 : d = M <;> simp only [idxL, h1, h2, h3, h4, if_true, if_false, List.nil_append, List.append_nil, List.cons_append] <;> first | rfl | (exfalso; omega)
end Go.Proofs.Ytdoibgmmijhlfaa
