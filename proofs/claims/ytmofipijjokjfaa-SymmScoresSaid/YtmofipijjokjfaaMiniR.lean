/- The moves of Line, one by one, and the move that wins, as plain data. No program. -/
import Derived.Test.YtmofipijjokjfaaGMini
namespace Go.Proofs.Ytmofipijjokjfaa
set_option linter.unusedVariables false
theorem tree_le {R : RulesM} {P : PosM} {m : MoveM} (h : m ∈ movesM R P) (d : Nat) : treeM R d (makeM R P m) ≤ treeM R (d + 1) P := by
  obtain ⟨k, hk⟩ := List.getElem?_of_mem h
  have h2 : treeM R (d + 1) P = 1 + ((movesM R P).map fun m => treeM R d (makeM R P m)).sum := rfl
  have h3 := partS_le (f := fun m => treeM R d (makeM R P m)) (l := movesM R P) (fun m => by have := tree_pos R d (makeM R P m); show 0 ≤ treeM R d (makeM R P m); omega) (k + 1)
  rw [partS_succ hk] at h3
  have h4 := partS_nonneg (f := fun m => treeM R d (makeM R P m)) (l := movesM R P) (fun m => by have := tree_pos R d (makeM R P m); show 0 ≤ treeM R d (makeM R P m); omega) k
  omega
theorem line_cons {R : RulesM} {P : PosM} {d : Nat} (h : resultM R P = 0) : lineM R (d + 1) P = (firstM R d P).1 :: lineM R d (makeM R P (firstM R d P).1) := if_pos h
theorem line_step {R : RulesM} (hV : Valid R) : ∀ d P, Sound R P → d ≤ 90 → ∀ k m, (lineM R d P)[k]? = some m → Sound R (endM R P ((lineM R d P).take k)) ∧ m ∈ listM R (endM R P ((lineM R d P).take k))
  | 0, P, hS, hd, k, m, h => by
    rw [show lineM R 0 P = [] from rfl] at h
    simp at h
  | d + 1, P, hS, hd, k, m, h => by
    by_cases hr : resultM R P = 0
    · have hf := (first_mem hS.turn hr (d := d) (by omega)).1
      rw [line_cons hr] at h ⊢
      rcases k with _ | k
      · simp only [List.getElem?_cons_zero, Option.some.injEq] at h
        subst h
        exact ⟨hS, hf⟩
      · simp only [List.getElem?_cons_succ] at h
        exact line_step hV d _ (sound_make hV hS (mem_listM.1 hf)) (by omega) k m h
    · rw [show lineM R (d + 1) P = [] from if_neg hr] at h
      simp at h
theorem line_end {R : RulesM} (hV : Valid R) : ∀ d P, Sound R P → d ≤ 90 → Sound R (endM R P (lineM R d P)) ∧ treeM R (d - (lineM R d P).length) (endM R P (lineM R d P)) ≤ treeM R d P
  | 0, P, hS, hd => ⟨hS, Int.le_refl _⟩
  | d + 1, P, hS, hd => by
    by_cases hr : resultM R P = 0
    · have hf := (first_mem hS.turn hr (d := d) (by omega)).1
      have hm : (firstM R d P).1 ∈ movesM R P := by unfold movesM; rw [if_pos hr]; exact hf
      obtain ⟨i1, i2⟩ := line_end hV d _ (sound_make hV hS (mem_listM.1 hf)) (by omega)
      rw [line_cons hr, List.length_cons, Nat.add_sub_add_right]
      exact ⟨i1, Int.le_trans i2 (tree_le hm d)⟩
    · rw [show lineM R (d + 1) P = [] from if_neg hr]
      exact ⟨hS, Int.le_refl _⟩
theorem end_succ {R : RulesM} {P : PosM} {L : List MoveM} {k : Nat} {m : MoveM} (h : L[k]? = some m) : endM R P (L.take (k + 1)) = makeM R (endM R P (L.take k)) m := by
  unfold endM
  rw [List.take_add_one, h, List.foldl_append]
  rfl
theorem near_bd {n : Int} (h0 : -1000 ≤ n) (h1 : n ≤ 1000) : -1000 ≤ nearM (-n) ∧ nearM (-n) ≤ 1000 := by
  unfold nearM
  split
  · omega
  · split <;> omega
theorem back_bd {z : Int} (h0 : -1000 ≤ z) (h1 : z ≤ 1000) : ∀ k, -1000 ≤ backM k z ∧ backM k z ≤ 1000
  | 0 => ⟨h0, h1⟩
  | k + 1 => near_bd (back_bd h0 h1 k).1 (back_bd h0 h1 k).2
theorem of_bd {R : RulesM} {P : PosM} (hT : P.turn = 0 ∨ P.turn = 1) {d : Nat} (hd : d ≤ 100) : -1000 ≤ ofM R d P ∧ ofM R d P ≤ 1000 := by
  have hb := of_bound R d P hT hd
  unfold boundB at hb
  omega
/-- The best move has the score 999 just where it ends the game with a win. -/
theorem first_wins {R : RulesM} {P : PosM} (hT : P.turn = 0 ∨ P.turn = 1) (h : resultM R P = 0) {d : Nat} (hd : d ≤ 20) : (firstM R d P).2 = 999 ↔ resultM R (makeM R P (firstM R d P).1) = 1 + P.turn := by
  have hf := first_mem hT h (d := d) (by omega)
  have hQ := turn_make hT (R := R) (firstM R d P).1
  have hQt : (makeM R P (firstM R d P).1).turn = 1 - P.turn := rfl
  rw [hf.2]
  generalize makeM R P (firstM R d P).1 = Q at *
  by_cases hq : resultM R Q = 0
  · rw [hq]
    have hb : -999 ≤ ofM R d Q ∧ ofM R d Q ≤ 999 := by
      rcases d with _ | k
      · rw [show ofM R 0 Q = 0 from if_pos hq]; omega
      · have g := first_mem (R := R) hQ hq (d := k) (by omega)
        rw [← first_score hq k, g.2]
        have hb := of_bd (R := R) (P := makeM R Q (firstM R k Q).1) (turn_make hQ _) (d := k) (by omega)
        unfold nearM
        split
        · omega
        · split <;> omega
    constructor
    · intro hn
      unfold nearM at hn
      split at hn
      · omega
      · split at hn <;> omega
    · intro hn
      omega
  · rw [of_over hq d]
    unfold overM nearM
    constructor
    · intro hn
      split at hn
      all_goals (try split at hn)
      all_goals (try split at hn)
      all_goals (try split at hn)
      all_goals omega
    · intro hn
      rw [if_neg (show ¬ resultM R Q = 1 + Q.turn by omega), if_pos (show resultM R Q = 2 - Q.turn by omega)]
      decide
end Go.Proofs.Ytmofipijjokjfaa
