/- How many pieces there are before and after a move, as plain data. No program. -/
import Derived.Test.YtcfiannlpkofpaaGMakeP
namespace Go.Proofs.Ytcfiannlpkofpaa
set_option linter.unusedVariables false
def posC (cs : List Int) : Nat := (cs.filter fun c => decide (0 < c)).length
def piecesM (P : PosM) : Int := (posC P.cells : Int) + P.hand0.sum + P.hand1.sum
theorem posC_cons (c : Int) (cs : List Int) : posC (c :: cs) = (if 0 < c then 1 else 0) + posC cs := by
  unfold posC
  rw [List.filter_cons]
  by_cases h : 0 < c <;> simp [h]; omega
theorem posC_set {v : Int} : ∀ {cs : List Int} {k : Nat}, k < cs.length → posC (cs.set k v) + (if 0 < cs.getD k 0 then 1 else 0) = posC cs + (if 0 < v then 1 else 0)
  | [], k, h => by simp at h
  | c :: cs, 0, h => by
    rw [List.set_cons_zero, posC_cons, posC_cons]
    simp only [List.getD_cons_zero]
    omega
  | c :: cs, k + 1, h => by
    have ih := posC_set (v := v) (cs := cs) (k := k) (by simpa using h)
    rw [List.set_cons_succ, posC_cons, posC_cons]
    simp only [List.getD_cons_succ]
    omega
theorem sum_set {v : Int} : ∀ {l : List Int} {k : Nat}, k < l.length → (l.set k v).sum + l.getD k 0 = l.sum + v
  | [], k, h => by simp at h
  | c :: cs, 0, h => by
    rw [List.set_cons_zero, List.sum_cons, List.sum_cons]
    simp only [List.getD_cons_zero]
    omega
  | c :: cs, k + 1, h => by
    have ih := sum_set (v := v) (l := cs) (k := k) (by simpa using h)
    rw [List.set_cons_succ, List.sum_cons, List.sum_cons]
    simp only [List.getD_cons_succ]
    omega
theorem getD_set_ne {l : List Int} {i j : Nat} {v : Int} (h : i ≠ j) : (l.set i v).getD j 0 = l.getD j 0 := by
  simp [List.getD, List.getElem?_set_ne h]
theorem posC_le (cs : List Int) : posC cs ≤ cs.length := List.length_filter_le _ _
/-- The hand of the mover, behind the move. -/
def handAft (R : RulesM) (P : PosM) (m : MoveM) : List Int :=
  let took := P.cells.getD m.dst.toNat 0
  let h1 := if 0 ≤ m.src then P.hand else setHand P.hand m.piece.toNat (· - 1)
  if 0 < took ∧ R.keeps = true then setHand h1 ((took - 1) / 2).toNat (fun x => minI (x + 1) 1000) else h1
theorem pieces_make (R : RulesM) (P : PosM) (m : MoveM) (ht : P.turn = 0 ∨ P.turn = 1) :
    piecesM P - piecesM (makeM R P m) = (posC P.cells : Int) - posC (makeM R P m).cells + (P.hand.sum - (handAft R P m).sum) := by
  rcases ht with h | h
  · have e : (makeM R P m).hand0 = handAft R P m ∧ (makeM R P m).hand1 = P.hand1 := by unfold makeM handAft; simp [h]
    unfold piecesM
    rw [e.1, e.2]
    unfold PosM.hand
    rw [if_pos h]
    omega
  · have e : (makeM R P m).hand0 = P.hand0 ∧ (makeM R P m).hand1 = handAft R P m := by unfold makeM handAft; simp [h]
    unfold piecesM
    rw [e.1, e.2]
    unfold PosM.hand
    rw [if_neg (by omega)]
    omega
/-- What a legal move loses. -/
theorem lost_law {R : RulesM} {P : PosM} {m : MoveM} (hV : Valid R) (hS : Sound R P) (h : m ∈ listM R P) :
    ((0 < P.cells.getD m.dst.toNat 0 ∧ ((R.keeps = false ∧ piecesM P - piecesM (makeM R P m) = 1) ∨ (R.keeps = true ∧ (piecesM P - piecesM (makeM R P m) = 0 ∨ (piecesM P - piecesM (makeM R P m) = 1 ∧ (1000 : Int) ∈ P.hand))))) ∨
      (P.cells.getD m.dst.toNat 0 = 0 ∧ piecesM P - piecesM (makeM R P m) = 0)) ∧
    ((makeM R P m).quiet = 0 ↔ (0 < P.cells.getD m.dst.toNat 0 ∨ m.src < 0)) := by
  have hq := hS.quiet
  have ht := hS.turn
  have hb1 := hand_len hS
  have hb2 := hand_held hS
  rw [pieces_make R P m ht]
  rcases rawM_cases hV hS (mem_listM.1 h) with ⟨d, q, rfl, hc, hpos⟩ | ⟨s, d, q, rfl, hc, ho, hd⟩
  · have hz := hc.free
    have hk : q < P.hand.length := by rw [hb1]; exact hc.piece
    have e1 : (makeM R P ⟨-1, d, q⟩).cells = P.cells.set d (2 * (q : Int) + P.turn + 1) := by unfold makeM; simp
    have hz' : P.cells[d]?.getD 0 = 0 := by simpa using hz
    have e2 : handAft R P ⟨-1, d, q⟩ = setHand P.hand q (· - 1) := by unfold handAft; simp [hz']
    have e3 : (makeM R P ⟨-1, d, q⟩).quiet = 0 := by unfold makeM; simp
    have s1 := posC_set (v := 2 * (q : Int) + P.turn + 1) hc.dst
    have s2 := sum_set (v := P.hand.getD q 0 - 1) hk
    rw [e1, e2, e3]
    have e4 : setHand P.hand q (· - 1) = P.hand.set q (P.hand.getD q 0 - 1) := rfl
    rw [e4]
    simp only [Int.toNat_natCast]
    rw [hz] at s1 ⊢
    rw [if_neg (show ¬ (0 : Int) < 0 by omega), if_pos (show 0 < 2 * (q : Int) + P.turn + 1 by omega)] at s1
    refine ⟨.inr ⟨rfl, by omega⟩, ⟨fun _ => .inr (by show (-1 : Int) < 0; omega), fun _ => by first | rfl | trivial⟩⟩
  · have hs0 : 0 < P.cells.getD s 0 := by
      have hb := (hS.cells _ (getD_mem hc.src)).1
      unfold ownB at ho
      simp only [Bool.and_eq_true, decide_eq_true_eq] at ho
      omega
    have e1 : (makeM R P ⟨s, d, q⟩).cells = (P.cells.set s 0).set d (2 * (q : Int) + P.turn + 1) := by unfold makeM; simp
    have s0 := posC_set (v := 0) hc.src
    have s1 := posC_set (cs := P.cells.set s 0) (k := d) (v := 2 * (q : Int) + P.turn + 1) (by simpa using hc.dst)
    rw [getD_set_ne hc.ne] at s1
    rw [e1]
    rw [if_pos hs0, if_neg (by omega)] at s0
    have e3 : (makeM R P ⟨s, d, q⟩).quiet = if 0 < P.cells.getD d 0 then 0 else minI (P.quiet + 1) 200 := by
      unfold makeM
      have : ¬ ((s : Int) < 0) := by omega
      simp [this]
    rw [e3]
    simp only [Int.toNat_natCast]
    rw [if_pos (show 0 < 2 * (q : Int) + P.turn + 1 by omega)] at s1
    by_cases htk : 0 < P.cells.getD d 0
    · rw [if_pos htk] at s1 ⊢
      refine ⟨.inl ⟨htk, ?_⟩, by omega⟩
      cases hkp : R.keeps
      · have e2 : handAft R P ⟨s, d, q⟩ = P.hand := by unfold handAft; simp [hkp]
        rw [e2]
        exact .inl ⟨rfl, by omega⟩
      · have hcd := (hS.cells _ (getD_mem hc.dst)).2
        have hk2 : ((P.cells.getD d 0 - 1) / 2).toNat < P.hand.length := by rw [hb1]; omega
        have hh := hb2 _ (getD_mem hk2)
        have htk' : 0 < P.cells[d]?.getD 0 := by simpa using htk
        have e2 : handAft R P ⟨s, d, q⟩ = P.hand.set ((P.cells.getD d 0 - 1) / 2).toNat (minI (P.hand.getD ((P.cells.getD d 0 - 1) / 2).toNat 0 + 1) 1000) := by unfold handAft setHand; simp [hkp, htk']
        have s2 := sum_set (v := minI (P.hand.getD ((P.cells.getD d 0 - 1) / 2).toNat 0 + 1) 1000) hk2
        rw [e2]
        refine .inr ⟨rfl, ?_⟩
        have hmem := getD_mem hk2
        generalize P.hand.getD ((P.cells.getD d 0 - 1) / 2).toNat 0 = x at *
        by_cases hx : x = 1000
        · subst hx
          have : minI (1000 + 1) 1000 = 1000 := by decide
          rw [this] at s2 ⊢
          exact .inr ⟨by omega, hmem⟩
        · have : minI (x + 1) 1000 = x + 1 := by unfold minI; rw [if_pos (by omega)]
          rw [this] at s2 ⊢
          exact .inl (by omega)
    · rw [if_neg htk] at s1 ⊢
      have hz : P.cells.getD d 0 = 0 := by have := (hS.cells _ (getD_mem hc.dst)).1; omega
      have hz' : P.cells[d]?.getD 0 = 0 := by simpa using hz
      have e2 : handAft R P ⟨s, d, q⟩ = P.hand := by unfold handAft; simp [hz']
      rw [e2]
      refine ⟨.inr ⟨hz, by omega⟩, ?_⟩
      unfold minI
      split <;> omega
theorem pieces_bd {R : RulesM} {P : PosM} (hV : Valid R) (hS : Sound R P) : 0 ≤ piecesM P ∧ piecesM P ≤ 12064 := by
  have hs : ∀ l : List Int, (∀ c ∈ l, 0 ≤ c ∧ c ≤ 1000) → 0 ≤ l.sum ∧ l.sum ≤ 1000 * l.length := by
    intro l
    induction l with
    | nil => intro _; simp
    | cons a l ih =>
      intro h
      have h1 := h a (by simp)
      have h2 := ih (fun c hc => h c (by simp [hc]))
      rw [List.sum_cons, List.length_cons]
      omega
  have h0 := hs _ hS.held0
  have h1 := hs _ hS.held1
  have hl0 := hS.len0
  have hl1 := hS.len1
  have h6 := hV.pieces6
  have har := area_bd _ _ hV.side
  have ha := hS.area
  have hc := posC_le P.cells
  unfold piecesM
  omega
end Go.Proofs.Ytcfiannlpkofpaa
