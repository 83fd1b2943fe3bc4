/- The result of a position, as plain data. No program. -/
import Derived.Test.YtcfiannlpkofpaaGMakeP
namespace Go.Proofs.Ytcfiannlpkofpaa
set_option linter.unusedVariables false
/-- Is there a piece of a player on the square (x, y) of the board? -/
def ownXY (W H : Int) (cs : List Int) (player x y : Int) : Bool :=
  if x < 0 ∨ W ≤ x ∨ y < 0 ∨ H ≤ y then false else decide (0 < cs.getD (y * W + x).toNat 0) && decide ((cs.getD (y * W + x).toNat 0 - 1) % 2 = player)
/-- Are n squares from (x, y) on all the player's? -/
def runXY (W H : Int) (cs : List Int) (player dx dy : Int) : Nat → Int → Int → Bool
  | 0, _, _ => true
  | n + 1, x, y => ownXY W H cs player x y && runXY W H cs player dx dy n (x + dx) (y + dy)
def lineAt (W H : Int) (cs : List Int) (player : Int) (n s : Nat) : Bool :=
  runXY W H cs player 1 0 n ((s : Int) % W) ((s : Int) / W) || (runXY W H cs player 0 1 n ((s : Int) % W) ((s : Int) / W) || (runXY W H cs player 1 1 n ((s : Int) % W) ((s : Int) / W) || runXY W H cs player 1 (-1) n ((s : Int) % W) ((s : Int) / W)))
def lineB (R : RulesM) (P : PosM) (player : Int) (n : Nat) : Bool := (List.range P.cells.length).any (lineAt R.width R.height P.cells player n)
def reachB (R : RulesM) (P : PosM) (piece player : Int) : Bool := (List.range P.cells.length).any fun s => decide (P.cells.getD s 0 = 2 * piece + player + 1) && lastM R player s
def countC (cs : List Int) (c : Int) : Nat := (cs.filter fun x => decide (x = c)).length
/-- Is a condition satisfied for the mover? -/
def holdsB (R : RulesM) (P : PosM) (mover : Int) (x : EndM) : Bool :=
  if x.kind = 0 then lineB R P mover x.count.toNat
  else if x.kind = 1 then reachB R P x.piece mover
  else decide ((countC P.cells (2 * x.piece + 1 - mover + 1) : Int) < x.count)
/-- What stands behind the conditions. -/
def restM (R : RulesM) (P : PosM) : Int :=
  if R.quiet ≠ 0 ∧ R.quiet ≤ P.quiet then 3
  else if 0 < (listM R P).length then 0
  else if R.blocked = 0 then 1 + (1 - P.turn)
  else if R.blocked = 1 then 1 + P.turn
  else 3
/-- The result of a valid position. -/
def resultM (R : RulesM) (P : PosM) : Int :=
  match R.ends.find? (holdsB R P (1 - P.turn)) with
  | some x => if x.loses then 1 + P.turn else 1 + (1 - P.turn)
  | none => restM R P
theorem runXY_succ (W H : Int) (cs : List Int) (p dx dy : Int) (n : Nat) (x y : Int) : runXY W H cs p dx dy (n + 1) x y = (ownXY W H cs p x y && runXY W H cs p dx dy n (x + dx) (y + dy)) := rfl
theorem any_range_succ (f : Nat → Bool) (k : Nat) : (List.range (k + 1)).any f = ((List.range k).any f || f k) := by
  rw [List.range_succ, List.any_append]; simp
theorem any_range_true {f : Nat → Bool} {k n : Nat} (hk : k < n) (h : f k = true) : (List.range n).any f = true := by
  rw [List.any_eq_true]; exact ⟨k, List.mem_range.2 hk, h⟩
theorem countC_take (cs : List Int) (c : Int) (k : Nat) (h : k < cs.length) : countC (cs.take (k + 1)) c = countC (cs.take k) c + (if cs.getD k 0 = c then 1 else 0) := by
  unfold countC
  rw [List.take_succ_eq_append_getElem h, List.filter_append, List.length_append]
  have e : cs.getD k 0 = cs[k] := by simp [h]
  rw [e]
  by_cases hc : cs[k] = c <;> simp [hc]
theorem countC_le (cs : List Int) (c : Int) : countC cs c ≤ cs.length := List.length_filter_le _ _
theorem result_bd (R : RulesM) (P : PosM) (h : P.turn = 0 ∨ P.turn = 1) : 0 ≤ resultM R P ∧ resultM R P ≤ 3 := by
  unfold resultM restM
  split
  · split <;> omega
  · split
    · omega
    · split
      · omega
      · split
        · omega
        · split <;> omega
theorem ends_facts {R : RulesM} (hV : Valid R) {x : EndM} (hx : x ∈ R.ends) : (x.kind = 0 ∧ 1 ≤ x.count ∧ x.count ≤ 64) ∨ (x.kind = 1 ∧ 0 ≤ x.piece ∧ x.piece ≤ R.pieces.length - 1) ∨ (x.kind = 2 ∧ 1 ≤ x.count ∧ x.count ≤ 64 ∧ 0 ≤ x.piece ∧ x.piece ≤ R.pieces.length - 1) := by
  have h6 := hV.ends6
  have he := hV.ende
  unfold endsE at he
  rw [if_neg (by omega), firstE_zero] at he
  obtain ⟨i, hi, e⟩ := List.mem_iff_getElem.1 hx
  have h := he i (Nat.zero_le _) (by omega)
  unfold endE at h
  rw [List.getElem?_eq_getElem hi, e] at h
  simp only at h
  split at h
  · split at h
    · rename_i h1 h2
      simp [inB] at h2
      exact .inl ⟨h1, h2.1⟩
    · simp at h
  · split at h
    · split at h
      · rename_i h1 h2
        simp [inB] at h2
        exact .inr (.inl ⟨h1, h2.2.1, by omega⟩)
      · simp at h
    · split at h
      · split at h
        · rename_i h1 h2
          simp [inB] at h2
          exact .inr (.inr ⟨h1, h2.1.1, h2.1.2, h2.2.1, by omega⟩)
        · simp at h
      · simp at h
end Go.Proofs.Ytcfiannlpkofpaa
