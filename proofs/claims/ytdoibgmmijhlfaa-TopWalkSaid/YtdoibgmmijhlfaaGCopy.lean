/- Walks: slices.Clone over the ways of a piece and over the conditions. Walk: rules.Copy. Walk: rules.Copy of valid rules. -/
import Derived.Test.YtdoibgmmijhlfaaRows
import Derived.Test.YtdoibgmmijhlfaaGBase
import Derived.ProofKit
import Derived.OpenShut
import Derived.Outline
import Derived.Test.YtdoibgmmijhlfaaGLibA
import Derived.Deep.RegionWith
import Derived.Deep.RegionHeld3
import Derived.Test.YtdoibgmmijhlfaaMirror
namespace Go.Proofs.Ytdoibgmmijhlfaa
open Go.ChangeShapes Go.WideShapes Go.ChangeAt Go.RowKit
set_option linter.unusedVariables false
theorem info_Ways : (Try.prog.info? 131).map (fun i => (i.zero, i.size, i.bytes)) = some (some (.agg #[.int .i64 0, .int .i64 0, .int .i64 0, .int .i64 0]), 4, 32) := by kernel_rfl
theorem one_Ways (l : List WayM) : ∀ u ∈ l.flatMap WayM.vals, u.oneCell' = true := by
  intro u hu
  obtain ⟨x, _, h⟩ := List.mem_flatMap.1 hu
  simp [WayM.vals] at h
  rcases h with rfl | rfl | rfl | rfl <;> rfl
theorem len_Ways (l : List WayM) : (l.flatMap WayM.vals).length = l.length * 4 := by
  induction l with
  | nil => rfl
  | cons a l ih => rw [List.flatMap_cons, List.length_append, ih, List.length_cons, Nat.add_mul]; simp [WayM.vals]; omega
/-- The post of a call that returns a slice of its own, which holds these elements. -/
def OwnWays (w : World) (l : List WayM) (e : Ending) (w' : World) : Prop := ∃ A c, e = .returned (.slice A l.length c) ∧ w'.ownsRow w.heap.size 131 4 (.slice A l.length c) l.length (l.flatMap WayM.vals) ∧ Ext w w'
theorem info_Ends : (Try.prog.info? 95).map (fun i => (i.zero, i.size, i.bytes)) = some (some (.agg #[.int .i64 0, .int .i64 0, .int .i64 0, .bool false]), 4, 32) := by kernel_rfl
theorem one_Ends (l : List EndM) : ∀ u ∈ l.flatMap EndM.vals, u.oneCell' = true := by
  intro u hu
  obtain ⟨x, _, h⟩ := List.mem_flatMap.1 hu
  simp [EndM.vals] at h
  rcases h with rfl | rfl | rfl | rfl <;> rfl
theorem len_Ends (l : List EndM) : (l.flatMap EndM.vals).length = l.length * 4 := by
  induction l with
  | nil => rfl
  | cons a l ih => rw [List.flatMap_cons, List.length_append, ih, List.length_cons, Nat.add_mul]; simp [EndM.vals]; omega
/-- The post of a call that returns a slice of its own, which holds these elements. -/
def OwnEnds (w : World) (l : List EndM) (e : Ending) (w' : World) : Prop := ∃ A c, e = .returned (.slice A l.length c) ∧ w'.ownsRow w.heap.size 95 4 (.slice A l.length c) l.length (l.flatMap EndM.vals) ∧ Ext w w'
end Go.Proofs.Ytdoibgmmijhlfaa
namespace Go.Proofs.Ytdoibgmmijhlfaa
open Go.ChangeShapes Go.WideShapes Go.ChangeAt Go.RowKit
set_option linter.unusedVariables false
/-- The cells of a piece whose ways are the call's own. -/
def PieceOwn (w : World) (base : Nat) (p : PieceM) (l : List Value) : Prop :=
  ∃ A c, l = [.int .u8 p.letter, .int .i64 p.hand, .int .i64 p.promote, .slice A p.ways.length c] ∧ w.ownsRow base 131 4 (.slice A p.ways.length c) p.ways.length (p.ways.flatMap WayM.vals)
def PiecesPart (w : World) (base : Nat) (ps : List PieceM) (k : Nat) (vss : List (List Value)) : Prop :=
  vss.length = k ∧ ∀ (i : Nat) (p : PieceM) (l : List Value), ps[i]? = some p → vss[i]? = some l → PieceOwn w base p l
theorem PiecesPart.keep {w w' : World} {base k : Nat} {ps : List PieceM} {vss : List (List Value)} (h : PiecesPart w base ps k vss)
    (hk : ∀ (v : Value) (n : Nat) (xs : List Value), w.ownsRow base 131 4 v n xs → w'.ownsRow base 131 4 v n xs) : PiecesPart w' base ps k vss :=
  ⟨h.1, fun i p l a b => by
    obtain ⟨A, c, e, ho⟩ := h.2 i p l a b
    exact ⟨A, c, e, hk _ _ _ ho⟩⟩
theorem PiecesPart.step {w : World} {base k : Nat} {ps : List PieceM} {vss : List (List Value)} {q : PieceM} {l : List Value} (h : PiecesPart w base ps k vss) (hq : ps[k]? = some q) (ho : PieceOwn w base q l) : PiecesPart w base ps (k + 1) (vss ++ [l]) := by
  refine ⟨by simp [h.1], fun i p l' a b => ?_⟩
  by_cases e : i < k
  · rw [List.getElem?_append_left (by rw [h.1]; exact e)] at b
    exact h.2 i p l' a b
  · by_cases e2 : i = k
    · subst e2
      rw [hq] at a
      injection a with a
      subst a
      rw [List.getElem?_append_right (by rw [h.1]; omega), h.1] at b
      simp at b
      subst b
      exact ho
    · rw [List.getElem?_append_right (by rw [h.1]; omega), h.1] at b
      have : i - k ≠ 0 := by omega
      match hik : i - k, b with
      | 0, _ => omega
      | j + 1, b => simp at b
theorem PiecesPart.done {w : World} {base n : Nat} {ps : List PieceM} {vss : List (List Value)} {A : Option Addr} {c : Nat} (h : PiecesPart w base ps n vss) (hn : ps.length = n) (ho : w.ownsRow base 93 4 (.slice A n c) n vss.flatten) : PiecesAt w A ps :=
  ⟨vss, (own_cells ho).1, by rw [h.1, hn], fun i p l a b => by
    obtain ⟨A', c', e, ho'⟩ := h.2 i p l a b
    exact ⟨A', c', e, (own_cells ho').1⟩⟩
theorem pieceInfo : (Try.prog.info? 93).map (fun i => (i.zero, i.size, i.bytes)) = some (some (.agg #[.int .u8 0, .int .i64 0, .int .i64 0, .slice none 0 0]), 4, 48) := by kernel_rfl
/-- Rules that lie in memory of the call's own (from block base on). -/
def RulesOwn (w : World) (base : Nat) (v : Value) (R : RulesM) : Prop :=
  ∃ pA pc sA sc eA ec vss, v = .agg #[.string R.name, .int .i64 R.width, .int .i64 R.height, .slice pA R.pieces.length pc, .slice sA R.start.length sc, .bool R.falls, .bool R.keeps, .slice eA R.ends.length ec, .int .i64 R.blocked, .int .i64 R.quiet, .int .i64 R.rept] ∧
    w.ownsRow base 93 4 (.slice pA R.pieces.length pc) R.pieces.length vss.flatten ∧ PiecesPart w base R.pieces R.pieces.length vss ∧ w.ownsRow base 3 1 (.slice sA R.start.length sc) R.start.length (R.start.map (Value.int .i64)) ∧ w.ownsRow base 95 4 (.slice eA R.ends.length ec) R.ends.length (R.ends.flatMap EndM.vals) ∧ R.name.size ≤ 9223372036854775807
theorem RulesOwn.at_ {w : World} {base : Nat} {v : Value} {R : RulesM} (h : RulesOwn w base v R) : RulesAt w v R := by
  obtain ⟨pA, pc, sA, sc, eA, ec, vss, e, h1, h2, h3, h4, h5⟩ := h
  exact ⟨pA, pc, sA, sc, eA, ec, e, h2.done rfl h1, cells_ints (own_cells h3).1, (own_cells h4).1, own_cap h1, own_cap h3, own_cap h4, h5⟩
end Go.Proofs.Ytdoibgmmijhlfaa
namespace Go.Proofs.Ytdoibgmmijhlfaa
open Go.ChangeShapes Go.WideShapes Go.ChangeAt Go.RowKit
set_option linter.unusedVariables false
end Go.Proofs.Ytdoibgmmijhlfaa
