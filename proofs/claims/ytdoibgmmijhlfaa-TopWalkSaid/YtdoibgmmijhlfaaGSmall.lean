/- A slice of integers that came in. Walk: some, an element of a list of moves that is not empty. Plain facts and contracts for the laws on results: the sample that is won. Walk: slices.Equal over moves: equal lists. Walk: scored. -/
import Derived.Test.YtdoibgmmijhlfaaRows
import Derived.Test.YtdoibgmmijhlfaaGBase
import Derived.Outline
import Derived.OpenShut
import Derived.Test.YtdoibgmmijhlfaaGAll
import Derived.Test.YtdoibgmmijhlfaaGEnds
import Derived.Test.YtdoibgmmijhlfaaGSamples
import Derived.Test.YtdoibgmmijhlfaaGMini
import Derived.Test.YtdoibgmmijhlfaaGPlays
namespace Go.Proofs.Ytdoibgmmijhlfaa
open Go.RowKit
set_option linter.unusedVariables false
/-- What the walk is told of a slice of integers that came in. -/
def IsRow (w : World) (a : Option Addr) (len cap : Nat) (zs : List Int) : Prop :=
  (a = none ∧ len = 0 ∧ cap = 0 ∧ zs = []) ∨
  ∃ x, a = some x ∧ len ≤ cap ∧ cap ≤ maxLen ∧ zs.length = cap ∧ (∀ i, i < zs.length → w.cell? (x.add i) = some (.int .i64 (zs.getD i 0))) ∧ ∀ n ∈ zs, (Lit.int .i64 n).wf = true
theorem spot_none {w : World} {x : Addr} {v : Value} (h : w.cell? x = some v) : x = ⟨x.block, x.off, none⟩ := by
  obtain ⟨b, o, s⟩ := x
  cases s with
  | none => rfl
  | some s =>
    exfalso
    unfold World.cell? at h
    simp only at h
    split at h
    · simp at h
    · cases h
theorem IsRow.ints {w : World} {a : Option Addr} {len cap : Nat} {zs : List Int} (h : IsRow w a len cap zs) : IntsAt w a (zs.take len) ∧ (zs.take len).length = len ∧ (a = none → len = 0) ∧ len ≤ maxLen := by
  rcases h with ⟨rfl, rfl, rfl, rfl⟩ | ⟨x, rfl, h1, h2, h3, h4, h5⟩
  · exact ⟨by simpa using intsAt_nil w _, rfl, fun _ => rfl, by simp [maxLen]⟩
  · refine ⟨fun i hi => ?_, by simp; omega, fun k => by simp at k, by omega⟩
    have hi2 : i < len := by simp at hi; omega
    have hx := spot_none (h4 0 (by omega))
    have hadd : x.add 0 = x := rfl
    rw [hadd] at hx
    refine ⟨x.block, x.off, by rw [← hx], ?_⟩
    have := h4 i (by omega)
    rw [hx, add_lit] at this
    rw [this]
    simp [hi2]
end Go.Proofs.Ytdoibgmmijhlfaa
namespace Go.Proofs.Ytdoibgmmijhlfaa
open Go.ChangeShapes Go.WideShapes Go.ChangeAt Go.RowKit Go.Shelf
set_option linter.unusedVariables false
def SomePost (w : World) (L : List MoveM) (e : Ending) (w' : World) : Prop := ∃ m, m ∈ L ∧ e = .returned (.agg #[.int .i64 m.src, .int .i64 m.dst, .int .i64 m.piece]) ∧ Ext w w'
theorem some_idx {n l : Int} (hl : 1 ≤ l) : -l < n.tmod l ∧ n.tmod l < l ∧ 0 ≤ (n.tmod l + l).tmod l ∧ (n.tmod l + l).tmod l < l := by
  have h1 : -l < n.tmod l ∧ n.tmod l < l := by
    have a := Int.tmod_lt_of_pos n (show 0 < l by omega)
    refine ⟨?_, a⟩
    have b := Int.tmod_lt_of_pos (-n) (show 0 < l by omega)
    rw [Int.neg_tmod] at b
    omega
  refine ⟨h1.1, h1.2, Int.tmod_nonneg _ (by omega), Int.tmod_lt_of_pos _ (by omega)⟩
end Go.Proofs.Ytdoibgmmijhlfaa
namespace Go.Proofs.Ytdoibgmmijhlfaa
open Go.ChangeShapes Go.WideShapes Go.ChangeAt Go.RowKit Go.Shelf
set_option linter.unusedVariables false
def wonP : PosM := { cells := [1, 1, 1, 2, 2, 0, 0, 0, 0], hand0 := [3], hand1 := [3], turn := 1, quiet := 0 }
theorem sound_won : Sound threeR wonP := sound_of (by decide +kernel)
theorem result_won : resultM threeR wonP = 1 := by decide +kernel
theorem result_near : resultM threeR nearP = 0 := by decide +kernel
theorem open_moves {R : RulesM} {P : PosM} (h : resultM R P = 0) (ht : P.turn = 0 ∨ P.turn = 1) : 0 < (listM R P).length := by
  unfold resultM at h
  split at h
  · split at h <;> omega
  · unfold restM at h
    split at h
    · omega
    · split at h
      · assumption
      · split at h
        · omega
        · split at h <;> omega
end Go.Proofs.Ytdoibgmmijhlfaa
namespace Go.Proofs.Ytdoibgmmijhlfaa
open Go.ChangeShapes Go.WideShapes Go.ChangeAt Go.RowKit Go.Shelf
set_option linter.unusedVariables false
end Go.Proofs.Ytdoibgmmijhlfaa
namespace Go.Proofs.Ytdoibgmmijhlfaa
open Go.ChangeShapes Go.WideShapes Go.ChangeAt Go.RowKit Go.Shelf
set_option linter.unusedVariables false
set_option linter.unusedSimpArgs false
theorem near_score : scoreM threeR nearP 1 = 999 ∧ perftE threeR nearP 1 = 0 ∧ bestY threeR nearP 2 = (⟨-1, 2, 0⟩, 999) ∧ bestE threeR nearP 2 = 0 := by decide +kernel
theorem fine_ok2 {w : World} {g : Nat} (h : Blk w g 31 #[.int .i64 0, .int .i64 0]) : Calls Try.prog 14 #[.slice (some ⟨g, 0, none⟩) 2 2] w fun e w' => e = .returned (.bool true) ∧ Ext w w' :=
  fine_ext (fine_any (some ⟨g, 0, none⟩) 2 2 [0, 0] w rfl (by omega) (blk_ints h))
theorem fine_ok3 {w : World} {g : Nat} (h : Blk w g 31 #[.int .i64 0, .int .i64 0, .int .i64 0]) : Calls Try.prog 14 #[.slice (some ⟨g, 0, none⟩) 3 3] w fun e w' => e = .returned (.bool true) ∧ Ext w w' :=
  fine_ext (fine_any (some ⟨g, 0, none⟩) 3 3 [0, 0, 0] w rfl (by omega) (blk_ints h))
end Go.Proofs.Ytdoibgmmijhlfaa
