/- A slice of integers that came in. -/
import Derived.Test.YtdoibgmmijhlfaaRows
import Derived.Test.YtdoibgmmijhlfaaMem2
import Derived.Outline
import Derived.OpenShut
namespace Go.Proofs.Ytdoibgmmijhlfaa
open Go.RowKit
set_option linter.unusedVariables false
/-- What the walk is told of a slice of integers that came in. -/
def IsRow (w : World) (a : Option Addr) (len cap : Nat) (zs : List Int) : Prop :=
  (a = none ∧ len = 0 ∧ cap = 0 ∧ zs = []) ∨
  ∃ x, a = some x ∧ len ≤ cap ∧ cap ≤ maxLen ∧ zs.length = cap ∧ (∀ i, i < zs.length → w.cell? (x.add i) = some (.int .i64 (zs.getD i 0))) ∧ ∀ n ∈ zs, (Lit.int .i64 n).wf = true
theorem spot_none {w : World} {x : Addr} {v : Value} (h : w.cell? x = some v) : x = ⟨x.block, x.off, none⟩ := by
  obtain ⟨b, o, s⟩ := x
  cases s with
  | none => rfl
  | some s =>
    exfalso
    unfold World.cell? at h
    simp only at h
    split at h
    · simp at h
    · cases h
theorem IsRow.ints {w : World} {a : Option Addr} {len cap : Nat} {zs : List Int} (h : IsRow w a len cap zs) : IntsAt w a (zs.take len) ∧ (zs.take len).length = len ∧ (a = none → len = 0) ∧ len ≤ maxLen := by
  rcases h with ⟨rfl, rfl, rfl, rfl⟩ | ⟨x, rfl, h1, h2, h3, h4, h5⟩
  · exact ⟨by simpa using intsAt_nil w _, rfl, fun _ => rfl, by simp [maxLen]⟩
  · refine ⟨fun i hi => ?_, by simp; omega, fun k => by simp at k, by omega⟩
    have hi2 : i < len := by simp at hi; omega
    have hx := spot_none (h4 0 (by omega))
    have hadd : x.add 0 = x := rfl
    rw [hadd] at hx
    refine ⟨x.block, x.off, by rw [← hx], ?_⟩
    have := h4 i (by omega)
    rw [hx, add_lit] at this
    rw [this]
    simp [hi2]
end Go.Proofs.Ytdoibgmmijhlfaa
