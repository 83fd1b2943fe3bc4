/- The parts of perft.Divide: reading them. -/
import Derived.Test.YtmofipijjokjfaaGPerft
namespace Go.Proofs.Ytmofipijjokjfaa
open Go.ChangeShapes Go.WideShapes Go.ChangeAt Go.RowKit Go.Shelf
set_option linter.unusedVariables false
set_option linter.unusedSimpArgs false
theorem parts_get {w : World} {A : Option Addr} {L : List PartM} (h : CellsAt w A (L.flatMap partV)) {k : Nat} {x : PartM} (hk : L[k]? = some x) :
    ∃ b o, A = some ⟨b, o, none⟩ ∧ w.cell? ⟨b, o + k * 4, none⟩ = some (.int .i64 x.1.src) ∧ w.cell? ⟨b, o + k * 4 + 1, none⟩ = some (.int .i64 x.1.dst) ∧ w.cell? ⟨b, o + k * 4 + 2, none⟩ = some (.int .i64 x.1.piece) ∧ w.cell? ⟨b, o + k * 4 + 3, none⟩ = some (.int .i64 x.2) := by
  have g := fun j hj => flat_get partV 4 (fun _ => rfl) L k j x hk hj
  obtain ⟨b, o, rfl, c0⟩ := h (k * 4 + 0) _ (g 0 (by omega))
  have c : ∀ j v, (L.flatMap partV)[k * 4 + j]? = some v → w.cell? ⟨b, o + k * 4 + j, none⟩ = some v := fun j v hj => by
    obtain ⟨b', o', e, c⟩ := h (k * 4 + j) v hj
    simp only [Option.some.injEq, Addr.mk.injEq, and_true] at e
    obtain ⟨rfl, rfl⟩ := e
    rw [Nat.add_assoc]; exact c
  exact ⟨b, o, rfl, c 0 _ (g 0 (by omega)), c 1 _ (g 1 (by omega)), c 2 _ (g 2 (by omega)), c 3 _ (g 3 (by omega))⟩
theorem div_near {w0 w : World} {v : Value} (h : OwnT w0 w v (divM threeR nearP 1)) : ∃ g c, v = .slice (some ⟨g, 0, none⟩) 5 c ∧ w.cell? ⟨g, 0, none⟩ = some (.int .i64 (-1)) ∧ w.cell? ⟨g, 1, none⟩ = some (.int .i64 2) ∧ w.cell? ⟨g, 2, none⟩ = some (.int .i64 0) := by
  obtain ⟨A, c, rfl, h⟩ := h
  have hl := near_div.2.1
  have hc := (own_cells h).1
  obtain ⟨g, cap, e, -, -⟩ := World.ownsRow.form h (by omega)
  simp only [Value.slice.injEq] at e
  obtain ⟨rfl, -, -⟩ := e
  obtain ⟨b, o, e, c0, c1, c2, -⟩ := parts_get hc near_div.2.2
  simp only [Option.some.injEq, Addr.mk.injEq, and_true] at e
  obtain ⟨rfl, rfl⟩ := e
  exact ⟨g, c, by rw [hl], c0, c1, c2⟩
end Go.Proofs.Ytmofipijjokjfaa
