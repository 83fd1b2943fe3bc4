/- What a valuer's method promises; small facts on worlds that are grown. -/
import Derived.Test.YthgbdonjheengaaNimM
import Derived.Test.YthgbdonjheengaaOwnR
import Derived.Lib.Hide
namespace Go.Proofs.Ythgbdonjheengaa
open Go.RowKit
set_option linter.unusedVariables false
/-- There are more states than the bound. -/
def OverN {σ : Type} (P : σ → Prop) (most : Nat) : Prop := ∃ L : List σ, L.Nodup ∧ L.length = most + 1 ∧ ∀ x ∈ L, P x
def ClosedN {σ : Type} (nx : σ → List σ) (F : List σ) : Prop := ∀ x ∈ F, ∀ t ∈ nx x, t ∈ F
/-- What has been found: the states of F at least, and s. -/
def FoundN {σ : Type} (K : KeyAs σ) (g : σ → Nat) (nx : σ → List σ) (P : σ → Prop) (w : World) (B : Nat) (U F F' : List σ) (most : Nat) : Prop :=
  MapN K g w B U F' ∧ (∀ x ∈ F, x ∈ F') ∧ ClosedN nx F' ∧ (∀ x ∈ U ++ F', P x) ∧ U.length + F'.length ≤ most
def ValPost {σ : Type} (K : KeyAs σ) (g : σ → Nat) (nx : σ → List σ) (P : σ → Prop) (w : World) (B : Nat) (U F : List σ) (most : Nat) (s : σ) (e : Ending) (w' : World) : Prop :=
  w.grownBy w' (some B) ∧ ((∃ F', e = .returned (.tuple #[.int .i64 (g s : Int), .int .i64 0]) ∧ FoundN K g nx P w' B U F F' most ∧ s ∈ F') ∨ (e = .returned (.tuple #[.int .i64 0, .int .i64 17]) ∧ OverN P most))
theorem grown_trans {w w1 w2 : World} {r : Option Nat} (h : w.grownBy w1 r) (h' : w1.grownBy w2 r) : w.grownBy w2 r :=
  ⟨h'.os.trans h.os, h'.tape.trans h.tape, h'.output.trans h.output, Nat.le_trans h.size h'.size, fun b hb hn => (h'.block b (Nat.lt_of_lt_of_le hb h.size) hn).trans (h.block b hb hn)⟩
theorem grown_ext {w w1 w2 : World} {r : Option Nat} (h : w.grownBy w1 r) (h' : Ext w1 w2) : w.grownBy w2 r :=
  ⟨h'.os.trans h.os, h'.tape.trans h.tape, h'.output.trans h.output, Nat.le_trans h.size h'.size, fun b hb hn => (h'.block b (Nat.lt_of_lt_of_le hb h.size)).trans (h.block b hb hn)⟩
/-- What is written in a block that is new. -/
theorem grown_new {w w1 w2 : World} {r : Option Nat} {S : Nat} (h : w.grownBy w1 r) (h' : w1.grownBy w2 (some S)) (hS : w.heap.size ≤ S) : w.grownBy w2 r :=
  ⟨h'.os.trans h.os, h'.tape.trans h.tape, h'.output.trans h.output, Nat.le_trans h.size h'.size, fun b hb hn => (h'.block b (Nat.lt_of_lt_of_le hb h.size) (fun e => by injection e with e; omega)).trans (h.block b hb hn)⟩
theorem cells_grown {w w' : World} {r : Option Nat} {A : Option Addr} {cs : List Value} (h : CellsAt w A cs) (hg : w.grownBy w' r) (hA : ∀ a, A = some a → r ≠ some a.block) : CellsAt w' A cs := by
  intro i v hi
  obtain ⟨b, o, rfl, hc⟩ := h i v hi
  exact ⟨b, o, rfl, hg.cell hc (fun e => hA _ rfl e.symm)⟩
theorem grown_below {w w' : World} {B n : Nat} (h : w.grownBy w' (some B)) (hn : n ≤ w.heap.size) (hB : n ≤ B) : Below n w w' :=
  ⟨h.os, h.tape, h.output, h.size, fun b hb => h.block b (by omega) (fun e => by injection e with e; omega)⟩
end Go.Proofs.Ythgbdonjheengaa
