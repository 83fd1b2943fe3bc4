/- Walks over the package place: sound, Check. -/
import Derived.Test.YtdoibgmmijhlfaaDoorGLibA
import Derived.Test.YtdoibgmmijhlfaaDoorMirror
import Derived.Deep.RegionWith
namespace Go.Proofs.YtdoibgmmijhlfaaDoor
open Go.ChangeShapes Go.WideShapes Go.ChangeAt Go.RowKit Go.Shelf
set_option linter.unusedVariables false
theorem out_any (lo hi : Int) (w : World) : Calls Tryd.prog 65 #[.int .i64 lo, .int .i64 hi] w fun e w' => ∃ b1 b2, e = .returned (.func (.func 66) #[] #[.pointer (some ⟨b1, 0, none⟩), .pointer (some ⟨b2, 0, none⟩)]) ∧
    w'.cell? ⟨b1, 0, none⟩ = some (.int .i64 lo) ∧ w'.cell? ⟨b2, 0, none⟩ = some (.int .i64 hi) ∧ Ext w w' := by
  go_enter Tryd.func65, Tryd.ntmps65
  go_wp2
  go_ret
  refine ⟨_, _, rfl, ?_, ?_, ext_alloc (ext_alloc (Below.refl _ _) _) _⟩
  · exact Ext.cell (ext_alloc (Below.refl _ _) _) (new_cell w #[.int .i64 lo] _ 0)
  · have := new_cell (w.alloc (.cells #[.int .i64 lo] 3)) #[.int .i64 hi] 3 0
    rw [show (w.alloc (.cells #[.int .i64 lo] 3)).heap.size = w.heap.size + 1 from by simp] at this
    exact this
theorem out1_any (z lo hi : Int) (b1 b2 : Nat) (w : World) (h1 : w.cell? ⟨b1, 0, none⟩ = some (.int .i64 lo)) (h2 : w.cell? ⟨b2, 0, none⟩ = some (.int .i64 hi)) :
    Calls Tryd.prog 66 #[.int .i64 z, .pointer (some ⟨b1, 0, none⟩), .pointer (some ⟨b2, 0, none⟩)] w fun e w' => e = .returned (.bool (!inB z lo hi)) ∧ Ext w w' := by
  unfold inB
  by_cases h3 : lo ≤ z
  · by_cases h4 : z ≤ hi
    · go_enter Tryd.func66, Tryd.ntmps66
      go_wp2
      go_ret
      exact ⟨by simp [h3, h4], Below.refl _ _⟩
    · go_enter Tryd.func66, Tryd.ntmps66
      go_wp2
      go_ret
      exact ⟨by simp; omega, Below.refl _ _⟩
  · go_enter Tryd.func66, Tryd.ntmps66
    go_wp2
    go_ret
    exact ⟨by simp; omega, Below.refl _ _⟩
/-- Some number of a list is not in the range. -/
theorem hasOut (A : Option Addr) (n c : Nat) (zs : List Int) (lo hi : Int) (b1 b2 : Nat) (w : World) (hn : zs.length = n) (hm : n ≤ 9223372036854775807) (hz : IntsAt w A zs) (h1 : w.cell? ⟨b1, 0, none⟩ = some (.int .i64 lo)) (h2 : w.cell? ⟨b2, 0, none⟩ = some (.int .i64 hi)) :
    Calls Tryd.prog 60 #[.slice A n c, .func (.func 66) #[] #[.pointer (some ⟨b1, 0, none⟩), .pointer (some ⟨b2, 0, none⟩)]] w fun e w' => e = .returned (.bool (!(zs.all fun z => inB z lo hi))) ∧ Ext w w' := by
  have := hasInts_two 66 (.pointer (some ⟨b1, 0, none⟩)) (.pointer (some ⟨b2, 0, none⟩)) (fun z => !inB z lo hi) A n c zs w hn hm hz (enters_of Tryd.func66 (by kernel_rfl) rfl) (fun z W hW => out1_any z lo hi b1 b2 W (Ext.cell hW h1) (Ext.cell hW h2))
  rw [List.not_all_eq_any_not]
  exact this
set_option maxHeartbeats 2000000 in
set_option maxRecDepth 100000 in
theorem sound_form (R : RulesM) (P : PosM) (v u : Value) (w : World) (hR : RulesAt w v R) (hP : PosAt w u P) (hs : okSide R.width R.height) (h : formB R P = false) :
    Calls Tryd.prog 29 #[v, u] w (ECode 3 w) := by
  obtain ⟨pA, pc, sA, sc, eA, ec, rfl, -⟩ := hR
  obtain ⟨cA, cc, aA, ac, bA, bc, rfl, -⟩ := hP
  have har := area_bd _ _ hs
  obtain ⟨ha1, ha2⟩ := har
  have h' : ¬ (P.cells.length : Int) = R.width * R.height ∨ ((P.cells.length : Int) = R.width * R.height ∧ ¬ (P.hand0.length : Int) = R.pieces.length) ∨ ((P.cells.length : Int) = R.width * R.height ∧ (P.hand0.length : Int) = R.pieces.length ∧ ¬ (P.hand1.length : Int) = R.pieces.length) := by
    unfold formB at h
    simp at h
    omega
  clear h
  rcases h' with h1 | ⟨h1, h2⟩ | ⟨h1, h2, h3⟩
  · go_enter Tryd.func29, Tryd.ntmps29
    go_wp2
    go_ret
    exact ⟨rfl, ext_alloc (ext_alloc (Below.refl _ _) _) _⟩
  · have h1' : ((P.cells.length : Int) != R.width * R.height) = false := by simpa using h1
    clear h1
    go_enter Tryd.func29, Tryd.ntmps29
    go_wp2
    go_ret
    exact ⟨rfl, ext_alloc (ext_alloc (Below.refl _ _) _) _⟩
  · have h1' : ((P.cells.length : Int) != R.width * R.height) = false := by simpa using h1
    have h2' : ((P.hand0.length : Int) != R.pieces.length) = false := by simpa using h2
    clear h1 h2
    go_enter Tryd.func29, Tryd.ntmps29
    go_wp2
    go_ret
    exact ⟨rfl, ext_alloc (ext_alloc (Below.refl _ _) _) _⟩
end Go.Proofs.YtdoibgmmijhlfaaDoor
