/- Walks: slices.Clone over []int. -/
import Derived.Test.YtdoibgmmijhlfaaRows
import Derived.Test.YtdoibgmmijhlfaaMem2
import Derived.ProofKit
import Derived.OpenShut
import Derived.Outline
namespace Go.Proofs.Ytdoibgmmijhlfaa
open Go.ChangeShapes Go.WideShapes Go.ChangeAt Go.RowKit
set_option linter.unusedVariables false
theorem intInfo : (Try.prog.info? 3).map (fun i => (i.zero, i.size, i.bytes)) = some (some (.int .i64 0), 1, 8) := by kernel_rfl
/-- The post of a call that returns a slice of its own, which holds the integers zs. -/
def OwnInts (w : World) (zs : List Int) (e : Ending) (w' : World) : Prop := ∃ A c, e = .returned (.slice A zs.length c) ∧ w'.ownsRow w.heap.size 3 1 (.slice A zs.length c) zs.length (zs.map (Value.int .i64)) ∧ Ext w w'
theorem cloneInts_any (A : Option Addr) (n c : Nat) (zs : List Int) (w : World) (hn : zs.length = n) (hm : n ≤ 2 ^ 40) (hA : A = none → n = 0) (hz : IntsAt w A zs) :
    Calls Try.prog 52 #[.slice A n c] w (OwnInts w zs) := by
  subst hn
  have hnil := fun W => Lib.run_eql_slice_nil (P := Try.prog) W 23 3 A zs.length c 0 0 Try.underlying23
  obtain ⟨i0, hi, hz0, hz1, hz2⟩ := info_parts intInfo
  cases A with
  | none =>
    have h0 : zs = [] := List.eq_nil_of_length_eq_zero (hA rfl)
    subst h0
    simp only [List.length_nil] at hnil ⊢
    go_enter Try.func52, Try.ntmps52
    go_wp2
    go_ret
    exact ⟨none, 0, rfl, World.ownsRow_nil _ _ _ _, Below.refl _ _⟩
  | some ad =>
    have hcs := ints_cells hz
    clear hA
    have hown := World.ownsRow_made w #[] 0 (base := w.heap.size) (e := 3) (size := 1) (Nat.le_refl _) (by simp [maxLen]) rfl
    go_enter Try.func52, Try.ntmps52
    go_wp2_with (at_builtin; refine wpList_append_cells _ rfl (.tmp 5) (.tmp 6) 23 rfl w.heap.size 3 i0 (.int .i64 0) 1 8 Try.underlying23 hi hz0 hz1 hz2 rfl (by decide) _ 0 [] rfl hown (some ad) zs.length c (zs.map (Value.int .i64)) rfl (by simp) (hcs.ext (ext_alloc (Below.refl _ _) _)) (one_ints zs) (by simp only [maxLen]; omega) (by omega) (by simp) (by simp) ?_; intro v' w1 hown1 hgrow)
    obtain ⟨A', c', rfl, _, _⟩ := own_shape hown1
    go_ret
    simp only [Nat.zero_add, List.nil_append] at hown1
    refine ⟨A', c', by simp, hown1, ext_grown (ext_alloc (Below.refl _ _) _) hgrow (own_row hown)⟩
end Go.Proofs.Ytdoibgmmijhlfaa
