/- Walks: slices.Clone over the ways of a piece and over the conditions. -/
import Derived.Test.YtcfiannlpkofpaaRows
import Derived.Test.YtcfiannlpkofpaaModel
import Derived.ProofKit
import Derived.OpenShut
import Derived.Outline
namespace Go.Proofs.Ytcfiannlpkofpaa
open Go.ChangeShapes Go.WideShapes Go.ChangeAt Go.RowKit
set_option linter.unusedVariables false
theorem info_Ways : (Try.prog.info? 117).map (fun i => (i.zero, i.size, i.bytes)) = some (some (.agg #[.int .i64 0, .int .i64 0, .int .i64 0, .int .i64 0]), 4, 32) := by kernel_rfl
theorem one_Ways (l : List WayM) : ∀ u ∈ l.flatMap WayM.vals, u.oneCell' = true := by
  intro u hu
  obtain ⟨x, _, h⟩ := List.mem_flatMap.1 hu
  simp [WayM.vals] at h
  rcases h with rfl | rfl | rfl | rfl <;> rfl
theorem len_Ways (l : List WayM) : (l.flatMap WayM.vals).length = l.length * 4 := by
  induction l with
  | nil => rfl
  | cons a l ih => rw [List.flatMap_cons, List.length_append, ih, List.length_cons, Nat.add_mul]; simp [WayM.vals]; omega
/-- The post of a call that returns a slice of its own, which holds these elements. -/
def OwnWays (w : World) (l : List WayM) (e : Ending) (w' : World) : Prop := ∃ A c, e = .returned (.slice A l.length c) ∧ w'.ownsRow w.heap.size 117 4 (.slice A l.length c) l.length (l.flatMap WayM.vals) ∧ Ext w w'
theorem clone_Ways (A : Option Addr) (n c : Nat) (l : List WayM) (w : World) (hn : l.length = n) (hm : n ≤ 1000) (hz : CellsAt w A (l.flatMap WayM.vals)) :
    Calls Try.prog 78 #[.slice A n c] w (OwnWays w l) := by
  have hA : A = none → n = 0 := by
    intro e
    subst e
    by_cases h0 : n = 0
    · exact h0
    · obtain ⟨b, o, e, _⟩ := hz 0 ((l.flatMap WayM.vals)[0]'(by rw [len_Ways]; omega)) (List.getElem?_eq_getElem _)
      cases e
  subst hn
  have hnil := fun W => Lib.run_eql_slice_nil (P := Try.prog) W 84 117 A l.length c 0 0 Try.underlying84
  obtain ⟨i0, hi, hz0, hz1, hz2⟩ := info_parts info_Ways
  cases A with
  | none =>
    have h0 : l = [] := List.eq_nil_of_length_eq_zero (hA rfl)
    subst h0
    simp only [List.length_nil] at hnil ⊢
    go_enter Try.func78, Try.ntmps78
    go_wp2
    go_ret
    exact ⟨none, 0, rfl, World.ownsRow_nil _ _ _ _, Below.refl _ _⟩
  | some ad =>
    clear hA
    have hown := World.ownsRow_made w #[] 0 (base := w.heap.size) (e := 117) (size := 4) (Nat.le_refl _) (by simp [maxLen]) rfl
    have hone := one_Ways l
    have hlen := len_Ways l
    generalize hv : l.flatMap WayM.vals = vs at *
    have HV := hide hv
    clear hv
    have HO := hide hone
    have HL := hide hlen
    clear hone hlen
    go_enter Try.func78, Try.ntmps78
    go_wp2_with (at_builtin; refine wpList_append_cells _ rfl (.tmp 5) (.tmp 6) 84 rfl w.heap.size 117 i0 (.agg #[.int .i64 0, .int .i64 0, .int .i64 0, .int .i64 0]) 4 32 Try.underlying84 hi hz0 hz1 hz2 rfl (by decide) _ 0 [] rfl hown (some ad) l.length c vs rfl HL.out (hz.ext (ext_alloc (Below.refl _ _) _)) HO.out (by simp only [maxLen]; omega) (by omega) (by simp) (by simp) ?_; intro v' w1 hown1 hgrow)
    obtain ⟨A', c', rfl, _, _⟩ := own_shape hown1
    go_ret
    simp only [Nat.zero_add, List.nil_append] at hown1
    exact ⟨A', c', by simp, by rw [HV.out]; exact hown1, ext_grown (ext_alloc (Below.refl _ _) _) hgrow (own_row hown)⟩
theorem info_Ends : (Try.prog.info? 88).map (fun i => (i.zero, i.size, i.bytes)) = some (some (.agg #[.int .i64 0, .int .i64 0, .int .i64 0, .bool false]), 4, 32) := by kernel_rfl
theorem one_Ends (l : List EndM) : ∀ u ∈ l.flatMap EndM.vals, u.oneCell' = true := by
  intro u hu
  obtain ⟨x, _, h⟩ := List.mem_flatMap.1 hu
  simp [EndM.vals] at h
  rcases h with rfl | rfl | rfl | rfl <;> rfl
theorem len_Ends (l : List EndM) : (l.flatMap EndM.vals).length = l.length * 4 := by
  induction l with
  | nil => rfl
  | cons a l ih => rw [List.flatMap_cons, List.length_append, ih, List.length_cons, Nat.add_mul]; simp [EndM.vals]; omega
/-- The post of a call that returns a slice of its own, which holds these elements. -/
def OwnEnds (w : World) (l : List EndM) (e : Ending) (w' : World) : Prop := ∃ A c, e = .returned (.slice A l.length c) ∧ w'.ownsRow w.heap.size 88 4 (.slice A l.length c) l.length (l.flatMap EndM.vals) ∧ Ext w w'
theorem clone_Ends (A : Option Addr) (n c : Nat) (l : List EndM) (w : World) (hn : l.length = n) (hm : n ≤ 1000) (hz : CellsAt w A (l.flatMap EndM.vals)) :
    Calls Try.prog 80 #[.slice A n c] w (OwnEnds w l) := by
  have hA : A = none → n = 0 := by
    intro e
    subst e
    by_cases h0 : n = 0
    · exact h0
    · obtain ⟨b, o, e, _⟩ := hz 0 ((l.flatMap EndM.vals)[0]'(by rw [len_Ends]; omega)) (List.getElem?_eq_getElem _)
      cases e
  subst hn
  have hnil := fun W => Lib.run_eql_slice_nil (P := Try.prog) W 24 88 A l.length c 0 0 Try.underlying24
  obtain ⟨i0, hi, hz0, hz1, hz2⟩ := info_parts info_Ends
  cases A with
  | none =>
    have h0 : l = [] := List.eq_nil_of_length_eq_zero (hA rfl)
    subst h0
    simp only [List.length_nil] at hnil ⊢
    go_enter Try.func80, Try.ntmps80
    go_wp2
    go_ret
    exact ⟨none, 0, rfl, World.ownsRow_nil _ _ _ _, Below.refl _ _⟩
  | some ad =>
    clear hA
    have hown := World.ownsRow_made w #[] 0 (base := w.heap.size) (e := 88) (size := 4) (Nat.le_refl _) (by simp [maxLen]) rfl
    have hone := one_Ends l
    have hlen := len_Ends l
    generalize hv : l.flatMap EndM.vals = vs at *
    have HV := hide hv
    clear hv
    have HO := hide hone
    have HL := hide hlen
    clear hone hlen
    go_enter Try.func80, Try.ntmps80
    go_wp2_with (at_builtin; refine wpList_append_cells _ rfl (.tmp 5) (.tmp 6) 24 rfl w.heap.size 88 i0 (.agg #[.int .i64 0, .int .i64 0, .int .i64 0, .bool false]) 4 32 Try.underlying24 hi hz0 hz1 hz2 rfl (by decide) _ 0 [] rfl hown (some ad) l.length c vs rfl HL.out (hz.ext (ext_alloc (Below.refl _ _) _)) HO.out (by simp only [maxLen]; omega) (by omega) (by simp) (by simp) ?_; intro v' w1 hown1 hgrow)
    obtain ⟨A', c', rfl, _, _⟩ := own_shape hown1
    go_ret
    simp only [Nat.zero_add, List.nil_append] at hown1
    exact ⟨A', c', by simp, by rw [HV.out]; exact hown1, ext_grown (ext_alloc (Below.refl _ _) _) hgrow (own_row hown)⟩
end Go.Proofs.Ytcfiannlpkofpaa
