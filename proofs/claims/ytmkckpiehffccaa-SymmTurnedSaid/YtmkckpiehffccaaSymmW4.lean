/- Walks over the package symm: Map, Compose, Inverse. -/
import Derived.Test.YtmkckpiehffccaaSymmW3
namespace Go.Proofs.Ytmkckpiehffccaa
open Go.ChangeShapes Go.WideShapes Go.ChangeAt Go.RowKit
set_option linter.unusedVariables false
theorem check1_yes (a b s : Int) (w : World) (h : okSide a b) (hs : okSym a b s) :
    Calls Try.prog 25 #[.int .i64 a, .int .i64 b, .slice (some ⟨w.heap.size, 0, none⟩) 1 1] (w.alloc (.cells #[.int .i64 s] 3)) fun e w' => e = .returned (.int .i64 0) ∧ w.alloc (.cells #[.int .i64 s] 3) = w' :=
  checks_yes a b _ 1 1 [s] _ h rfl (by omega) (by simpa using intsAt_new w 3 [s]) (fun i hi => (by omega : i = 0) ▸ hs)
theorem check1_no (a b s : Int) (w : World) (h : okSide a b) (hs : ¬ okSym a b s) :
    Calls Try.prog 25 #[.int .i64 a, .int .i64 b, .slice (some ⟨w.heap.size, 0, none⟩) 1 1] (w.alloc (.cells #[.int .i64 s] 3)) fun e w' => e = .returned (.int .i64 8) ∧ w.alloc (.cells #[.int .i64 s] 3) = w' :=
  checks_no a b _ 1 1 [s] _ h rfl (by omega) (by simpa using intsAt_new w 3 [s]) ⟨0, by omega, hs⟩
theorem check2_yes (a b s t : Int) (w : World) (h : okSide a b) (hs : okSym a b s) (ht : okSym a b t) :
    Calls Try.prog 25 #[.int .i64 a, .int .i64 b, .slice (some ⟨w.heap.size, 0, none⟩) 2 2] (w.alloc (.cells #[.int .i64 s, .int .i64 t] 3)) fun e w' => e = .returned (.int .i64 0) ∧ w.alloc (.cells #[.int .i64 s, .int .i64 t] 3) = w' :=
  checks_yes a b _ 2 2 [s, t] _ h rfl (by omega) (by simpa using intsAt_new w 3 [s, t]) (fun i hi => by
    rcases (by omega : i = 0 ∨ i = 1) with rfl | rfl
    · exact hs
    · exact ht)
theorem check2_no (a b s t : Int) (w : World) (h : okSide a b) (hs : ¬ (okSym a b s ∧ okSym a b t)) :
    Calls Try.prog 25 #[.int .i64 a, .int .i64 b, .slice (some ⟨w.heap.size, 0, none⟩) 2 2] (w.alloc (.cells #[.int .i64 s, .int .i64 t] 3)) fun e w' => e = .returned (.int .i64 8) ∧ w.alloc (.cells #[.int .i64 s, .int .i64 t] 3) = w' :=
  checks_no a b _ 2 2 [s, t] _ h rfl (by omega) (by simpa using intsAt_new w 3 [s, t]) (by
    by_cases h0 : okSym a b s
    · exact ⟨1, by omega, fun h1 => hs ⟨h0, h1⟩⟩
    · exact ⟨0, by omega, h0⟩)
def ErrInt (w : World) (n : Int) (c : Int) (e : Ending) (w' : World) : Prop := e = .returned (.tuple #[.int .i64 n, .int .i64 c]) ∧ Ext w w'

theorem Map_side (a b s q : Int) (w : World) (h : ¬ okSide a b) : Calls Try.prog 12 #[.int .i64 a, .int .i64 b, .int .i64 s, .int .i64 q] w (ErrInt w 0 4) := by
  go_enter Try.func12, Try.ntmps12
  go_wp2_with (go_at_call 25; refine (checks_side _ _ _ _ _ _ h).mono ?_; rintro e w' ⟨rfl, rfl⟩)
  go_ret2
  exact ⟨rfl, (Below.refl _ _).alloc (Nat.le_refl _) _⟩
theorem Map_sym (a b s q : Int) (w : World) (h : okSide a b) (hs : ¬ okSym a b s) : Calls Try.prog 12 #[.int .i64 a, .int .i64 b, .int .i64 s, .int .i64 q] w (ErrInt w 0 8) := by
  go_enter Try.func12, Try.ntmps12
  go_wp2_with (go_at_call 25; refine (check1_no _ _ _ _ h hs).mono ?_; rintro e w' ⟨rfl, rfl⟩)
  go_ret2
  exact ⟨rfl, (Below.refl _ _).alloc (Nat.le_refl _) _⟩
theorem Map_range (a b s q : Int) (w : World) (h : okSide a b) (hs : okSym a b s) (hq : ¬ (0 ≤ q ∧ q < a * b)) : Calls Try.prog 12 #[.int .i64 a, .int .i64 b, .int .i64 s, .int .i64 q] w (ErrInt w 0 4) := by
  have hq' : q < 0 ∨ (0 ≤ q ∧ a * b ≤ q) := by omega
  clear hq
  obtain ⟨hm0, hm1⟩ := area_bd a b h
  rcases hq' with hq' | hq'
  all_goals
    go_enter Try.func12, Try.ntmps12
    go_wp2_with (go_at_call 25; refine (check1_yes _ _ _ _ h hs).mono ?_; rintro e w' ⟨rfl, rfl⟩)
    go_ret2
    exact ⟨rfl, (Below.refl _ _).alloc (Nat.le_refl _) _⟩
theorem Map_yes (a b s q : Int) (w : World) (h : okSide a b) (hs : okSym a b s) (hq : 0 ≤ q ∧ q < a * b) : Calls Try.prog 12 #[.int .i64 a, .int .i64 b, .int .i64 s, .int .i64 q] w (ErrInt w (toL a b s q) 0) := by
  obtain ⟨hq0, hq1⟩ := hq
  obtain ⟨hm0, hm1⟩ := area_bd a b h
  go_enter Try.func12, Try.ntmps12
  go_wp2_with (first | (go_at_call 25; refine (check1_yes _ _ _ _ h hs).mono ?_; rintro e w' ⟨rfl, rfl⟩) | (go_at_call 27; refine (to_any _ _ _ _ _ h hs.1 hs.2 hq0 hq1).mono ?_; rintro e w' ⟨rfl, n, rfl⟩))
  go_ret2
  exact ⟨rfl, below_drewN ((Below.refl _ _).alloc (Nat.le_refl _) _) _⟩
theorem Compose_side (a b s t : Int) (w : World) (h : ¬ okSide a b) : Calls Try.prog 9 #[.int .i64 a, .int .i64 b, .int .i64 s, .int .i64 t] w (ErrInt w 0 4) := by
  go_enter Try.func9, Try.ntmps9
  go_wp2_with (go_at_call 25; refine (checks_side _ _ _ _ _ _ h).mono ?_; rintro e w' ⟨rfl, rfl⟩)
  go_ret2
  exact ⟨rfl, (Below.refl _ _).alloc (Nat.le_refl _) _⟩
theorem Compose_sym (a b s t : Int) (w : World) (h : okSide a b) (hs : ¬ (okSym a b s ∧ okSym a b t)) : Calls Try.prog 9 #[.int .i64 a, .int .i64 b, .int .i64 s, .int .i64 t] w (ErrInt w 0 8) := by
  go_enter Try.func9, Try.ntmps9
  go_wp2_with (go_at_call 25; refine (check2_no _ _ _ _ _ h hs).mono ?_; rintro e w' ⟨rfl, rfl⟩)
  go_ret2
  exact ⟨rfl, (Below.refl _ _).alloc (Nat.le_refl _) _⟩
theorem Compose_yes (a b s t : Int) (w : World) (h : okSide a b) (hs : okSym a b s) (ht : okSym a b t) : Calls Try.prog 9 #[.int .i64 a, .int .i64 b, .int .i64 s, .int .i64 t] w (ErrInt w (compL s t) 0) := by
  have hc := cnt_bd a b
  obtain ⟨hs0, hs1⟩ := hs
  obtain ⟨ht0, ht1⟩ := ht
  obtain ⟨t4, _, _⟩ := bit_tests s hs0 (by omega)
  have t8 : t < 8 := by omega
  unfold compL
  cases h2 : b2 s
  all_goals
    rw [h2] at t4
    clear h2
    go_enter Try.func9, Try.ntmps9
    go_wp2_with (first | (go_at_call 25; refine (check2_yes _ _ _ _ _ h ⟨hs0, hs1⟩ ⟨ht0, ht1⟩).mono ?_; rintro e w' ⟨rfl, rfl⟩) | (go_at_call 26; refine (turned_any _ _ ht0 t8).mono ?_; rintro e w' ⟨rfl, rfl⟩))
    go_ret2
    exact ⟨rfl, (Below.refl _ _).alloc (Nat.le_refl _) _⟩
theorem Inverse_side (a b s : Int) (w : World) (h : ¬ okSide a b) : Calls Try.prog 11 #[.int .i64 a, .int .i64 b, .int .i64 s] w (ErrInt w 0 4) := by
  go_enter Try.func11, Try.ntmps11
  go_wp2_with (go_at_call 25; refine (checks_side _ _ _ _ _ _ h).mono ?_; rintro e w' ⟨rfl, rfl⟩)
  go_ret2
  exact ⟨rfl, (Below.refl _ _).alloc (Nat.le_refl _) _⟩
theorem Inverse_sym (a b s : Int) (w : World) (h : okSide a b) (hs : ¬ okSym a b s) : Calls Try.prog 11 #[.int .i64 a, .int .i64 b, .int .i64 s] w (ErrInt w 0 8) := by
  go_enter Try.func11, Try.ntmps11
  go_wp2_with (go_at_call 25; refine (check1_no _ _ _ _ h hs).mono ?_; rintro e w' ⟨rfl, rfl⟩)
  go_ret2
  exact ⟨rfl, (Below.refl _ _).alloc (Nat.le_refl _) _⟩
theorem Inverse_yes (a b s : Int) (w : World) (h : okSide a b) (hs : okSym a b s) : Calls Try.prog 11 #[.int .i64 a, .int .i64 b, .int .i64 s] w (ErrInt w (invL s) 0) := by
  have hc := cnt_bd a b
  obtain ⟨hs0, hs1⟩ := hs
  have s8 : s < 8 := by omega
  obtain ⟨t4, _, _⟩ := bit_tests s hs0 s8
  unfold invL
  cases h2 : b2 s
  all_goals
    rw [h2] at t4
    clear h2
    go_enter Try.func11, Try.ntmps11
    go_wp2_with (first | (go_at_call 25; refine (check1_yes _ _ _ _ h ⟨hs0, hs1⟩).mono ?_; rintro e w' ⟨rfl, rfl⟩) | (go_at_call 26; refine (turned_any _ _ hs0 s8).mono ?_; rintro e w' ⟨rfl, rfl⟩))
    go_ret2
    exact ⟨rfl, (Below.refl _ _).alloc (Nat.le_refl _) _⟩
end Go.Proofs.Ytmkckpiehffccaa
