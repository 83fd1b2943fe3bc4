/- SymmGroup: Compose does one symmetry after the other, and Inverse moves all squares back. Holds for every input; no condition. -/
import Derived.Test.YtmkckpiehffccaaSymmW5
import Derived.Test.YtmkckpiehffccaaFine
import Derived.Test.YtmkckpiehffccaaEqInts
namespace Go.Proofs.Ytmkckpiehffccaa
open Go.ChangeShapes Go.WideShapes Go.ChangeAt Go.RowKit
set_option linter.unusedVariables false
theorem moved_cells {xs : List Int} (h : Moved 2 1 1 [5, 6] xs 2) : xs = [6, 5] := by
  obtain ⟨h1, h2⟩ := h
  have e0 := h2 0 (by omega)
  have e1 := h2 1 (by omega)
  have t0 : (toL 2 1 1 (0 : Nat)).toNat = 1 := by decide
  have t1 : (toL 2 1 1 (1 : Nat)).toNat = 0 := by decide
  rw [t0] at e0
  rw [t1] at e1
  match xs, h1 with
  | [x, y], _ => simp at e0 e1; rw [e0, e1]
theorem moved_any (w : World) : Calls Try.prog 10 #[] w fun e w' => e = .returned (.bool true) ∧ Ext w w' := by
  have em : toL 3 3 5 0 = 2 := by decide
  have HM : ∀ W, Calls Try.prog 12 #[.int .i64 3, .int .i64 3, .int .i64 5, .int .i64 0] W (ErrInt W 2 0) := fun W => em ▸ Map_yes 3 3 5 0 W (by unfold okSide; omega) (by unfold okSym cnt; omega) (by omega)
  have HM' := hide HM
  clear HM em
  go_enter Try.func10, Try.ntmps10
  go_wp2_with fail
  refine (HM'.out _).mono ?_
  rintro e w1 ⟨rfl, x1⟩
  go_wp2_with fail
  refine (Apply_yes 2 1 1 _ 2 2 [5, 6] _ (by unfold okSide; omega) (by unfold okSym cnt; omega) rfl rfl (by simpa using intsAt_new w1 3 [5, 6])).mono ?_
  rintro e w2 ⟨g, xs, rfl, hrow, hmv, hg, x2⟩
  obtain rfl := moved_cells hmv
  go_wp2_with fail
  refine (EqInts_any _ _ 2 2 2 2 [6, 5] [6, 5] _ rfl rfl (by omega) (by omega) (hrow.alloc _).ints (by simpa using intsAt_new w2 3 [6, 5])).mono ?_
  rintro e w3 ⟨rfl, q, rfl⟩
  go_wp2
  go_ret
  exact ⟨rfl, ext_drewN (ext_alloc (ext_trans (ext_alloc x1 _) x2) _) _⟩
def SomeInt2 (w : World) (e : Ending) (w' : World) : Prop := ∃ n c : Int, e = .returned (.tuple #[.int .i64 n, .int .i64 c]) ∧ Ext w w'
theorem Map_some (a b s q : Int) (w : World) : Calls Try.prog 12 #[.int .i64 a, .int .i64 b, .int .i64 s, .int .i64 q] w (SomeInt2 w) := by
  by_cases h : okSide a b
  · by_cases hs : okSym a b s
    · by_cases hq : 0 ≤ q ∧ q < a * b
      · exact (Map_yes a b s q w h hs hq).mono fun _ _ h => ⟨_, _, h⟩
      · exact (Map_range a b s q w h hs hq).mono fun _ _ h => ⟨_, _, h⟩
    · exact (Map_sym a b s q w h hs).mono fun _ _ h => ⟨_, _, h⟩
  · exact (Map_side a b s q w h).mono fun _ _ h => ⟨_, _, h⟩
theorem Inverse_some (a b s : Int) (w : World) : Calls Try.prog 11 #[.int .i64 a, .int .i64 b, .int .i64 s] w (SomeInt2 w) := by
  by_cases h : okSide a b
  · by_cases hs : okSym a b s
    · exact (Inverse_yes a b s w h hs).mono fun _ _ h => ⟨_, _, h⟩
    · exact (Inverse_sym a b s w h hs).mono fun _ _ h => ⟨_, _, h⟩
  · exact (Inverse_side a b s w h).mono fun _ _ h => ⟨_, _, h⟩
/-- Compose where the symmetries are not permitted: 0 and a code that is not 0. -/
theorem Compose_no (a b s t : Int) (w : World) (h : ¬ (okSide a b ∧ okSym a b s ∧ okSym a b t)) : Calls Try.prog 9 #[.int .i64 a, .int .i64 b, .int .i64 s, .int .i64 t] w fun e w' => ∃ c : Int, 4 ≤ c ∧ e = .returned (.tuple #[.int .i64 0, .int .i64 c]) ∧ Ext w w' := by
  by_cases h1 : okSide a b
  · exact (Compose_sym a b s t w h1 (fun h2 => h ⟨h1, h2⟩)).mono fun _ _ h => ⟨8, by omega, h⟩
  · exact (Compose_side a b s t w h1).mono fun _ _ h => ⟨4, by omega, h⟩
theorem Compose_try (w : World) : Calls Try.prog 9 #[.int .i64 3, .int .i64 3, .int .i64 4, .int .i64 1] w (ErrInt w 6 0) :=
  (by decide +kernel : compL 4 1 = 6) ▸ Compose_yes 3 3 4 1 w (by unfold okSide; omega) (by unfold okSym cnt; omega) (by unfold okSym cnt; omega)
theorem Inverse_try (w : World) : Calls Try.prog 11 #[.int .i64 3, .int .i64 3, .int .i64 5] w (ErrInt w 6 0) :=
  (by decide +kernel : invL 5 = 6) ▸ Inverse_yes 3 3 5 w (by unfold okSide; omega) (by unfold okSym cnt; omega)
set_option maxRecDepth 100000 in
theorem group_no (a b s t q : Int) (w : World) (h : ¬ (okSide a b ∧ okSym a b s ∧ okSym a b t)) :
    Calls Try.prog 4 #[.int .i64 a, .int .i64 b, .int .i64 s, .int .i64 t, .int .i64 q] w fun e w' => e = .returned (.bool true) ∧ Ext w w' := by
  go_enter Try.func4, Try.ntmps4
  go_wp2_with fail
  refine (Compose_try _).mono ?_
  rintro e w1 ⟨rfl, x1⟩
  go_wp2_with fail
  refine (moved_any _).mono ?_
  rintro e w2 ⟨rfl, x2⟩
  go_wp2_with fail
  refine (Inverse_try _).mono ?_
  rintro e w3 ⟨rfl, x3⟩
  go_wp2_with fail
  refine (Compose_no a b s t _ h).mono ?_
  rintro e w4 ⟨c, hc, rfl, x4⟩
  have hc' : (c != 0) = true := by simp; omega
  go_wp2_with fail
  refine (Inverse_some a b s _).mono ?_
  rintro e w5 ⟨n5, c5, rfl, x5⟩
  go_wp2_with fail
  refine (Map_some a b t q _).mono ?_
  rintro e w6 ⟨n6, c6, rfl, x6⟩
  go_wp2
  go_ret
  exact ⟨rfl, ext_trans (ext_trans (ext_trans (ext_trans (ext_trans x1 x2) x3) x4) x5) x6⟩
theorem group_vals {a b s t : Int} (hs : okSym a b s) (ht : okSym a b t) :
    (bif decide (4 ≤ s) then (bits .xor .i64 s (t / 4 * 4 + t % 2 * 2 + t / 2 % 2) : Int) else bits .xor .i64 s t) = compL s t ∧ (bif decide (4 ≤ s) then 4 + s % 2 * 2 + s / 2 % 2 else s) = invL s := by
  obtain ⟨h0, h1, _⟩ := okSym_sq hs
  unfold compL invL b2 turnedL
  by_cases h : 4 ≤ s
  · simp [h]; omega
  · simp [h]
set_option maxRecDepth 100000 in
theorem group_range (a b s t q : Int) (w : World) (h : okSide a b) (hs : okSym a b s) (ht : okSym a b t) (hq : ¬ (0 ≤ q ∧ q < a * b)) :
    Calls Try.prog 4 #[.int .i64 a, .int .i64 b, .int .i64 s, .int .i64 t, .int .i64 q] w fun e w' => e = .returned (.bool true) ∧ Ext w w' := by
  obtain ⟨v1, v2⟩ := group_vals hs ht
  obtain ⟨s0, s1, _⟩ := okSym_sq hs
  obtain ⟨t0, t1, _⟩ := okSym_sq ht
  have HC := fun W => Compose_yes a b s t W h hs ht
  have HI := fun W => Inverse_yes a b s W h hs
  rw [← v1] at HC
  rw [← v2] at HI
  clear v1 v2
  by_cases h4 : 4 ≤ s
  all_goals
    simp only [h4, decide_true, decide_false, cond_true, cond_false] at HC HI
    have HC' := hide HC
    have HI' := hide HI
    clear HC HI
    go_enter Try.func4, Try.ntmps4
    go_wp2_with fail
    refine (Compose_try _).mono ?_
    rintro e w1 ⟨rfl, x1⟩
    go_wp2_with fail
    refine (moved_any _).mono ?_
    rintro e w2 ⟨rfl, x2⟩
    go_wp2_with fail
    refine (Inverse_try _).mono ?_
    rintro e w3 ⟨rfl, x3⟩
    go_wp2_with fail
    refine (HC'.out _).mono ?_
    rintro e w4 ⟨rfl, x4⟩
    go_wp2_with fail
    refine (HI'.out _).mono ?_
    rintro e w5 ⟨rfl, x5⟩
    go_wp2_with fail
    refine (Map_range a b t q _ h ht hq).mono ?_
    rintro e w6 ⟨rfl, x6⟩
    go_wp2
    go_ret
    exact ⟨rfl, ext_trans (ext_trans (ext_trans (ext_trans (ext_trans x1 x2) x3) x4) x5) x6⟩
theorem group_law {a b s t q : Int} (h : okSide a b) (hs : okSym a b s) (ht : okSym a b t) (h0 : 0 ≤ q) (h1 : q < a * b) :
    toL a b s (toL a b t q) = toL a b (compL s t) q ∧ toL a b (invL s) (toL a b s (toL a b t q)) = toL a b t q :=
  have hb := toL_bd h ht h0 h1
  ⟨toL_comp h hs ht h0 h1, toL_inv h hs hb.1 hb.2⟩
set_option maxRecDepth 100000 in
set_option maxHeartbeats 1000000 in
theorem group_yes (a b s t q : Int) (w : World) (h : okSide a b) (hs : okSym a b s) (ht : okSym a b t) (hq : 0 ≤ q ∧ q < a * b) :
    Calls Try.prog 4 #[.int .i64 a, .int .i64 b, .int .i64 s, .int .i64 t, .int .i64 q] w fun e w' => e = .returned (.bool true) ∧ Ext w w' := by
  obtain ⟨v1, v2⟩ := group_vals hs ht
  obtain ⟨s0, s1, _⟩ := okSym_sq hs
  obtain ⟨t0, t1, _⟩ := okSym_sq ht
  obtain ⟨g1, g2⟩ := group_law h hs ht hq.1 hq.2
  have hb := toL_bd h ht hq.1 hq.2
  have hb2 := toL_bd h hs hb.1 hb.2
  have HC := fun W => Compose_yes a b s t W h hs ht
  have HI := fun W => Inverse_yes a b s W h hs
  have M1 := fun W => Map_yes a b t q W h ht hq
  have M2 := fun W => Map_yes a b s (toL a b t q) W h hs hb
  have M3 := fun W => Map_yes a b (compL s t) q W h (comp_ok hs ht) hq
  have M4 := fun W => Map_yes a b (invL s) (toL a b s (toL a b t q)) W h (inv_ok hs) hb2
  rw [g2] at M4
  rw [← g1] at M3
  rw [← v1] at HC M3
  rw [← v2] at HI M4
  clear v1 v2 g1 g2 hb hb2
  generalize toL a b s (toL a b t q) = y at *
  generalize toL a b t q = x at *
  by_cases h4 : 4 ≤ s
  all_goals
    simp only [h4, decide_true, decide_false, cond_true, cond_false] at HC HI M3 M4
    have HC' := hide HC
    have HI' := hide HI
    have M1' := hide M1
    have M2' := hide M2
    have M3' := hide M3
    have M4' := hide M4
    clear HC HI M1 M2 M3 M4
    go_enter Try.func4, Try.ntmps4
    go_wp2_with fail
    refine (Compose_try _).mono ?_
    rintro e w1 ⟨rfl, x1⟩
    go_wp2_with fail
    refine (moved_any _).mono ?_
    rintro e w2 ⟨rfl, x2⟩
    go_wp2_with fail
    refine (Inverse_try _).mono ?_
    rintro e w3 ⟨rfl, x3⟩
    go_wp2_with fail
    refine (HC'.out _).mono ?_
    rintro e w4 ⟨rfl, x4⟩
    go_wp2_with fail
    refine (HI'.out _).mono ?_
    rintro e w5 ⟨rfl, x5⟩
    go_wp2_with fail
    refine (M1'.out _).mono ?_
    rintro e w6 ⟨rfl, x6⟩
    go_wp2_with fail
    refine (M2'.out _).mono ?_
    rintro e w7 ⟨rfl, x7⟩
    go_wp2_with fail
    refine (M3'.out _).mono ?_
    rintro e w8 ⟨rfl, x8⟩
    go_wp2_with fail
    refine (M4'.out _).mono ?_
    rintro e w9 ⟨rfl, x9⟩
    go_wp2_with fail
    refine (fine_any _ 4 4 [0, 0, 0, 0] _ rfl (by omega) (by simpa using intsAt_new w9 22 [0, 0, 0, 0])).mono ?_
    rintro e w10 ⟨rfl, rfl⟩
    rw [show allZero [0, 0, 0, 0] = true from rfl]
    go_wp2
    go_ret
    exact ⟨rfl, ext_alloc (ext_trans (ext_trans (ext_trans (ext_trans (ext_trans (ext_trans (ext_trans (ext_trans x1 x2) x3) x4) x5) x6) x7) x8) x9) _⟩
theorem group_any (a b s t q : Int) (w : World) :
    Calls Try.prog 4 #[.int .i64 a, .int .i64 b, .int .i64 s, .int .i64 t, .int .i64 q] w fun e w' => e = .returned (.bool true) ∧ Ext w w' := by
  by_cases h : okSide a b ∧ okSym a b s ∧ okSym a b t
  · by_cases hq : 0 ≤ q ∧ q < a * b
    · exact group_yes a b s t q w h.1 h.2.1 h.2.2 hq
    · exact group_range a b s t q w h.1 h.2.1 h.2.2 hq
  · exact group_no a b s t q w h

theorem group_walk (a b s t q : Int) (w : World) (_ : (Lit.int .i64 a).wf = true) (_ : (Lit.int .i64 b).wf = true) (_ : (Lit.int .i64 s).wf = true) (_ : (Lit.int .i64 t).wf = true) (_ : (Lit.int .i64 q).wf = true) :
    Calls Try.prog 4 #[.int .i64 a, .int .i64 b, .int .i64 s, .int .i64 t, .int .i64 q] w fun e w' => e = .returned (.bool true) ∧ Ext w w' := group_any a b s t q w
end Go.Proofs.Ytmkckpiehffccaa
