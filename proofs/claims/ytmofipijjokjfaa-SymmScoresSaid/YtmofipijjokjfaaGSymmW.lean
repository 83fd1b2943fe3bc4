/- Walks over the package symm: checks, squares, compositions. Walks over the package symm: the variadic check. Walks over the package symm: turned, to, Map, Compose, Inverse. Walks over the package symm: Map. Walks over the package symm: apply, Apply. The sample of symm that the laws begin with: moved. -/
import Derived.Test.YtmofipijjokjfaaRows
import Derived.Test.YtmofipijjokjfaaGBase
import Derived.Test.YtmofipijjokjfaaGSymm
import Derived.WalkKit
import Derived.ProofKit
import Derived.OpenShut
import Derived.Outline
import Derived.Deep.QuietTactic
import Derived.BigQuiet
import Derived.Test.YtmofipijjokjfaaGLibB
namespace Go.Proofs.Ytmofipijjokjfaa
open Go.ChangeShapes Go.WideShapes Go.ChangeAt Go.RowKit
set_option linter.unusedVariables false
theorem Check_yes (a b : Int) (w : World) (h : okSide a b) :
    Calls Try.prog 104 #[.int .i64 a, .int .i64 b] w fun e w' => e = .returned (.int .i64 0) ∧ w = w' := by
  obtain ⟨h1, h2, h3, h4⟩ := h
  go_enter Try.func104, Try.ntmps104
  go_wp2
  go_ret
  exact ⟨rfl, rfl⟩
theorem Check_no (a b : Int) (w : World) (h : ¬ okSide a b) :
    Calls Try.prog 104 #[.int .i64 a, .int .i64 b] w fun e w' => e = .returned (.int .i64 4) ∧ w = w' := by
  have h' : a < 1 ∨ (1 ≤ a ∧ 8 < a) ∨ (1 ≤ a ∧ a ≤ 8 ∧ b < 1) ∨ (1 ≤ a ∧ a ≤ 8 ∧ 1 ≤ b ∧ 8 < b) := by unfold okSide at h; omega
  clear h
  rcases h' with h | h | h | h
  all_goals
    go_enter Try.func104, Try.ntmps104
    go_wp2
    go_ret
    exact ⟨rfl, rfl⟩
theorem count_any (a b : Int) (w : World) :
    Calls Try.prog 105 #[.int .i64 a, .int .i64 b] w fun e w' => e = .returned (.int .i64 (cnt a b)) ∧ w = w' := by
  by_cases h : a = b
  · subst h
    go_enter Try.func105, Try.ntmps105
    go_wp2
    go_ret
    exact ⟨by simp [cnt], rfl⟩
  · have h' : (a == b) = false := by simpa using h
    go_enter Try.func105, Try.ntmps105
    go_wp2
    go_ret
    exact ⟨by simp [cnt, h], rfl⟩
end Go.Proofs.Ytmofipijjokjfaa
namespace Go.Proofs.Ytmofipijjokjfaa
open Go.ChangeShapes Go.WideShapes Go.ChangeAt Go.RowKit
set_option linter.unusedVariables false

theorem checks_side (a b : Int) (A : Option Addr) (n c : Nat) (w : World) (h : ¬ okSide a b) :
    Calls Try.prog 75 #[.int .i64 a, .int .i64 b, .slice A n c] w fun e w' => e = .returned (.int .i64 4) ∧ w = w' := by
  go_enter Try.func75, Try.ntmps75
  go_wp2_with (go_at_call 104; refine (Check_no _ _ _ h).mono ?_; rintro e w' ⟨rfl, rfl⟩)
  go_ret
  exact ⟨rfl, rfl⟩

theorem checks_yes (a b : Int) (A : Option Addr) (n c : Nat) (zs : List Int) (w : World) (h : okSide a b) (hn : zs.length = n) (hm : n ≤ 9223372036854775807)
    (hz : IntsAt w A zs) (hall : ∀ i, i < n → 0 ≤ zs.getD i 0 ∧ zs.getD i 0 < cnt a b) :
    Calls Try.prog 75 #[.int .i64 a, .int .i64 b, .slice A n c] w fun e w' => e = .returned (.int .i64 0) ∧ w = w' := by
  subst hn
  have hcb := cnt_bd a b
  go_enter Try.func75, Try.ntmps75
  go_wp2_with (go_at_call 104; refine (Check_yes _ _ _ h).mono ?_; rintro e w' ⟨rfl, rfl⟩)
  go_loop [18] (fun i => ∃ k : Nat, k ≤ zs.length ∧ i = .int .i64 k) (fun i => zs.length - (intOf i).toNat)
  case atStart => exact ⟨0, Nat.zero_le _, rfl⟩
  case round =>
    obtain ⟨k, hk, rfl⟩ := hrel
    by_cases hlt : k < zs.length
    · obtain ⟨ho, o, rfl, hc⟩ := hz k hlt
      obtain ⟨h0, h1⟩ := hall k hlt
      clear hall hz
      generalize zs.getD k 0 = z at *
      have h0' : ¬ z < 0 := by omega
      go_wp2_with (go_at_call 105; refine (count_any _ _ _).mono ?_; rintro e w' ⟨rfl, rfl⟩)
      go_round
      case rel => exact ⟨k + 1, by omega, by go_num⟩
      case measure => simp [intOf]; omega
    · clear hall hz
      go_wp2
      go_ret
      exact ⟨rfl, rfl⟩
end Go.Proofs.Ytmofipijjokjfaa
namespace Go.Proofs.Ytmofipijjokjfaa
open Go.ChangeShapes Go.WideShapes Go.ChangeAt Go.RowKit
set_option linter.unusedVariables false
theorem checks_no (a b : Int) (A : Option Addr) (n c : Nat) (zs : List Int) (w : World) (h : okSide a b) (hn : zs.length = n) (hm : n ≤ 9223372036854775807)
    (hz : IntsAt w A zs) (hall : ∃ i, i < n ∧ ¬ (0 ≤ zs.getD i 0 ∧ zs.getD i 0 < cnt a b)) :
    Calls Try.prog 75 #[.int .i64 a, .int .i64 b, .slice A n c] w fun e w' => e = .returned (.int .i64 8) ∧ w = w' := by
  subst hn
  have hcb := cnt_bd a b
  obtain ⟨j, hj, hbad⟩ := hall
  have HB := hide hbad
  clear hbad
  go_enter Try.func75, Try.ntmps75
  go_wp2_with (go_at_call 104; refine (Check_yes _ _ _ h).mono ?_; rintro e w' ⟨rfl, rfl⟩)
  go_loop [18] (fun i => ∃ k : Nat, k ≤ j ∧ i = .int .i64 k) (fun i => zs.length - (intOf i).toNat)
  case atStart => exact ⟨0, Nat.zero_le _, rfl⟩
  case round =>
    obtain ⟨k, hk, rfl⟩ := hrel
    obtain ⟨ho, o, rfl, hc⟩ := hz k (by omega)
    clear hz
    by_cases hg : 0 ≤ zs.getD k 0 ∧ zs.getD k 0 < cnt a b
    · have hkj : k < j := by
        rcases Nat.lt_or_ge k j with hlt | hge
        · exact hlt
        · obtain rfl : k = j := by omega
          exact absurd hg HB.out
      obtain ⟨h0, h1⟩ := hg
      clear HB
      generalize zs.getD k 0 = z at *
      go_wp2_with (go_at_call 105; refine (count_any _ _ _).mono ?_; rintro e w' ⟨rfl, rfl⟩)
      go_round
      case rel => exact ⟨k + 1, by omega, by go_num⟩
      case measure => simp [intOf]; omega
    · clear HB
      generalize zs.getD k 0 = z at *
      have hz' : z < 0 ∨ (0 ≤ z ∧ cnt a b ≤ z) := by omega
      clear hg
      rcases hz' with hz' | hz'
      all_goals
        go_wp2_with (go_at_call 105; refine (count_any _ _ _).mono ?_; rintro e w' ⟨rfl, rfl⟩)
        go_ret
        exact ⟨rfl, rfl⟩
theorem to_any (a b s q : Int) (w : World) (h : okSide a b) (hs0 : 0 ≤ s) (hs1 : s < cnt a b) (h0 : 0 ≤ q) (h1 : q < a * b) :
    Calls Try.prog 94 #[.int .i64 a, .int .i64 b, .int .i64 s, .int .i64 q] w fun e w' => e = .returned (.int .i64 (toL a b s q)) ∧ ∃ n, w' = w.drewN n := by
  obtain ⟨hx0, hx1, hy0, hy1⟩ := sq_bd a b q h h0 h1
  obtain ⟨ha, ha', hb, hb'⟩ := h
  have hc := cnt_bd a b
  have hsq : b2 s = true → a = b := by
    intro h2; unfold b2 at h2; unfold cnt at hs1; simp at h2; split at hs1 <;> omega
  obtain ⟨t4, t1, t2⟩ := bit_tests s hs0 (by omega)
  have hX : 0 ≤ toX a s (q % a) (q / a) ∧ toX a s (q % a) (q / a) < 8 := by
    unfold toX; cases h2 : b2 s <;> cases b0 s <;> simp <;> (try have := hsq h2) <;> omega
  have hY : 0 ≤ toY b s (q % a) (q / a) ∧ toY b s (q % a) (q / a) < 8 := by
    unfold toY; cases h2 : b2 s <;> cases b1 s <;> simp <;> (try have := hsq h2) <;> omega
  have hq : q < 9223372036854775807 := by
    have : a * b ≤ 8 * 8 := Int.mul_le_mul (by omega) (by omega) (by omega) (by omega)
    omega
  have hm : 0 ≤ toY b s (q % a) (q / a) * a ∧ toY b s (q % a) (q / a) * a ≤ 64 := by
    refine ⟨Int.mul_nonneg hY.1 (by omega), ?_⟩
    have : toY b s (q % a) (q / a) * a ≤ 8 * 8 := Int.mul_le_mul (by omega) (by omega) (by omega) (by omega)
    omega
  clear hs1 h1 hsq hc
  unfold toL
  unfold toX toY at *
  obtain ⟨hX0, hX1⟩ := hX
  obtain ⟨hY0, hY1⟩ := hY
  obtain ⟨hm0, hm1⟩ := hm
  cases h2 : b2 s <;> cases h3 : b0 s <;> cases h4 : b1 s
  all_goals
    rw [h2] at t4 
    rw [h3] at t1
    rw [h4] at t2
    simp only [h2, h3, h4, cond_true, cond_false] at *
    clear h2 h3 h4
    go_enter Try.func94, Try.ntmps94
    go_wp2
    go_quiet (fail)
    go_wp2
    go_ret
    exact ⟨rfl, _, rfl⟩
end Go.Proofs.Ytmofipijjokjfaa
namespace Go.Proofs.Ytmofipijjokjfaa
open Go.ChangeShapes Go.WideShapes Go.ChangeAt Go.RowKit
set_option linter.unusedVariables false
theorem check1_yes (a b s : Int) (w : World) (h : okSide a b) (hs : okSym a b s) :
    Calls Try.prog 75 #[.int .i64 a, .int .i64 b, .slice (some ⟨w.heap.size, 0, none⟩) 1 1] (w.alloc (.cells #[.int .i64 s] 3)) fun e w' => e = .returned (.int .i64 0) ∧ w.alloc (.cells #[.int .i64 s] 3) = w' :=
  checks_yes a b _ 1 1 [s] _ h rfl (by omega) (by simpa using intsAt_new w 3 [s]) (fun i hi => (by omega : i = 0) ▸ hs)
theorem check1_no (a b s : Int) (w : World) (h : okSide a b) (hs : ¬ okSym a b s) :
    Calls Try.prog 75 #[.int .i64 a, .int .i64 b, .slice (some ⟨w.heap.size, 0, none⟩) 1 1] (w.alloc (.cells #[.int .i64 s] 3)) fun e w' => e = .returned (.int .i64 8) ∧ w.alloc (.cells #[.int .i64 s] 3) = w' :=
  checks_no a b _ 1 1 [s] _ h rfl (by omega) (by simpa using intsAt_new w 3 [s]) ⟨0, by omega, hs⟩
theorem check2_yes (a b s t : Int) (w : World) (h : okSide a b) (hs : okSym a b s) (ht : okSym a b t) :
    Calls Try.prog 75 #[.int .i64 a, .int .i64 b, .slice (some ⟨w.heap.size, 0, none⟩) 2 2] (w.alloc (.cells #[.int .i64 s, .int .i64 t] 3)) fun e w' => e = .returned (.int .i64 0) ∧ w.alloc (.cells #[.int .i64 s, .int .i64 t] 3) = w' :=
  checks_yes a b _ 2 2 [s, t] _ h rfl (by omega) (by simpa using intsAt_new w 3 [s, t]) (fun i hi => by
    rcases (by omega : i = 0 ∨ i = 1) with rfl | rfl
    · exact hs
    · exact ht)
theorem check2_no (a b s t : Int) (w : World) (h : okSide a b) (hs : ¬ (okSym a b s ∧ okSym a b t)) :
    Calls Try.prog 75 #[.int .i64 a, .int .i64 b, .slice (some ⟨w.heap.size, 0, none⟩) 2 2] (w.alloc (.cells #[.int .i64 s, .int .i64 t] 3)) fun e w' => e = .returned (.int .i64 8) ∧ w.alloc (.cells #[.int .i64 s, .int .i64 t] 3) = w' :=
  checks_no a b _ 2 2 [s, t] _ h rfl (by omega) (by simpa using intsAt_new w 3 [s, t]) (by
    by_cases h0 : okSym a b s
    · exact ⟨1, by omega, fun h1 => hs ⟨h0, h1⟩⟩
    · exact ⟨0, by omega, h0⟩)
def ErrInt (w : World) (n : Int) (c : Int) (e : Ending) (w' : World) : Prop := e = .returned (.tuple #[.int .i64 n, .int .i64 c]) ∧ Ext w w'

theorem Map_side (a b s q : Int) (w : World) (h : ¬ okSide a b) : Calls Try.prog 72 #[.int .i64 a, .int .i64 b, .int .i64 s, .int .i64 q] w (ErrInt w 0 4) := by
  go_enter Try.func72, Try.ntmps72
  go_wp2_with (go_at_call 75; refine (checks_side _ _ _ _ _ _ h).mono ?_; rintro e w' ⟨rfl, rfl⟩)
  go_ret2
  exact ⟨rfl, (Below.refl _ _).alloc (Nat.le_refl _) _⟩
theorem Map_sym (a b s q : Int) (w : World) (h : okSide a b) (hs : ¬ okSym a b s) : Calls Try.prog 72 #[.int .i64 a, .int .i64 b, .int .i64 s, .int .i64 q] w (ErrInt w 0 8) := by
  go_enter Try.func72, Try.ntmps72
  go_wp2_with (go_at_call 75; refine (check1_no _ _ _ _ h hs).mono ?_; rintro e w' ⟨rfl, rfl⟩)
  go_ret2
  exact ⟨rfl, (Below.refl _ _).alloc (Nat.le_refl _) _⟩
theorem Map_range (a b s q : Int) (w : World) (h : okSide a b) (hs : okSym a b s) (hq : ¬ (0 ≤ q ∧ q < a * b)) : Calls Try.prog 72 #[.int .i64 a, .int .i64 b, .int .i64 s, .int .i64 q] w (ErrInt w 0 4) := by
  have hq' : q < 0 ∨ (0 ≤ q ∧ a * b ≤ q) := by omega
  clear hq
  obtain ⟨hm0, hm1⟩ := area_bd a b h
  rcases hq' with hq' | hq'
  all_goals
    go_enter Try.func72, Try.ntmps72
    go_wp2_with (go_at_call 75; refine (check1_yes _ _ _ _ h hs).mono ?_; rintro e w' ⟨rfl, rfl⟩)
    go_ret2
    exact ⟨rfl, (Below.refl _ _).alloc (Nat.le_refl _) _⟩
theorem Map_yes (a b s q : Int) (w : World) (h : okSide a b) (hs : okSym a b s) (hq : 0 ≤ q ∧ q < a * b) : Calls Try.prog 72 #[.int .i64 a, .int .i64 b, .int .i64 s, .int .i64 q] w (ErrInt w (toL a b s q) 0) := by
  obtain ⟨hq0, hq1⟩ := hq
  obtain ⟨hm0, hm1⟩ := area_bd a b h
  go_enter Try.func72, Try.ntmps72
  go_wp2_with (first | (go_at_call 75; refine (check1_yes _ _ _ _ h hs).mono ?_; rintro e w' ⟨rfl, rfl⟩) | (go_at_call 94; refine (to_any _ _ _ _ _ h hs.1 hs.2 hq0 hq1).mono ?_; rintro e w' ⟨rfl, n, rfl⟩))
  go_ret2
  exact ⟨rfl, below_drewN ((Below.refl _ _).alloc (Nat.le_refl _) _) _⟩
end Go.Proofs.Ytmofipijjokjfaa
namespace Go.Proofs.Ytmofipijjokjfaa
open Go.ChangeShapes Go.WideShapes Go.ChangeAt Go.RowKit
set_option linter.unusedVariables false
theorem intInfo : (Try.prog.info? 3).map (fun i => (i.zero, i.size, i.bytes)) = some (some (.int .i64 0), 1, 8) := by kernel_rfl
theorem make_ints30 (n : Nat) (hn : n ≤ 2 ^ 45) (w : World) : (Instr.makeSlice 23 (.int .i64 (n : Int)) (.int .i64 (n : Int))).run Try.prog w = .ok (.slice (some ⟨w.heap.size, 0, none⟩) n n) (w.alloc (.cells ((List.replicate n (0 : Int)).map (Value.int .i64)).toArray 3)) := by
  obtain ⟨i0, hi, hz0, hz1, hz2⟩ := info_parts intInfo
  exact make_ints 23 3 i0 Try.underlying23 hi hz0 hz1 hz2 n hn w
theorem apply_any (a b s : Int) (A : Option Addr) (n c : Nat) (zs : List Int) (w : World) (h : okSide a b) (hs : okSym a b s) (hn : zs.length = n) (hab : (n : Int) = a * b) (hz : IntsAt w A zs) :
    Calls Try.prog 76 #[.int .i64 a, .int .i64 b, .int .i64 s, .slice A n c] w fun e w' => ∃ g xs, e = .returned (.slice (some ⟨g, 0, none⟩) n n) ∧ Row w' g 3 xs ∧ Moved a b s zs xs n ∧ w.heap.size ≤ g ∧ Ext w w' := by
  have ham := area_bd a b h
  have hn64 : n ≤ 64 := by omega
  have hmk := make_ints30 n (by omega)
  have HAB := hide hab
  have HN := hide hn
  clear hab hn
  go_enter Try.func76, Try.ntmps76
  go_wp2
  go_loopw [10, 11, 17] (fun _ _ i wr => ∃ (k : Nat) (xs : List Int), k ≤ n ∧ i = .int .i64 k ∧ Row wr w.heap.size 3 xs ∧ Moved a b s zs xs k ∧ Ext w wr) (fun _ _ i _ => n - (intOf i).toNat)
  case atStart =>
    refine ⟨0, List.replicate n 0, Nat.zero_le _, rfl, by simpa using Row.new w 3 (List.replicate n 0), ⟨by simp [HN.out], fun i hi => by omega⟩, (Below.refl _ _).alloc (Nat.le_refl _) _⟩
  case round =>
    obtain ⟨k, xs, hk, rfl, hrow, hmv, hext⟩ := hrel
    by_cases hlt : k < n
    · have hk' : k < zs.length := by rw [HN.out]; exact hlt
      obtain ⟨bA, oA, rfl, hc⟩ := hz.ext hext k hk'
      have hsq : (k : Int) < a * b := by rw [← HAB.out]; omega
      have hbd := toL_bd (q := (k : Int)) h hs (by omega) hsq
      obtain ⟨j, hj⟩ := Int.eq_ofNat_of_zero_le hbd.1
      have hjn : j < n := by rw [hj, ← HAB.out] at hbd; omega
      have hjx : j < xs.length := by rw [hmv.1, HN.out]; exact hjn
      have hcell := hrow.cell hjx
      have hfr := hrow.frozen j
      have hmv' := hmv.step h hs (by rw [HN.out]; exact HAB.out) hk' hj
      have hto := fun W => to_any a b s k W h hs.1 hs.2 (by omega) hsq
      rw [hj] at hto
      have HTO := hide hto
      have HMV := hide hmv'
      clear hto hmv' hmv hbd hsq hz hj
      generalize zs.getD k 0 = z at *
      go_wp2_with (go_at_call 94; refine (HTO.out _).mono ?_; rintro e w' ⟨rfl, q, rfl⟩)
      go_roundw
      case rel => exact ⟨k + 1, _, by omega, by go_num, (hrow.drewN q).set_ j z, HMV.out, (below_drewN hext q).setCell (by simp) _⟩
      case measure => simp [intOf]; omega
    · obtain rfl : k = n := by omega
      clear hz
      go_wp2
      go_ret
      exact ⟨_, xs, rfl, hrow, hmv, Nat.le_refl _, hext⟩
theorem Apply_side (a b s : Int) (A : Option Addr) (n c : Nat) (w : World) (h : ¬ okSide a b) :
    Calls Try.prog 52 #[.int .i64 a, .int .i64 b, .int .i64 s, .slice A n c] w fun e w' => e = .returned (.tuple #[.slice none 0 0, .int .i64 4]) ∧ Ext w w' := by
  go_enter Try.func52, Try.ntmps52
  go_wp2_with (go_at_call 75; refine (checks_side _ _ _ _ _ _ h).mono ?_; rintro e w' ⟨rfl, rfl⟩)
  go_ret2
  exact ⟨rfl, (Below.refl _ _).alloc (Nat.le_refl _) _⟩
theorem Apply_sym (a b s : Int) (A : Option Addr) (n c : Nat) (w : World) (h : okSide a b) (hs : ¬ okSym a b s) :
    Calls Try.prog 52 #[.int .i64 a, .int .i64 b, .int .i64 s, .slice A n c] w fun e w' => e = .returned (.tuple #[.slice none 0 0, .int .i64 8]) ∧ Ext w w' := by
  go_enter Try.func52, Try.ntmps52
  go_wp2_with (go_at_call 75; refine (check1_no _ _ _ _ h hs).mono ?_; rintro e w' ⟨rfl, rfl⟩)
  go_ret2
  exact ⟨rfl, (Below.refl _ _).alloc (Nat.le_refl _) _⟩
theorem Apply_form (a b s : Int) (A : Option Addr) (n c : Nat) (w : World) (h : okSide a b) (hs : okSym a b s) (hab : (n : Int) ≠ a * b) :
    Calls Try.prog 52 #[.int .i64 a, .int .i64 b, .int .i64 s, .slice A n c] w fun e w' => e = .returned (.tuple #[.slice none 0 0, .int .i64 3]) ∧ Ext w w' := by
  obtain ⟨hm0, hm1⟩ := area_bd a b h
  have hab' : ¬ (n : Int) = a * b := hab
  go_enter Try.func52, Try.ntmps52
  go_wp2_with (go_at_call 75; refine (check1_yes _ _ _ _ h hs).mono ?_; rintro e w' ⟨rfl, rfl⟩)
  go_ret2
  exact ⟨rfl, (Below.refl _ _).alloc (Nat.le_refl _) _⟩
theorem Apply_yes (a b s : Int) (A : Option Addr) (n c : Nat) (zs : List Int) (w : World) (h : okSide a b) (hs : okSym a b s) (hn : zs.length = n) (hab : (n : Int) = a * b) (hz : IntsAt w A zs) :
    Calls Try.prog 52 #[.int .i64 a, .int .i64 b, .int .i64 s, .slice A n c] w fun e w' => ∃ g xs, e = .returned (.tuple #[.slice (some ⟨g, 0, none⟩) n n, .int .i64 0]) ∧ Row w' g 3 xs ∧ Moved a b s zs xs n ∧ w.heap.size ≤ g ∧ Ext w w' := by
  obtain ⟨hm0, hm1⟩ := area_bd a b h
  have hap := fun W (hW : Ext w W) => apply_any a b s A n c zs W h hs hn hab (hz.ext hW)
  have HAP := hide hap
  have hab1 : (n : Int) ≤ a * b := by omega
  have hab2 : a * b ≤ n := by omega
  clear hap hn hab hz
  go_enter Try.func52, Try.ntmps52
  go_wp2_with (first | (go_at_call 75; refine (check1_yes _ _ _ _ h hs).mono ?_; rintro e w' ⟨rfl, rfl⟩) | (go_at_call 76; refine (HAP.out _ ((Below.refl _ _).alloc (Nat.le_refl _) _)).mono ?_; rintro e w1 ⟨g, xs, rfl, hrow, hmv, hg, hext⟩))
  go_ret2
  refine ⟨g, xs, rfl, hrow, hmv, ?_, ext_trans ((Below.refl _ _).alloc (Nat.le_refl _) _) hext⟩
  simp at hg; omega
end Go.Proofs.Ytmofipijjokjfaa
namespace Go.Proofs.Ytmofipijjokjfaa
open Go.ChangeShapes Go.WideShapes Go.ChangeAt Go.RowKit
set_option linter.unusedVariables false
theorem moved_cells {xs : List Int} (h : Moved 2 1 1 [5, 6] xs 2) : xs = [6, 5] := by
  obtain ⟨h1, h2⟩ := h
  have e0 := h2 0 (by omega)
  have e1 := h2 1 (by omega)
  have t0 : (toL 2 1 1 (0 : Nat)).toNat = 1 := by decide
  have t1 : (toL 2 1 1 (1 : Nat)).toNat = 0 := by decide
  rw [t0] at e0
  rw [t1] at e1
  match xs, h1 with
  | [x, y], _ => simp at e0 e1; rw [e0, e1]
theorem moved_any (w : World) : Calls Try.prog 48 #[] w fun e w' => e = .returned (.bool true) ∧ Ext w w' := by
  have em : toL 3 3 5 0 = 2 := by decide
  have HM : ∀ W, Calls Try.prog 72 #[.int .i64 3, .int .i64 3, .int .i64 5, .int .i64 0] W (ErrInt W 2 0) := fun W => em ▸ Map_yes 3 3 5 0 W (by unfold okSide; omega) (by unfold okSym cnt; omega) (by omega)
  have HM' := hide HM
  clear HM em
  go_enter Try.func48, Try.ntmps48
  go_wp2_with fail
  refine (HM'.out _).mono ?_
  rintro e w1 ⟨rfl, x1⟩
  go_wp2_with fail
  refine (Apply_yes 2 1 1 _ 2 2 [5, 6] _ (by unfold okSide; omega) (by unfold okSym cnt; omega) rfl rfl (by simpa using intsAt_new w1 3 [5, 6])).mono ?_
  rintro e w2 ⟨g, xs, rfl, hrow, hmv, hg, x2⟩
  obtain rfl := moved_cells hmv
  go_wp2_with fail
  refine (EqInts_any _ _ 2 2 2 2 [6, 5] [6, 5] _ rfl rfl (by omega) (by omega) (hrow.alloc _).ints (by simpa using intsAt_new w2 3 [6, 5])).mono ?_
  rintro e w3 ⟨rfl, q, rfl⟩
  go_wp2
  go_ret
  exact ⟨rfl, ext_drewN (ext_alloc (ext_trans (ext_alloc x1 _) x2) _) _⟩
end Go.Proofs.Ytmofipijjokjfaa
