/- Walks over the package symm: apply, Apply. -/
import Derived.Test.YtmkckpiehffccaaSymmW4
import Derived.Test.YtmkckpiehffccaaSymmQ
namespace Go.Proofs.Ytmkckpiehffccaa
open Go.ChangeShapes Go.WideShapes Go.ChangeAt Go.RowKit
set_option linter.unusedVariables false
theorem intInfo : (Try.prog.info? 3).map (fun i => (i.zero, i.size, i.bytes)) = some (some (.int .i64 0), 1, 8) := by kernel_rfl
theorem make_ints30 (n : Nat) (hn : n ≤ 2 ^ 45) (w : World) : (Instr.makeSlice 30 (.int .i64 (n : Int)) (.int .i64 (n : Int))).run Try.prog w = .ok (.slice (some ⟨w.heap.size, 0, none⟩) n n) (w.alloc (.cells ((List.replicate n (0 : Int)).map (Value.int .i64)).toArray 3)) := by
  obtain ⟨i0, hi, hz0, hz1, hz2⟩ := info_parts intInfo
  exact make_ints 30 3 i0 Try.underlying30 hi hz0 hz1 hz2 n hn w
theorem apply_any (a b s : Int) (A : Option Addr) (n c : Nat) (zs : List Int) (w : World) (h : okSide a b) (hs : okSym a b s) (hn : zs.length = n) (hab : (n : Int) = a * b) (hz : IntsAt w A zs) :
    Calls Try.prog 29 #[.int .i64 a, .int .i64 b, .int .i64 s, .slice A n c] w fun e w' => ∃ g xs, e = .returned (.slice (some ⟨g, 0, none⟩) n n) ∧ Row w' g 3 xs ∧ Moved a b s zs xs n ∧ w.heap.size ≤ g ∧ Ext w w' := by
  have ham := area_bd a b h
  have hn64 : n ≤ 64 := by omega
  have hmk := make_ints30 n (by omega)
  have HAB := hide hab
  have HN := hide hn
  clear hab hn
  go_enter Try.func29, Try.ntmps29
  go_wp2
  go_loopw [10, 11, 17] (fun _ _ i wr => ∃ (k : Nat) (xs : List Int), k ≤ n ∧ i = .int .i64 k ∧ Row wr w.heap.size 3 xs ∧ Moved a b s zs xs k ∧ Ext w wr) (fun _ _ i _ => n - (intOf i).toNat)
  case atStart =>
    refine ⟨0, List.replicate n 0, Nat.zero_le _, rfl, by simpa using Row.new w 3 (List.replicate n 0), ⟨by simp [HN.out], fun i hi => by omega⟩, (Below.refl _ _).alloc (Nat.le_refl _) _⟩
  case round =>
    obtain ⟨k, xs, hk, rfl, hrow, hmv, hext⟩ := hrel
    by_cases hlt : k < n
    · have hk' : k < zs.length := by rw [HN.out]; exact hlt
      obtain ⟨bA, oA, rfl, hc⟩ := hz.ext hext k hk'
      have hsq : (k : Int) < a * b := by rw [← HAB.out]; omega
      have hbd := toL_bd (q := (k : Int)) h hs (by omega) hsq
      obtain ⟨j, hj⟩ := Int.eq_ofNat_of_zero_le hbd.1
      have hjn : j < n := by rw [hj, ← HAB.out] at hbd; omega
      have hjx : j < xs.length := by rw [hmv.1, HN.out]; exact hjn
      have hcell := hrow.cell hjx
      have hfr := hrow.frozen j
      have hmv' := hmv.step h hs (by rw [HN.out]; exact HAB.out) hk' hj
      have hto := fun W => to_any a b s k W h hs.1 hs.2 (by omega) hsq
      rw [hj] at hto
      have HTO := hide hto
      have HMV := hide hmv'
      clear hto hmv' hmv hbd hsq hz hj
      generalize zs.getD k 0 = z at *
      go_wp2_with (go_at_call 27; refine (HTO.out _).mono ?_; rintro e w' ⟨rfl, q, rfl⟩)
      go_roundw
      case rel => exact ⟨k + 1, _, by omega, by go_num, (hrow.drewN q).set_ j z, HMV.out, (below_drewN hext q).setCell (by simp) _⟩
      case measure => simp [intOf]; omega
    · obtain rfl : k = n := by omega
      clear hz
      go_wp2
      go_ret
      exact ⟨_, xs, rfl, hrow, hmv, Nat.le_refl _, hext⟩
theorem Apply_side (a b s : Int) (A : Option Addr) (n c : Nat) (w : World) (h : ¬ okSide a b) :
    Calls Try.prog 15 #[.int .i64 a, .int .i64 b, .int .i64 s, .slice A n c] w fun e w' => e = .returned (.tuple #[.slice none 0 0, .int .i64 4]) ∧ Ext w w' := by
  go_enter Try.func15, Try.ntmps15
  go_wp2_with (go_at_call 25; refine (checks_side _ _ _ _ _ _ h).mono ?_; rintro e w' ⟨rfl, rfl⟩)
  go_ret2
  exact ⟨rfl, (Below.refl _ _).alloc (Nat.le_refl _) _⟩
theorem Apply_sym (a b s : Int) (A : Option Addr) (n c : Nat) (w : World) (h : okSide a b) (hs : ¬ okSym a b s) :
    Calls Try.prog 15 #[.int .i64 a, .int .i64 b, .int .i64 s, .slice A n c] w fun e w' => e = .returned (.tuple #[.slice none 0 0, .int .i64 8]) ∧ Ext w w' := by
  go_enter Try.func15, Try.ntmps15
  go_wp2_with (go_at_call 25; refine (check1_no _ _ _ _ h hs).mono ?_; rintro e w' ⟨rfl, rfl⟩)
  go_ret2
  exact ⟨rfl, (Below.refl _ _).alloc (Nat.le_refl _) _⟩
theorem Apply_form (a b s : Int) (A : Option Addr) (n c : Nat) (w : World) (h : okSide a b) (hs : okSym a b s) (hab : (n : Int) ≠ a * b) :
    Calls Try.prog 15 #[.int .i64 a, .int .i64 b, .int .i64 s, .slice A n c] w fun e w' => e = .returned (.tuple #[.slice none 0 0, .int .i64 3]) ∧ Ext w w' := by
  obtain ⟨hm0, hm1⟩ := area_bd a b h
  have hab' : ¬ (n : Int) = a * b := hab
  go_enter Try.func15, Try.ntmps15
  go_wp2_with (go_at_call 25; refine (check1_yes _ _ _ _ h hs).mono ?_; rintro e w' ⟨rfl, rfl⟩)
  go_ret2
  exact ⟨rfl, (Below.refl _ _).alloc (Nat.le_refl _) _⟩
theorem Apply_yes (a b s : Int) (A : Option Addr) (n c : Nat) (zs : List Int) (w : World) (h : okSide a b) (hs : okSym a b s) (hn : zs.length = n) (hab : (n : Int) = a * b) (hz : IntsAt w A zs) :
    Calls Try.prog 15 #[.int .i64 a, .int .i64 b, .int .i64 s, .slice A n c] w fun e w' => ∃ g xs, e = .returned (.tuple #[.slice (some ⟨g, 0, none⟩) n n, .int .i64 0]) ∧ Row w' g 3 xs ∧ Moved a b s zs xs n ∧ w.heap.size ≤ g ∧ Ext w w' := by
  obtain ⟨hm0, hm1⟩ := area_bd a b h
  have hap := fun W (hW : Ext w W) => apply_any a b s A n c zs W h hs hn hab (hz.ext hW)
  have HAP := hide hap
  have hab1 : (n : Int) ≤ a * b := by omega
  have hab2 : a * b ≤ n := by omega
  clear hap hn hab hz
  go_enter Try.func15, Try.ntmps15
  go_wp2_with (first | (go_at_call 25; refine (check1_yes _ _ _ _ h hs).mono ?_; rintro e w' ⟨rfl, rfl⟩) | (go_at_call 29; refine (HAP.out _ ((Below.refl _ _).alloc (Nat.le_refl _) _)).mono ?_; rintro e w1 ⟨g, xs, rfl, hrow, hmv, hg, hext⟩))
  go_ret2
  refine ⟨g, xs, rfl, hrow, hmv, ?_, ext_trans ((Below.refl _ _).alloc (Nat.le_refl _) _) hext⟩
  simp at hg; omega
end Go.Proofs.Ytmkckpiehffccaa
