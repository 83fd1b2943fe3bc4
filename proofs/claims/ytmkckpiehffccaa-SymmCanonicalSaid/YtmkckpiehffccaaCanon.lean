/- Walk: symm.Canon. -/
import Derived.Test.YtmkckpiehffccaaSymmW5
import Derived.Test.YtmkckpiehffccaaCloneInts
import Derived.Test.YtmkckpiehffccaaCmpInts
namespace Go.Proofs.Ytmkckpiehffccaa
open Go.ChangeShapes Go.WideShapes Go.ChangeAt Go.RowKit
set_option linter.unusedVariables false
theorem Canon_side (a b : Int) (A : Option Addr) (n c : Nat) (w : World) (h : ¬ okSide a b) :
    Calls Try.prog 13 #[.int .i64 a, .int .i64 b, .slice A n c] w fun e w' => e = .returned (.tuple #[.slice none 0 0, .int .i64 0, .int .i64 4]) ∧ Ext w w' := by
  go_enter Try.func13, Try.ntmps13
  go_wp2_with (go_at_call 20; refine (Check_no _ _ _ h).mono ?_; rintro e w' ⟨rfl, rfl⟩)
  go_ret3
  exact ⟨rfl, Below.refl _ _⟩
theorem Canon_form (a b : Int) (A : Option Addr) (n c : Nat) (w : World) (h : okSide a b) (hab : (n : Int) ≠ a * b) :
    Calls Try.prog 13 #[.int .i64 a, .int .i64 b, .slice A n c] w fun e w' => e = .returned (.tuple #[.slice none 0 0, .int .i64 0, .int .i64 3]) ∧ Ext w w' := by
  obtain ⟨hm0, hm1⟩ := area_bd a b h
  have hab' : ¬ (n : Int) = a * b := hab
  go_enter Try.func13, Try.ntmps13
  go_wp2_with (go_at_call 20; refine (Check_yes _ _ _ h).mono ?_; rintro e w' ⟨rfl, rfl⟩)
  go_ret3
  exact ⟨rfl, Below.refl _ _⟩
def CanonPost (a b : Int) (n : Nat) (zs : List Int) (w : World) (e : Ending) (w' : World) : Prop :=
  ∃ A c xs at_, e = .returned (.tuple #[.slice A n c, .int .i64 at_, .int .i64 0]) ∧ CanonSpec a b zs xs at_ ∧ xs.length = n ∧ IntsAt w' A xs ∧ (A = none → n = 0) ∧ Ext w w'
set_option maxRecDepth 100000 in
theorem Canon_yes (a b : Int) (A : Option Addr) (n c : Nat) (zs : List Int) (w : World) (h : okSide a b) (hn : zs.length = n) (hab : (n : Int) = a * b) (hz : IntsAt w A zs) (hA : A = none → n = 0) :
    Calls Try.prog 13 #[.int .i64 a, .int .i64 b, .slice A n c] w (CanonPost a b n zs w) := by
  obtain ⟨hm0, hm1⟩ := area_bd a b h
  have hcb := cnt_bd a b
  have hcl := fun W (hW : Ext w W) => cloneInts_any A n c zs W hn (by omega) hA (hz.ext hW)
  have HCL := hide hcl
  have HN := hide hn
  have HAB := hide hab
  have hab1 : (n : Int) ≤ a * b := by omega
  have hab2 : a * b ≤ n := by omega
  have hn64 : n ≤ 64 := by omega
  clear hcl hn hab hA
  go_enter Try.func13, Try.ntmps13
  go_wp2_with fail
  refine (Check_yes _ _ _ h).mono ?_
  rintro e w' ⟨rfl, rfl⟩
  go_wp2_with fail
  refine (HCL.out _ (Below.refl _ _)).mono ?_
  rintro e w1 ⟨A1, c1, rfl, hown1, x1⟩
  rw [HN.out] at hown1 ⊢
  go_wp2_with fail
  refine (count_any _ _ _).mono ?_
  rintro e w' ⟨rfl, rfl⟩
  go_wp2_with fail
  go_loopw [10, 11, 12, 13, 31] (fun best at_ _ _ i wr => ∃ (k c' : Nat) (A' : Option Addr) (xs : List Int) (m : Int), (k : Int) ≤ cnt a b ∧ i = .int .i64 k ∧ best = .slice A' n c' ∧ at_ = .int .i64 m ∧ CanonPart a b zs xs m k ∧ xs.length = n ∧ IntsAt wr A' xs ∧ (A' = none → n = 0) ∧ Ext w wr) (fun _ _ _ _ i _ => (cnt a b).toNat - (intOf i).toNat)
  case atStart =>
    obtain ⟨k1, k2⟩ := own_cells hown1
    exact ⟨0, c1, A1, zs, 0, by omega, rfl, rfl, rfl, canonPart_zero, HN.out, cells_ints k1, k2, x1⟩
  case round =>
    obtain ⟨k, c', A', xs, m, hk, rfl, rfl, rfl, hpart, hxn, hxs, hA', hext⟩ := hrel
    clear hown1 x1
    have HA' := hide hA'
    have HXN := hide hxn
    clear hA' hxn
    by_cases hlt : (k : Int) < cnt a b
    · have hap := apply_any a b k A n c zs wr h ⟨by omega, hlt⟩ HN.out HAB.out (hz.ext hext)
      have HAP := hide hap
      clear hap
      go_wp2_with fail
      refine HAP.out.mono ?_
      rintro e w2 ⟨g, ys, rfl, hrow, hmv, hg, x2⟩
      have hyl : ys.length = n := by rw [hmv.1]; exact HN.out
      have hmv' : Moved a b k zs ys zs.length := by rw [HN.out]; exact hmv
      have hys : ys = movedL a b k zs := hmv'.eq h ⟨by omega, hlt⟩ (by rw [HN.out]; exact HAB.out)
      have hcmp := cmpInts_any (some ⟨g, 0, none⟩) A' n n c' ys xs w2 hyl HXN.out (by omega) hrow.ints (hxs.ext x2)
      have HCMP := hide hcmp
      have HYL := hide hyl
      have HYS := hide hys
      clear hcmp hyl hys hmv hmv'
      go_wp2_with fail
      refine HCMP.out.mono ?_
      rintro e w' ⟨⟨r, hr, rfl⟩, rfl⟩
      have HR := hide hr
      clear hr
      by_cases hr0 : r < 0
      · go_wp2
        go_roundw
        case rel => exact ⟨k + 1, n, some ⟨g, 0, none⟩, ys, k, by omega, by go_num, rfl, rfl, by rw [HYS.out]; exact canonPart_less hlt hpart (by rw [← HYS.out]; exact HR.out.1 hr0), HYL.out, hrow.ints, fun k => by simp at k, ext_trans hext x2⟩
        case measure => simp [intOf]; omega
      · go_wp2
        go_roundw
        case rel => exact ⟨k + 1, c', A', xs, m, by omega, by go_num, rfl, rfl, canonPart_not hpart (by rw [← HYS.out]; exact fun hh => absurd (HR.out.2 hh) (by omega)), HXN.out, hxs.ext x2, HA'.out, ext_trans hext x2⟩
        case measure => simp [intOf]; omega
    · have hkc : (k : Int) = cnt a b := by omega
      have HS := hide (canonPart_all hkc hpart)
      clear hkc
      go_wp2
      go_ret3
      exact ⟨A', c', xs, m, rfl, HS.out, HXN.out, hxs, HA'.out, hext⟩
end Go.Proofs.Ytmkckpiehffccaa
