/- Walk: the law WalkDraws. -/
import Derived.Test.YteadldpoibpikaaGWalkC
import Derived.Test.YteadldpoibpikaaGSmall
namespace Go.Proofs.Yteadldpoibpikaa
open Go.ChangeShapes Go.WideShapes Go.ChangeAt Go.RowKit Go.Shelf
set_option linter.unusedVariables false
set_option linter.unusedSimpArgs false
theorem run_min4 (W : World) (ats : Array TypeId) (ty : TypeId) (a b : Int) : (Builtin.min_ ats ty #[.int .i64 a, .int .i64 b]).run Try.prog W = .ok (.int .i64 (min a b)) W := by
  have e : min a b = if b < a then b else a := by split <;> omega
  rw [e]
  simp [Builtin.min_, Builtin.min2]
theorem below_no (BS : Nat) (n : Int) (w : World) (h : n < 1 ∨ 100000000 < n) : Calls Try.prog 37 #[.pointer (some ⟨BS, 0, none⟩), .int .i64 n] w fun e w' => e = .returned (.tuple #[.int .i64 0, .int .i64 1]) ∧ w = w' := by
  by_cases h0 : n < 1
  · have t0 : decide (n < 1) = true := decide_eq_true h0
    go_enter Try.func37, Try.ntmps37
    go_wp2
    go_ret2
    exact ⟨rfl, rfl⟩
  · have t0 : decide (n < 1) = false := decide_eq_false h0
    have t1 : decide (100000000 < n) = true := decide_eq_true (by omega)
    go_enter Try.func37, Try.ntmps37
    go_wp2
    go_ret2
    exact ⟨rfl, rfl⟩
set_option maxHeartbeats 8000000 in
set_option maxRecDepth 100000 in
theorem walkDraws_low (s : Int) (A : Option Addr) (n c : Nat) (z : List Int) (w : World) (he : srcE s ≠ 0) (hl : s < 0) :
    Calls Try.prog 10 #[.int .i64 s, .slice A n c] w fun e w' => e = .returned (.bool true) ∧ Ext w w' := by
  have HNS := hide (fun W => NewSource_no s W he)
  have t0 : decide (s < 0) = true := decide_eq_true hl
  clear he
  go_enter Try.func10, Try.ntmps10
  go_wp2_with fail
  refine (walked_any _).mono ?_
  rintro e w2 ⟨rfl, x2⟩
  go_wp2_with fail
  refine (HNS.out _).mono ?_
  rintro e w3 ⟨rfl, x3⟩
  go_wp2
  go_ret
  exact ⟨by first | rfl | simp, ext_trans x2 x3⟩
set_option maxHeartbeats 8000000 in
set_option maxRecDepth 100000 in
theorem walkDraws_high (s : Int) (A : Option Addr) (n c : Nat) (z : List Int) (w : World) (he : srcE s ≠ 0) (hl : ¬ s < 0) (hl2 : 100000000 < s) :
    Calls Try.prog 10 #[.int .i64 s, .slice A n c] w fun e w' => e = .returned (.bool true) ∧ Ext w w' := by
  have HNS := hide (fun W => NewSource_no s W he)
  have t0 : decide (s < 0) = false := decide_eq_false hl
  have t1 : decide (100000000 < s) = true := decide_eq_true hl2
  clear he
  go_enter Try.func10, Try.ntmps10
  go_wp2_with fail
  refine (walked_any _).mono ?_
  rintro e w2 ⟨rfl, x2⟩
  go_wp2_with fail
  refine (HNS.out _).mono ?_
  rintro e w3 ⟨rfl, x3⟩
  go_wp2
  go_ret
  exact ⟨by first | rfl | simp, ext_trans x2 x3⟩
set_option maxHeartbeats 8000000 in
set_option maxRecDepth 100000 in
theorem walkDraws_nil (s : Int) (A : Option Addr) (n c : Nat) (z : List Int) (w : World) (he : srcE s = 0) (hA : A = none) (hn : n = 0) (hc : c = 0) :
    Calls Try.prog 10 #[.int .i64 s, .slice A n c] w fun e w' => e = .returned (.bool true) ∧ Ext w w' := by
  have HNS := hide (fun W => NewSource_yes s W he)
  obtain ⟨s0, s1⟩ := srcE_zero he
  obtain ⟨q, hq⟩ : ∃ q : Int, min (n : Int) 20 = q := ⟨_, rfl⟩
  have hmin : ∀ W ats ty, (Builtin.min_ ats ty #[.int .i64 (n : Int), .int .i64 20]).run Try.prog W = .ok (.int .i64 q) W := fun W ats ty => by rw [← hq]; exact run_min4 W ats ty n 20
  subst hA hn hc
  obtain rfl : q = 0 := by omega
  clear hq he
  go_enter Try.func10, Try.ntmps10
  go_wp2_with fail
  refine (walked_any _).mono ?_
  rintro e w2 ⟨rfl, x2⟩
  go_wp2_with fail
  refine (HNS.out _).mono ?_
  rintro e w3 ⟨BS, rfl, -, -, x3⟩
  have X3 := hide (ext_trans x2 x3)
  clear x2 x3
  go_wp2
  go_loopw [41] (fun i wr => i = .int .i64 0 ∧ Ext w3 wr) (fun _ _ => 0)
  case atStart => exact ⟨rfl, Below.refl _ _⟩
  case round =>
    obtain ⟨rfl, xr⟩ := hrel
    have XR := hide xr
    clear xr
    go_wp2
    go_ret
    exact ⟨rfl, ext_trans X3.out XR.out⟩
set_option maxHeartbeats 8000000 in
set_option maxRecDepth 100000 in
theorem walkDraws_zero (s : Int) (A : Option Addr) (n c : Nat) (z : List Int) (w : World) (he : srcE s = 0) (x : Addr) (hA : A = some x) (hn : n = 0) (hc : c = 0) :
    Calls Try.prog 10 #[.int .i64 s, .slice A n c] w fun e w' => e = .returned (.bool true) ∧ Ext w w' := by
  have HNS := hide (fun W => NewSource_yes s W he)
  obtain ⟨s0, s1⟩ := srcE_zero he
  obtain ⟨q, hq⟩ : ∃ q : Int, min (n : Int) 20 = q := ⟨_, rfl⟩
  have hmin : ∀ W ats ty, (Builtin.min_ ats ty #[.int .i64 (n : Int), .int .i64 20]).run Try.prog W = .ok (.int .i64 q) W := fun W ats ty => by rw [← hq]; exact run_min4 W ats ty n 20
  subst hA hn hc
  obtain rfl : q = 0 := by omega
  clear hq he
  go_enter Try.func10, Try.ntmps10
  go_wp2_with fail
  refine (walked_any _).mono ?_
  rintro e w2 ⟨rfl, x2⟩
  go_wp2_with fail
  refine (HNS.out _).mono ?_
  rintro e w3 ⟨BS, rfl, -, -, x3⟩
  have X3 := hide (ext_trans x2 x3)
  clear x2 x3
  go_wp2
  go_loopw [41] (fun i wr => i = .int .i64 0 ∧ Ext w3 wr) (fun _ _ => 0)
  case atStart => exact ⟨rfl, Below.refl _ _⟩
  case round =>
    obtain ⟨rfl, xr⟩ := hrel
    have XR := hide xr
    clear xr
    go_wp2
    go_ret
    exact ⟨rfl, ext_trans X3.out XR.out⟩
set_option maxHeartbeats 8000000 in
set_option maxRecDepth 100000 in
theorem walkDraws_go (s : Int) (A : Option Addr) (n c : Nat) (z : List Int) (w : World) (he : srcE s = 0) (b : Nat) (o : Nat) (hA : A = some ⟨b, o, none⟩) (hn : n ≤ c) (hz : IntsAt w A (z.take n)) (hzl : (z.take n).length = n) (hcm : c ≤ maxLen) :
    Calls Try.prog 10 #[.int .i64 s, .slice A n c] w fun e w' => e = .returned (.bool true) ∧ Ext w w' := by
  have HNS := hide (fun W => NewSource_yes s W he)
  obtain ⟨s0, s1⟩ := srcE_zero he
  obtain ⟨q, hq⟩ : ∃ q : Int, min (n : Int) 20 = q := ⟨_, rfl⟩
  have hmin : ∀ W ats ty, (Builtin.min_ ats ty #[.int .i64 (n : Int), .int .i64 20]).run Try.prog W = .ok (.int .i64 q) W := fun W ats ty => by rw [← hq]; exact run_min4 W ats ty n 20
  subst hA
  have HZ := hide hz
  have HZL := hide hzl
  have q0 : 0 ≤ q := by omega
  have qc : q ≤ (c : Int) := by omega
  have q30 : q ≤ 20 := by omega
  obtain ⟨qn, hqn⟩ := Int.eq_ofNat_of_zero_le q0
  have hqn' : q = (qn : Int) := hqn
  subst hqn'
  have hq1 : qn ≤ n := by omega
  have hq2 : qn ≤ 20 := by omega
  have hq3 : qn ≤ c := by omega
  have hqw : IntKind.i64.wrap (qn : Int) = (qn : Int) := by rw [IntKind.wrap_i64]; omega
  have HQ := hide (And.intro hq1 hq2)
  clear hq hqn hz hzl hn hcm he
  generalize z.take n = zs at *
  go_enter Try.func10, Try.ntmps10
  go_wp2_with fail
  refine (walked_any _).mono ?_
  rintro e w2 ⟨rfl, x2⟩
  have X2 := hide x2
  clear x2
  go_wp2_with fail
  refine (HNS.out _).mono ?_
  rintro e w3 ⟨BS, rfl, hbs, hs3, x3⟩
  have HB := hide hbs
  have HS3 := hide hs3
  have X3 := hide x3
  clear hbs hs3 x3 HNS
  go_wp2
  clear q0 qc q30 hqw hmin
  go_loopw [7, 41] (fun kv i wr => ∃ k j : Nat, k ≤ qn ∧ i = .int .i64 k ∧ kv = .int .i64 j ∧ Hid (j ≤ k) ∧ SourceAt wr BS s j ∧ Ext w2 wr) (fun _ i _ => qn - (intOf i).toNat)
  case atStart => exact ⟨0, 0, Nat.zero_le _, rfl, rfl, hide (Nat.le_refl _), HS3.out, X3.out⟩
  case round =>
    obtain ⟨k, j, hk, rfl, rfl, hjk, hso, hx⟩ := hrel
    have HSO := hide hso
    have XR := hide hx
    clear hso hx
    have hq2 := HQ.out.2
    by_cases hlt : k < qn
    · obtain ⟨_, _, e', hcell⟩ := (HZ.out.ext (ext_trans X2.out XR.out)) k (by have := HZL.out; have := HQ.out.1; omega)
      simp only [Option.some.injEq, Addr.mk.injEq, and_true] at e'
      obtain ⟨rfl, rfl⟩ := e'
      generalize zs.getD k 0 = y at *
      have i0 : (0 : Int) ≤ (k : Int) := by omega
      have i1 : (k : Int) < (qn : Int) := by omega
      by_cases hy : y < 1 ∨ 100000000 < y
      · have HBN := hide (fun W => below_no BS y W hy)
        by_cases hy1 : y < 1
        · have t0 : decide (y < 1) = true := decide_eq_true hy1
          clear hy hy1
          go_wp2_with fail
          refine (HBN.out _).mono ?_
          rintro e w5 ⟨rfl, rfl⟩
          clear hcell
          go_wp2
          go_roundw
          case rel => exact ⟨k + 1, j, by omega, by go_num, rfl, hide (by have := hjk.out; omega), HSO.out, XR.out⟩
          case measure => simp [intOf]; omega
        · have t0 : decide (y < 1) = false := decide_eq_false hy1
          have t1 : decide (100000000 < y) = true := decide_eq_true (by omega)
          clear hy hy1
          go_wp2_with fail
          refine (HBN.out _).mono ?_
          rintro e w5 ⟨rfl, rfl⟩
          clear hcell
          go_wp2
          go_roundw
          case rel => exact ⟨k + 1, j, by omega, by go_num, rfl, hide (by have := hjk.out; omega), HSO.out, XR.out⟩
          case measure => simp [intOf]; omega
      · have hj := hjk.out
        have HBE := hide (below_any (n := y) HSO.out s0 s1 (by omega) (by omega) (by omega))
        have t0 : decide (y < 1) = false := decide_eq_false (by omega)
        have t1 : decide (100000000 < y) = false := decide_eq_false (by omega)
        have HMX := hide (fun W => mix_ext (4096 * s + ((j : Int) + 1)) W (by omega) (by omega))
        obtain ⟨m0, m1⟩ := mixM_bd (4096 * s + ((j : Int) + 1))
        rw [show belowM s (j + 1) y = mixM (4096 * s + ((j : Int) + 1)) / 2 % y from rfl] at HBE
        generalize mixM (4096 * s + ((j : Int) + 1)) = zz at *
        have y0 : 0 < y := by omega
        have yb : y ≤ 100000000 := by omega
        have r0 : 0 ≤ zz / 2 % y := Int.emod_nonneg _ (by omega)
        have r1 : zz / 2 % y < y := Int.emod_lt_of_pos _ y0
        have hw1 : IntKind.u64.wrap y = y := by rw [IntKind.wrap_u64]; omega
        have hw2 : IntKind.i64.wrap (zz / 2 % y) = zz / 2 % y := by rw [IntKind.wrap_i64]; omega
        have hw3 : IntKind.u64.wrap (zz / 2 % y) = zz / 2 % y := by rw [IntKind.wrap_u64]; omega
        have hw4 : IntKind.u64.wrap (zz / 2) = zz / 2 := by rw [IntKind.wrap_u64]; omega
        have hq1' : zz.tdiv 2 = zz / 2 := Int.tdiv_eq_ediv_of_nonneg m0
        have hq2' : (zz / 2).tmod y = zz / 2 % y := Int.tmod_eq_emod_of_nonneg (by omega)
        have hn0 : (y = 0) = False := by simp; omega
        clear hy
        go_wp2_with fail
        refine HBE.out.mono ?_
        rintro e w5 ⟨rfl, hs5, g5⟩
        have HS5 := hide hs5
        have X5 := hide (g5.to_ext XR.out HB.out)
        clear hcell hs5 g5 HBE
        go_wp2_with fail
        refine (HMX.out _).mono ?_
        rintro e w6 ⟨rfl, x6⟩
        have X6 := hide (ext_trans X5.out x6)
        have HS6 : Hid (SourceAt w6 BS s (j + 1 : Nat)) := hide (Blk.ext HS5.out x6)
        clear x6 HMX X5 HS5 XR HSO
        generalize zz / 2 % y = rr at *
        go_wp2
        go_roundw
        case rel => exact ⟨k + 1, j + 1, by omega, by go_num, by go_num, hide (by have := hjk.out; omega), HS6.out, X6.out⟩
        case measure => simp [intOf]; omega
    · obtain rfl : k = qn := by omega
      go_wp2
      go_ret
      exact ⟨rfl, ext_trans X2.out XR.out⟩
theorem walkDraws_law (s : Int) (A : Option Addr) (n c : Nat) (z : List Int) (w : World) (hr : IsRow w A n c z) :
    Calls Try.prog 10 #[.int .i64 s, .slice A n c] w fun e w' => e = .returned (.bool true) ∧ Ext w w' := by
  by_cases he : srcE s = 0
  · obtain ⟨h1, h2, h3, h4⟩ := hr.ints
    rcases hr with ⟨rfl, rfl, rfl, rfl⟩ | ⟨x, rfl, a1, a2, a3, a4, a5⟩
    · exact walkDraws_nil s _ _ _ [] w he rfl rfl rfl
    · by_cases h0 : c = 0
      · exact walkDraws_zero s _ n c z w he x rfl (by omega) h0
      · have hx := spot_none (a4 0 (by omega))
        rw [show x.add 0 = x from rfl] at hx
        exact walkDraws_go s _ n c z w he _ _ (by rw [← hx]) a1 h1 h2 a2
  · by_cases hl : s < 0
    · exact walkDraws_low s A n c z w he hl
    · exact walkDraws_high s A n c z w he hl (by
        unfold srcE at he
        by_cases h : 100000000 < s
        · exact h
        · exact absurd (if_neg (by omega)) he)

end Go.Proofs.Yteadldpoibpikaa
