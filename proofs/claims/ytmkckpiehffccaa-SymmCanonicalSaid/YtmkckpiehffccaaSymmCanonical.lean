/- SymmCanonical: cells that a symmetry turns into each other have the same canonical form, which is its own one. Holds for every input; no condition. -/
import Derived.Test.YtmkckpiehffccaaSymmGroup
import Derived.Test.YtmkckpiehffccaaCanon
namespace Go.Proofs.Ytmkckpiehffccaa
open Go.ChangeShapes Go.WideShapes Go.ChangeAt Go.RowKit
set_option linter.unusedVariables false
/-- What the walk is told of a slice of integers that came in. -/
def IsRow (w : World) (a : Option Addr) (len cap : Nat) (zs : List Int) : Prop :=
  (a = none ∧ len = 0 ∧ cap = 0 ∧ zs = []) ∨
  ∃ x, a = some x ∧ len ≤ cap ∧ cap ≤ maxLen ∧ zs.length = cap ∧ (∀ i, i < zs.length → w.cell? (x.add i) = some (.int .i64 (zs.getD i 0))) ∧ ∀ n ∈ zs, (Lit.int .i64 n).wf = true
theorem spot_none {w : World} {x : Addr} {v : Value} (h : w.cell? x = some v) : x = ⟨x.block, x.off, none⟩ := by
  obtain ⟨b, o, s⟩ := x
  cases s with
  | none => rfl
  | some s =>
    exfalso
    unfold World.cell? at h
    simp only at h
    split at h
    · simp at h
    · cases h
theorem IsRow.ints {w : World} {a : Option Addr} {len cap : Nat} {zs : List Int} (h : IsRow w a len cap zs) : IntsAt w a (zs.take len) ∧ (zs.take len).length = len ∧ (a = none → len = 0) ∧ len ≤ maxLen := by
  rcases h with ⟨rfl, rfl, rfl, rfl⟩ | ⟨x, rfl, h1, h2, h3, h4, h5⟩
  · exact ⟨by simpa using intsAt_nil w _, rfl, fun _ => rfl, by simp [maxLen]⟩
  · refine ⟨fun i hi => ?_, by simp; omega, fun k => by simp at k, by omega⟩
    have hi2 : i < len := by simp at hi; omega
    have hx := spot_none (h4 0 (by omega))
    have hadd : x.add 0 = x := rfl
    rw [hadd] at hx
    refine ⟨x.block, x.off, by rw [← hx], ?_⟩
    have := h4 i (by omega)
    rw [hx, add_lit] at this
    rw [this]
    simp [hi2]
theorem Canon_try (w : World) : Calls Try.prog 13 #[.int .i64 2, .int .i64 1, .slice (some ⟨w.heap.size, 0, none⟩) 2 2] (w.alloc (.cells #[.int .i64 6, .int .i64 5] 3)) fun e w' =>
    ∃ A c, e = .returned (.tuple #[.slice A 2 c, .int .i64 1, .int .i64 0]) ∧ IntsAt w' A [5, 6] ∧ Ext (w.alloc (.cells #[.int .i64 6, .int .i64 5] 3)) w' :=
  (Canon_yes 2 1 _ 2 2 [6, 5] _ (by unfold okSide; omega) rfl rfl (by simpa using intsAt_new w 3 [6, 5]) (by simp)).mono fun e w' ⟨A, c, xs, at_, he, hs, _, hi, _, hx⟩ => by
    obtain ⟨rfl, rfl⟩ := canon_try hs
    exact ⟨A, c, he, hi, hx⟩
theorem Canon_no (a b : Int) (A : Option Addr) (n c : Nat) (w : World) (h : ¬ (okSide a b ∧ (n : Int) = a * b)) :
    Calls Try.prog 13 #[.int .i64 a, .int .i64 b, .slice A n c] w fun e w' => ∃ c : Int, 1 ≤ c ∧ e = .returned (.tuple #[.slice none 0 0, .int .i64 0, .int .i64 c]) ∧ Ext w w' := by
  by_cases h1 : okSide a b
  · exact (Canon_form a b A n c w h1 (fun h2 => h ⟨h1, h2⟩)).mono fun _ _ h => ⟨3, by omega, h⟩
  · exact (Canon_side a b A n c w h1).mono fun _ _ h => ⟨4, by omega, h⟩
theorem Apply_some (a b s : Int) (A : Option Addr) (n c : Nat) (zs : List Int) (w : World) (hn : zs.length = n) (hz : IntsAt w A zs) :
    Calls Try.prog 15 #[.int .i64 a, .int .i64 b, .int .i64 s, .slice A n c] w fun e w' => ∃ A' n' c' k, e = .returned (.tuple #[.slice A' n' c', .int .i64 k]) ∧ Ext w w' := by
  by_cases h : okSide a b
  · by_cases hs : okSym a b s
    · by_cases hab : (n : Int) = a * b
      · exact (Apply_yes a b s A n c zs w h hs hn hab hz).mono fun _ _ ⟨g, xs, he, _, _, _, hx⟩ => ⟨_, _, _, _, he, hx⟩
      · exact (Apply_form a b s A n c w h hs hab).mono fun _ _ ⟨he, hx⟩ => ⟨_, _, _, _, he, hx⟩
    · exact (Apply_sym a b s A n c w h hs).mono fun _ _ ⟨he, hx⟩ => ⟨_, _, _, _, he, hx⟩
  · exact (Apply_side a b s A n c w h).mono fun _ _ ⟨he, hx⟩ => ⟨_, _, _, _, he, hx⟩
set_option maxRecDepth 100000 in
theorem canonical_no (a b s : Int) (A : Option Addr) (n c : Nat) (zs : List Int) (w : World) (hn : zs.length = n) (hm : n ≤ 9223372036854775807) (hz : IntsAt w A zs) (h : ¬ (okSide a b ∧ (n : Int) = a * b)) :
    Calls Try.prog 5 #[.int .i64 a, .int .i64 b, .int .i64 s, .slice A n c] w fun e w' => e = .returned (.bool true) ∧ Ext w w' := by
  have HAP := hide (fun W (hW : Ext w W) => Apply_some a b s A n c zs W hn (hz.ext hW))
  go_enter Try.func5, Try.ntmps5
  go_wp2_with fail
  refine (Canon_try _).mono ?_
  rintro e w1 ⟨A1, c1, rfl, i1, x1⟩
  go_wp2_with fail
  refine (EqInts_any _ _ 2 2 _ _ [5, 6] [5, 6] _ rfl rfl (by omega) (by omega) (i1.ext (ext_alloc (Below.refl _ _) _)) (by simpa using intsAt_new w1 3 [5, 6])).mono ?_
  rintro e w2 ⟨rfl, q, rfl⟩
  go_wp2_with fail
  refine (moved_any _).mono ?_
  rintro e w3 ⟨rfl, x3⟩
  have X3 : Ext w w3 := ext_trans (ext_drewN (ext_alloc (ext_trans (ext_alloc (Below.refl _ _) _) x1) _) _) x3
  go_wp2_with fail
  refine (Canon_no a b A n c _ h).mono ?_
  rintro e w4 ⟨k4, hk4, rfl, x4⟩
  go_wp2_with fail
  refine (HAP.out _ (ext_trans X3 x4)).mono ?_
  rintro e w5 ⟨A5, n5, c5, k5, rfl, x5⟩
  go_wp2_with fail
  have hfz : allZero [k4, k5] = false := by simp [allZero]; omega
  refine (fine_any _ 2 2 [k4, k5] _ rfl (by omega) (by simpa using intsAt_new w5 22 [k4, k5])).mono ?_
  rintro e w6 ⟨rfl, rfl⟩
  rw [hfz]
  have hk4' : (k4 == 0) = false := by simp; omega
  clear hfz
  go_wp2
  go_ret
  exact ⟨rfl, ext_alloc (ext_trans (ext_trans X3 x4) x5) _⟩
set_option maxRecDepth 100000 in
theorem canonical_sym (a b s : Int) (A : Option Addr) (n c : Nat) (zs : List Int) (w : World) (hn : zs.length = n) (hA : A = none → n = 0) (hz : IntsAt w A zs) (h : okSide a b) (hab : (n : Int) = a * b) (hs : ¬ okSym a b s) :
    Calls Try.prog 5 #[.int .i64 a, .int .i64 b, .int .i64 s, .slice A n c] w fun e w' => e = .returned (.bool true) ∧ Ext w w' := by
  have HC := hide (fun W (hW : Ext w W) => Canon_yes a b A n c zs W h hn hab (hz.ext hW) hA)
  clear hn hab hA
  go_enter Try.func5, Try.ntmps5
  go_wp2_with fail
  refine (Canon_try _).mono ?_
  rintro e w1 ⟨A1, c1, rfl, i1, x1⟩
  go_wp2_with fail
  refine (EqInts_any _ _ 2 2 _ _ [5, 6] [5, 6] _ rfl rfl (by omega) (by omega) (i1.ext (ext_alloc (Below.refl _ _) _)) (by simpa using intsAt_new w1 3 [5, 6])).mono ?_
  rintro e w2 ⟨rfl, q, rfl⟩
  go_wp2_with fail
  refine (moved_any _).mono ?_
  rintro e w3 ⟨rfl, x3⟩
  have X3 : Ext w w3 := ext_trans (ext_drewN (ext_alloc (ext_trans (ext_alloc (Below.refl _ _) _) x1) _) _) x3
  clear i1
  go_wp2_with fail
  refine (HC.out _ X3).mono ?_
  rintro e w4 ⟨A4, c4, xs, m, rfl, hsp, hxn, hxs, hA4, x4⟩
  clear hA4 hxn
  go_wp2_with fail
  refine (Apply_sym a b s A n c _ h hs).mono ?_
  rintro e w5 ⟨rfl, x5⟩
  go_wp2_with fail
  refine (fine_any _ 2 2 [0, 8] _ rfl (by omega) (by simpa using intsAt_new w5 22 [0, 8])).mono ?_
  rintro e w6 ⟨rfl, rfl⟩
  rw [show allZero [0, 8] = false from rfl]
  go_wp2
  go_ret
  exact ⟨rfl, ext_alloc (ext_trans (ext_trans X3 x4) x5) _⟩
set_option maxRecDepth 100000 in
set_option maxHeartbeats 1000000 in
theorem canonical_yes (a b s : Int) (A : Option Addr) (n c : Nat) (zs : List Int) (w : World) (hn : zs.length = n) (hA : A = none → n = 0) (hz : IntsAt w A zs) (h : okSide a b) (hab : (n : Int) = a * b) (hs : okSym a b s) :
    Calls Try.prog 5 #[.int .i64 a, .int .i64 b, .int .i64 s, .slice A n c] w fun e w' => e = .returned (.bool true) ∧ Ext w w' := by
  have ham := area_bd a b h
  have hn64 : n ≤ 64 := by omega
  have HC := hide (fun W (hW : Ext w W) => Canon_yes a b A n c zs W h hn hab (hz.ext hW) hA)
  have HP := hide (fun W (hW : Ext w W) => Apply_yes a b s A n c zs W h hs hn hab (hz.ext hW))
  have HL : Hid ((zs.length : Int) = a * b) := hide (by rw [hn]; exact hab)
  have HN := hide hn
  have HAB := hide hab
  have HA := hide hA
  clear hn hab hA
  go_enter Try.func5, Try.ntmps5
  go_wp2_with fail
  refine (Canon_try _).mono ?_
  rintro e w1 ⟨A1, c1, rfl, i1, x1⟩
  go_wp2_with fail
  refine (EqInts_any _ _ 2 2 _ _ [5, 6] [5, 6] _ rfl rfl (by omega) (by omega) (i1.ext (ext_alloc (Below.refl _ _) _)) (by simpa using intsAt_new w1 3 [5, 6])).mono ?_
  rintro e w2 ⟨rfl, q, rfl⟩
  go_wp2_with fail
  refine (moved_any _).mono ?_
  rintro e w3 ⟨rfl, x3⟩
  have X3 : Ext w w3 := ext_trans (ext_drewN (ext_alloc (ext_trans (ext_alloc (Below.refl _ _) _) x1) _) _) x3
  clear i1
  go_wp2_with fail
  refine (HC.out _ X3).mono ?_
  rintro e w4 ⟨A4, c4, xs, m, rfl, hsp, hxn, hxs, hA4, x4⟩
  have HSP := hide hsp
  have HXN := hide hxn
  have HA4 := hide hA4
  clear hsp hxn hA4 HC
  go_wp2_with fail
  refine (HP.out _ (ext_trans X3 x4)).mono ?_
  rintro e w5 ⟨g5, ys, rfl, hrow, hmv, hg5, x5⟩
  have HYN : Hid (ys.length = n) := hide (by rw [hmv.1]; exact HN.out)
  have HYS : Hid (ys = movedL a b s zs) := hide (by
    rw [← HN.out] at hmv
    exact hmv.eq h hs HL.out)
  clear hmv hg5 HP
  go_wp2_with fail
  refine (fine_any _ 2 2 [0, 0] _ rfl (by omega) (by simpa using intsAt_new w5 22 [0, 0])).mono ?_
  rintro e w6 ⟨rfl, rfl⟩
  rw [show allZero [0, 0] = true from rfl]
  go_wp2_with fail
  refine (Canon_yes a b _ n n ys _ h HYN.out HAB.out (hrow.alloc _).ints (by simp)).mono ?_
  rintro e w7 ⟨A7, c7, us, m7, rfl, hsp7, hun, hus, hA7, x7⟩
  obtain rfl : xs = us := canon_turned h hs HL.out HSP.out (by rw [← HYS.out]; exact hsp7)
  clear hsp7 hun hA7
  go_wp2_with fail
  refine (Canon_yes a b A4 n c4 xs _ h HXN.out HAB.out (hxs.ext (ext_trans (ext_alloc x5 _) x7)) HA4.out).mono ?_
  rintro e w8 ⟨A8, c8, vs, m8, rfl, hsp8, hvn, hvs, hA8, x8⟩
  obtain ⟨rfl, rfl⟩ := canon_again h HL.out HSP.out hsp8
  clear hsp8 hvn hA8
  have X8 : Ext w5 w8 := ext_trans (ext_trans (ext_alloc (Below.refl _ _) _) x7) x8
  have X08 : Ext w w8 := ext_trans (ext_trans (ext_trans X3 x4) x5) X8
  go_wp2_with fail
  refine (Apply_yes a b m A n c zs _ h HSP.out.1 HN.out HAB.out (hz.ext X08)).mono ?_
  rintro e w9 ⟨g9, ds, rfl, hrow9, hmv9, hg9, x9⟩
  obtain rfl : ds = vs := by
    rw [← HN.out] at hmv9
    rw [hmv9.eq h HSP.out.1 HL.out]
    exact HSP.out.2.1.symm
  clear hmv9 hg9
  go_wp2_with fail
  refine (fine_any _ 3 3 [0, 0, 0] _ rfl (by omega) (by simpa using intsAt_new w9 22 [0, 0, 0])).mono ?_
  rintro e w10 ⟨rfl, rfl⟩
  rw [show allZero [0, 0, 0] = true from rfl]
  have X9 : Ext w4 (w9.alloc (.cells #[.int .i64 0, .int .i64 0, .int .i64 0] 22)) := ext_alloc (ext_trans (ext_trans x5 X8) x9) _
  have X79 : Ext w7 (w9.alloc (.cells #[.int .i64 0, .int .i64 0, .int .i64 0] 22)) := ext_alloc (ext_trans x8 x9) _
  have X89 : Ext w8 (w9.alloc (.cells #[.int .i64 0, .int .i64 0, .int .i64 0] 22)) := ext_alloc x9 _
  go_wp2_with fail
  refine (EqInts_any _ _ n n _ _ ds ds _ HXN.out HXN.out (by omega) (by omega) (hxs.ext X9) (hus.ext X79)).mono ?_
  rintro e w11 ⟨rfl, q11, rfl⟩
  rw [decide_eq_true rfl]
  go_wp2_with fail
  refine (EqInts_any _ _ n n _ _ ds ds _ HXN.out HXN.out (by omega) (by omega) (hxs.ext (ext_drewN X9 _)) (hvs.ext (ext_drewN X89 _))).mono ?_
  rintro e w12 ⟨rfl, q12, rfl⟩
  rw [decide_eq_true rfl]
  go_wp2_with fail
  refine (EqInts_any _ _ n n _ _ ds ds _ HXN.out HXN.out (by omega) (by omega) (hxs.ext (ext_drewN X9 _)) (hrow9.ints.ext (ext_drewN (ext_alloc (Below.refl _ _) _) _))).mono ?_
  rintro e w13 ⟨rfl, q13, rfl⟩
  rw [decide_eq_true rfl]
  go_wp2
  go_ret
  exact ⟨rfl, ext_drewN (ext_alloc (ext_trans X08 x9) _) _⟩
theorem canonical_walk (a b s : Int) (A : Option Addr) (n c : Nat) (z : List Int) (w : World) (_ : (Lit.int .i64 a).wf = true) (_ : (Lit.int .i64 b).wf = true) (_ : (Lit.int .i64 s).wf = true) (hr : IsRow w A n c z) :
    Calls Try.prog 5 #[.int .i64 a, .int .i64 b, .int .i64 s, .slice A n c] w fun e w' => e = .returned (.bool true) ∧ Ext w w' := by
  obtain ⟨h1, h2, h3, h4⟩ := hr.ints
  have hm : n ≤ 9223372036854775807 := by simpa [maxLen] using h4
  by_cases h : okSide a b ∧ (n : Int) = a * b
  · by_cases hs : okSym a b s
    · exact canonical_yes a b s A n c _ w h2 h3 h1 h.1 h.2 hs
    · exact canonical_sym a b s A n c _ w h2 h3 h1 h.1 h.2 hs
  · exact canonical_no a b s A n c _ w h2 hm h1 h
end Go.Proofs.Ytmkckpiehffccaa
