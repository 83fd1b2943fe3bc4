/- Walk: the law SymmOrbits. -/
import Derived.Test.YtmkckpiehffccaaOrbitW
import Derived.Test.YtmkckpiehffccaaEqInts
import Derived.Test.YtmkckpiehffccaaFine
namespace Go.Proofs.Ytmkckpiehffccaa
open Go.ChangeShapes Go.WideShapes Go.ChangeAt Go.RowKit Go.Shelf
set_option linter.unusedVariables false
set_option linter.unusedSimpArgs false
theorem some_idx' {n l : Int} (hl : 1 ≤ l) : -l < n.tmod l ∧ n.tmod l < l ∧ 0 ≤ (n.tmod l + l).tmod l ∧ (n.tmod l + l).tmod l < l := by
  have h1 : -l < n.tmod l ∧ n.tmod l < l := by
    have a := Int.tmod_lt_of_pos n (show 0 < l by omega)
    refine ⟨?_, a⟩
    have b := Int.tmod_lt_of_pos (-n) (show 0 < l by omega)
    rw [Int.neg_tmod] at b
    omega
  refine ⟨h1.1, h1.2, Int.tmod_nonneg _ (by omega), Int.tmod_lt_of_pos _ (by omega)⟩
set_option maxHeartbeats 1000000 in
set_option maxRecDepth 100000 in
theorem some_int (L : List Int) (n : Int) (A : Option Addr) (c : Nat) (w : World) (h : IntsAt w A L) (hl : L.length ≤ 1000000) (h0 : 0 < L.length) :
    Calls Try.prog 18 #[.slice A L.length c, .int .i64 n] w fun e w' => ∃ x, x ∈ L ∧ e = .returned (.int .i64 x) ∧ Ext w w' := by
  obtain ⟨q1, q2, q3, q4⟩ := some_idx' (n := n) (l := (L.length : Int)) (by omega)
  obtain ⟨k, hk⟩ := Int.eq_ofNat_of_zero_le q3
  have hk' : (n.tmod (L.length : Int) + (L.length : Int)).tmod (L.length : Int) = (k : Int) := hk
  have hkl : k < L.length := by omega
  obtain ⟨b, o, rfl, c0⟩ := h k hkl
  have HM := hide (show L.getD k 0 ∈ L by rw [List.getD_eq_getElem?_getD, List.getElem?_eq_getElem hkl]; exact List.getElem_mem hkl)
  have HI : (wrap64 (n.tmod (L.length : Int) + (L.length : Int))).tmod (L.length : Int) = (k : Int) := by
    have hw : wrap64 (n.tmod (L.length : Int) + (L.length : Int)) = n.tmod (L.length : Int) + (L.length : Int) := by unfold wrap64; omega
    rw [hw]
    exact hk'
  have z1 : ((L.length : Int) == 0) = false := beq_eq_false_iff_ne.2 (by omega)
  have j0 : (0 : Int) ≤ (k : Int) := by omega
  have j1 : (k : Int) < (L.length : Int) := by omega
  generalize L.getD k 0 = x at *
  clear h h0 hk hk' q1 q2 q3 q4
  go_enter Try.func18, Try.ntmps18
  go_wp2
  go_ret
  exact ⟨x, HM.out, rfl, Below.refl _ _⟩
theorem cont_int (L : List Int) (x : Int) (A : Option Addr) (c : Nat) (w : World) (h : IntsAt w A L) (hl : L.length ≤ 1000000) (h0 : 0 < L.length) :
    Calls Try.prog 19 #[.slice A L.length c, .int .i64 x] w fun e w' => e = .returned (.bool (L.contains x)) ∧ Ext w w' := by
  obtain ⟨b, o, rfl, -⟩ := h 0 h0
  refine (Try.slices_Contains_int b o L.length c L x w (Nat.le_refl _) (by omega) (fun j hj => ?_)).mono ?_
  · obtain ⟨_, _, e, hc⟩ := h j hj
    simp only [Option.some.injEq, Addr.mk.injEq, and_true] at e
    obtain ⟨rfl, rfl⟩ := e
    exact hc
  · rintro e w' ⟨rfl, rfl⟩
    exact ⟨by rw [List.take_of_length_le (Nat.le_refl _)], Below.refl _ _⟩
theorem eq_ints (L M : List Int) (A B : Option Addr) (c d : Nat) (w : World) (hA : IntsAt w A L) (hB : IntsAt w B M) (h1 : L.length ≤ 1000000) (h2 : M.length ≤ 1000000) :
    Calls Try.prog 14 #[.slice A L.length c, .slice B M.length d] w fun e w' => e = .returned (.bool (decide (L = M))) ∧ Ext w w' :=
  (EqInts_any A B L.length M.length c d L M w rfl rfl (by omega) (by omega) hA hB).mono (fun e w' h => by
    obtain ⟨he, q, rfl⟩ := h
    exact ⟨he, ext_drewN (Below.refl _ _) q⟩)
theorem orb_try : orbS 3 2 0 = [0, 2, 3, 5] ∧ okSide 3 2 ∧ cnt 3 2 = 4 := by
  refine ⟨by decide +kernel, by unfold okSide; omega, by decide⟩
theorem orb_len {a b q : Int} : (orbS a b q).length ≤ 8 := by
  have h1 : ∀ l : List Int, (setI l).length ≤ l.length := by
    intro l
    induction l with
    | nil => exact Nat.le_refl _
    | cons x l ih =>
      have h2 : ∀ m : List Int, (insI x m).length ≤ m.length + 1 := by
        intro m
        induction m with
        | nil => exact Nat.le_refl _
        | cons y m ih2 =>
          unfold insI
          split
          · simp
          · split
            · simp
            · simp only [List.length_cons]; omega
      have := h2 (setI l)
      show (insI x (setI l)).length ≤ l.length + 1
      omega
  have h2 := h1 (orbL a b q)
  rw [orbL_len] at h2
  have := cnt_bd a b
  unfold orbS
  omega
set_option maxHeartbeats 4000000 in
set_option maxRecDepth 100000 in
theorem orbits_no (a b q n : Int) (w : World) (h : ¬ (okSide a b ∧ 0 ≤ q ∧ q < a * b)) :
    Calls Try.prog 6 #[.int .i64 a, .int .i64 b, .int .i64 q, .int .i64 n] w fun e w' => e = .returned (.bool true) ∧ Ext w w' := by
  have HT := hide (fun W => Orbit_yes 3 2 0 W orb_try.2.1 (by omega) (by omega))
  have HA := hide (fun W => All_yes' 3 2 W orb_try.2.1)
  rw [orb_try.1] at HT
  rw [orb_try.2.2, show ((List.range (4 : Int).toNat).map fun (k : Nat) => (k : Int)) = [0, 1, 2, 3] from rfl] at HA
  unfold OrbPost at HT HA
  have HO := hide (fun W => Orbit_no a b q W h)
  have HL : ∃ p : Prop, p := ⟨True, trivial⟩
  have HAA : Hid (∀ W : World, Calls Try.prog 17 #[.int .i64 a, .int .i64 b] W fun e w' => ∃ v c, e = .returned (.tuple #[v, .int .i64 c]) ∧ Ext W w') := hide (fun W => by
    by_cases hs : okSide a b
    · exact (All_yes' a b W hs).mono (fun e w' hh => by
        obtain ⟨v, rfl, -, x⟩ := hh
        exact ⟨v, 0, rfl, x⟩)
    · exact (All_no' a b W hs).mono (fun e w' hh => by
        obtain ⟨rfl, x⟩ := hh
        exact ⟨_, 4, rfl, x⟩))
  clear h
  go_enter Try.func6, Try.ntmps6
  go_wp2_with fail
  refine (HT.out _).mono ?_
  rintro e w1 ⟨v1, rfl, o1, x1⟩
  obtain ⟨A1, c1, rfl, i1⟩ := o1.ints
  have I1 := hide i1
  have X1 := hide x1
  clear o1 i1 x1
  go_wp2_with fail
  have xa : Ext w1 (w1.alloc (.cells #[.int .i64 0, .int .i64 2, .int .i64 3, .int .i64 5] 3)) := ext_alloc (Below.refl _ _) _
  refine (eq_ints [0, 2, 3, 5] [0, 2, 3, 5] A1 (some ⟨w1.heap.size, 0, none⟩) c1 4 _ (I1.out.ext xa) (by simpa using intsAt_new w1 3 [0, 2, 3, 5]) (by decide) (by decide)).mono ?_
  rintro e w2 ⟨rfl, x2⟩
  rw [show decide (([0, 2, 3, 5] : List Int) = [0, 2, 3, 5]) = true from by decide]
  have X2 := hide (ext_trans X1.out (ext_trans xa x2))
  clear x2 I1 xa
  go_wp2_with fail
  refine (HA.out _).mono ?_
  rintro e w3 ⟨v3, rfl, o3, x3⟩
  obtain ⟨A3, c3, rfl, -⟩ := o3.ints
  have X3 := hide (ext_trans X2.out x3)
  clear o3 x3 HT HA
  go_wp2_with fail
  refine (HO.out _).mono ?_
  rintro e w4 ⟨rfl, x4⟩
  have X4 := hide (ext_trans X3.out x4)
  clear x4 HO
  go_wp2_with fail
  refine (HAA.out _).mono ?_
  rintro e w5 ⟨v5, c5, rfl, x5⟩
  have X5 := hide (ext_trans X4.out x5)
  clear x5 HAA
  go_wp2
  go_ret
  exact ⟨rfl, X5.out⟩
set_option maxHeartbeats 4000000 in
set_option maxRecDepth 100000 in
theorem orbits_yes (a b q n : Int) (w : World) (h : okSide a b) (h0 : 0 ≤ q) (h1 : q < a * b) :
    Calls Try.prog 6 #[.int .i64 a, .int .i64 b, .int .i64 q, .int .i64 n] w fun e w' => e = .returned (.bool true) ∧ Ext w w' := by
  have HT := hide (fun W => Orbit_yes 3 2 0 W orb_try.2.1 (by omega) (by omega))
  have HA := hide (fun W => All_yes' 3 2 W orb_try.2.1)
  rw [orb_try.1] at HT
  rw [orb_try.2.2, show ((List.range (4 : Int).toNat).map fun (k : Nat) => (k : Int)) = [0, 1, 2, 3] from rfl] at HA
  unfold OrbPost at HT HA
  have HO := hide (fun W => Orbit_yes a b q W h h0 h1)
  have HAA := hide (fun W => All_yes' a b W h)
  unfold OrbPost at HO HAA
  obtain ⟨hd, hp⟩ := orb_div h h0 h1
  have hl8 := orb_len (a := a) (b := b) (q := q)
  have hcb := cnt_bd a b
  have HX := hide (fun (x : Int) (hx : x ∈ orbS a b q) W => (by
    obtain ⟨b0, b1⟩ := orb_bd h h0 h1 hx
    have hh := Orbit_yes a b x W h b0 b1
    rw [orb_same h h0 h1 hx] at hh
    exact hh : Calls Try.prog 16 #[.int .i64 a, .int .i64 b, .int .i64 x] W (OrbPost W (orbS a b q))))
  unfold OrbPost at HX
  have HC := hide (show (orbS a b q).contains q = true from by simpa using (orb_self (a := a) (b := b) (q := q)))
  have hcl : ((List.range (cnt a b).toNat).map fun (k : Nat) => (k : Int)).length = (cnt a b).toNat := by simp
  have HD : Hid ((((List.range (cnt a b).toNat).map fun (k : Nat) => (k : Int)).length : Int).tmod ((orbS a b q).length : Int) = 0) := hide (by
    rw [hcl, show (((cnt a b).toNat : Nat) : Int) = cnt a b by omega, Int.tmod_eq_emod_of_nonneg (by omega)]
    exact hd)
  generalize (List.range (cnt a b).toNat).map (fun (k : Nat) => (k : Int)) = al at *
  generalize orbS a b q = L at *
  clear h h0 h1 hd hcl hcb
  go_enter Try.func6, Try.ntmps6
  go_wp2_with fail
  refine (HT.out _).mono ?_
  rintro e w1 ⟨v1, rfl, o1, x1⟩
  obtain ⟨A1, c1, rfl, i1⟩ := o1.ints
  have I1 := hide i1
  have X1 := hide x1
  clear o1 i1 x1
  go_wp2_with fail
  have xa : Ext w1 (w1.alloc (.cells #[.int .i64 0, .int .i64 2, .int .i64 3, .int .i64 5] 3)) := ext_alloc (Below.refl _ _) _
  refine (eq_ints [0, 2, 3, 5] [0, 2, 3, 5] A1 (some ⟨w1.heap.size, 0, none⟩) c1 4 _ (I1.out.ext xa) (by simpa using intsAt_new w1 3 [0, 2, 3, 5]) (by decide) (by decide)).mono ?_
  rintro e w2 ⟨rfl, x2⟩
  rw [show decide (([0, 2, 3, 5] : List Int) = [0, 2, 3, 5]) = true from by decide]
  have X2 := hide (ext_trans X1.out (ext_trans xa x2))
  clear x2 I1 xa
  go_wp2_with fail
  refine (HA.out _).mono ?_
  rintro e w3 ⟨v3, rfl, o3, x3⟩
  obtain ⟨A3, c3, rfl, -⟩ := o3.ints
  have X3 := hide (ext_trans X2.out x3)
  clear o3 x3 HT HA
  go_wp2_with fail
  refine (HO.out _).mono ?_
  rintro e w4 ⟨v4, rfl, o4, x4⟩
  obtain ⟨A4, c4, rfl, i4⟩ := o4.ints
  have I4 := hide i4
  have X4 := hide (ext_trans X3.out x4)
  clear x4 HO o4 i4
  go_wp2_with fail
  refine (HAA.out _).mono ?_
  rintro e w5 ⟨v5, rfl, o5, x5⟩
  obtain ⟨A5, c5, rfl, -⟩ := o5.ints
  have I5 := hide (I4.out.ext x5)
  have X5 := hide (ext_trans X4.out x5)
  clear x5 HAA o5 I4
  have t0 : ((L.length : Int) == 0) = false := beq_eq_false_iff_ne.2 (by omega)
  have HSM := hide (fun W (hi : IntsAt W A4 L) => some_int L n A4 c4 W hi (by omega) hp)
  have HCO := hide (fun W (hi : IntsAt W A4 L) => cont_int L q A4 c4 W hi (by omega) hp)
  have HEQ := hide (fun W B d (hi : IntsAt W A4 L) (hj : IntsAt W B L) => (by
    have hh := eq_ints L L A4 B c4 d W hi hj (by omega) (by omega)
    rw [show decide (L = L) = true from decide_eq_true rfl] at hh
    exact hh : Calls Try.prog 14 #[.slice A4 L.length c4, .slice B L.length d] W fun e w' => e = .returned (.bool true) ∧ Ext W w'))
  rw [HC.out] at HCO
  go_wp2_with fail
  refine (HSM.out _ I5.out).mono ?_
  rintro e w6 ⟨x, hx, rfl, x6⟩
  have HX2 := hide (fun W => HX.out x hx W)
  have I6 := hide (I5.out.ext x6)
  have X6 := hide (ext_trans X5.out x6)
  clear x6 HSM HX hx I5
  go_wp2_with fail
  refine (HX2.out _).mono ?_
  rintro e w7 ⟨v7, rfl, o7, x7⟩
  obtain ⟨A7, c7, rfl, i7⟩ := o7.ints
  have J7 := hide i7
  have I7 := hide (I6.out.ext x7)
  have X7 := hide (ext_trans X6.out x7)
  clear x7 HX2 o7 i7 I6
  go_wp2_with fail
  have xe : Ext w7 (w7.alloc (.cells #[.int .i64 0, .int .i64 0] 22)) := ext_alloc (Below.refl _ _) _
  refine (fine_any (some ⟨w7.heap.size, 0, none⟩) 2 2 [0, 0] _ rfl (by omega) (by simpa using intsAt_new w7 22 [0, 0])).mono ?_
  rintro e w8 ⟨rfl, rfl⟩
  rw [show allZero [0, 0] = true from rfl]
  have hrem := HD.out
  have hz0 : ((L.length : Int) = 0) = False := eq_false (by omega)
  go_wp2_with fail
  refine (HEQ.out _ _ _ (I7.out.ext xe) (J7.out.ext xe)).mono ?_
  rintro e w9 ⟨rfl, x9⟩
  have I9 := hide (I7.out.ext (ext_trans xe x9))
  have X9 := hide (ext_trans X7.out (ext_trans xe x9))
  clear x9 xe HEQ hrem
  go_wp2_with fail
  refine (HCO.out _ I9.out).mono ?_
  rintro e w10 ⟨rfl, x10⟩
  have X10 := hide (ext_trans X9.out x10)
  clear x10
  go_wp2
  go_ret
  exact ⟨by first | rfl | simp, X10.out⟩
theorem orbits_law (a b q n : Int) (w : World) : Calls Try.prog 6 #[.int .i64 a, .int .i64 b, .int .i64 q, .int .i64 n] w fun e w' => e = .returned (.bool true) ∧ Ext w w' := by
  by_cases h : okSide a b ∧ 0 ≤ q ∧ q < a * b
  · exact orbits_yes a b q n w h.1 h.2.1 h.2.2
  · exact orbits_no a b q n w h

end Go.Proofs.Ytmkckpiehffccaa
