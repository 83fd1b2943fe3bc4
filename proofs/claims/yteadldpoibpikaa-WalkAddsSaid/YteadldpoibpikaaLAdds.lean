/- Walk: the law WalkAdds. -/
import Derived.Test.YteadldpoibpikaaLPrefix
import Derived.Test.YteadldpoibpikaaGAll
namespace Go.Proofs.Yteadldpoibpikaa
open Go.ChangeShapes Go.WideShapes Go.ChangeAt Go.RowKit Go.Shelf
set_option linter.unusedVariables false
set_option linter.unusedSimpArgs false
theorem sumV_bd {L : List MoveM} {La : List WMov} (h : ∀ (i : Nat) (x : WMov), La[i]? = some x → L[i]? = some x.m ∧ 0 ≤ x.v ∧ x.v ≤ 2001 ∧ 0 ≤ x.p ∧ x.p ≤ 2 * x.v) : ∀ {k : Nat}, k ≤ La.length → La.length ≤ 1000000 → 0 ≤ sumV (La.take k) ∧ sumV (La.take k) ≤ 2001 * (k : Int) ∧ (k : Int) ≤ 1000000
  | 0, _, hl => by
    have e : sumV (La.take 0) = 0 := rfl
    rw [e]; omega
  | k + 1, hk, hl => by
    obtain ⟨h1, h2, h3⟩ := sumV_bd h (k := k) (by omega) hl
    have hx := List.getElem?_eq_getElem (show k < La.length by omega)
    obtain ⟨-, v0, v1, -, -⟩ := h k _ hx
    rw [sumV_take hx]
    omega
set_option maxHeartbeats 4000000 in
set_option maxRecDepth 100000 in
theorem walkAdds_big (R : RulesM) (P : PosM) (v u : Value) (s n : Int) (w : World) (hR : RulesAt w v R) (hP : PosAt w u P) (hb : 12 < P.cells.length) :
    Calls Try.prog 11 #[v, u, .int .i64 s, .int .i64 n] w fun e w' => e = .returned (.bool true) ∧ Ext w w' := by
  have t0 : decide ((12 : Int) < (P.cells.length : Int)) = true := by simp; omega
  clear hb
  have hR0 := hR
  have hP0 := hP
  obtain ⟨pA, pc, sA, sc, eA, ec, rfl, -⟩ := hR0
  obtain ⟨cA, cc, aA, ac, bA, bc, rfl, -⟩ := hP0
  go_enter Try.func11, Try.ntmps11
  go_wp2_with fail
  obtain ⟨xa, kR, kP⟩ := blks2 w #[.string R.name, .int .i64 R.width, .int .i64 R.height, .slice pA R.pieces.length pc, .slice sA R.start.length sc, .bool R.falls, .bool R.keeps, .slice eA R.ends.length ec, .int .i64 R.blocked, .int .i64 R.quiet, .int .i64 R.rept] 26 #[.slice cA P.cells.length cc, .slice aA P.hand0.length ac, .slice bA P.hand1.length bc, .int .i64 P.turn, .int .i64 P.quiet] 29
  replace hR := hR.ext xa
  replace hP := hP.ext xa
  have X := xa
  clear xa
  generalize ((w.alloc (.cells #[.string R.name, .int .i64 R.width, .int .i64 R.height, .slice pA R.pieces.length pc, .slice sA R.start.length sc, .bool R.falls, .bool R.keeps, .slice eA R.ends.length ec, .int .i64 R.blocked, .int .i64 R.quiet, .int .i64 R.rept] 26)).alloc (.cells #[.slice cA P.cells.length cc, .slice aA P.hand0.length ac, .slice bA P.hand1.length bc, .int .i64 P.turn, .int .i64 P.quiet] 29)) = w2 at *
  generalize w.heap.size + 1 = BP at *
  generalize w.heap.size = BR at *
  refine (walked_any _).mono ?_
  rintro e w3 ⟨rfl, x⟩
  replace hR := hR.ext x
  replace hP := hP.ext x
  replace kR := kR.ext x
  replace kP := kP.ext x
  replace X := ext_trans X x
  clear x
  go_wp2_with fail
  refine (plays_any _).mono ?_
  rintro e w4 ⟨rfl, x⟩
  replace hR := hR.ext x
  replace hP := hP.ext x
  replace kR := kR.ext x
  replace kP := kP.ext x
  replace X := ext_trans X x
  clear x
  have fR := kR.cell
  have fP := kP.cell
  go_wp2
  all_goals go_ret
  all_goals exact ⟨by first | rfl | simp, X⟩
set_option maxHeartbeats 4000000 in
set_option maxRecDepth 100000 in
theorem walkAdds_bad (R : RulesM) (P : PosM) (v u : Value) (s n : Int) (w : World) (hR : RulesAt w v R) (hP : PosAt w u P) (K : Int) (hK : (wrap64 (n.tmod 50 + 50)).tmod 50 = K) (k0 : 0 ≤ K) (k1 : K < 50) (hb : ¬ 12 < P.cells.length) (he : runE R P s K ≠ 0) :
    Calls Try.prog 11 #[v, u, .int .i64 s, .int .i64 n] w fun e w' => e = .returned (.bool true) ∧ Ext w w' := by
  have t0 : decide ((12 : Int) < (P.cells.length : Int)) = false := by simp; omega
  have HB1 := hide (fun W (v1 v2 : Value) (h1 : RulesAt W v1 R) (h2 : PosAt W v2 P) => Run_no R P v1 v2 s K W h1 h2 he)
  have t1 : (runE R P s K != 0) = true := by simpa using he
  clear hb he
  generalize runE R P s K = E at *
  have hR0 := hR
  have hP0 := hP
  obtain ⟨pA, pc, sA, sc, eA, ec, rfl, -⟩ := hR0
  obtain ⟨cA, cc, aA, ac, bA, bc, rfl, -⟩ := hP0
  go_enter Try.func11, Try.ntmps11
  go_wp2_with fail
  obtain ⟨xa, kR, kP⟩ := blks2 w #[.string R.name, .int .i64 R.width, .int .i64 R.height, .slice pA R.pieces.length pc, .slice sA R.start.length sc, .bool R.falls, .bool R.keeps, .slice eA R.ends.length ec, .int .i64 R.blocked, .int .i64 R.quiet, .int .i64 R.rept] 26 #[.slice cA P.cells.length cc, .slice aA P.hand0.length ac, .slice bA P.hand1.length bc, .int .i64 P.turn, .int .i64 P.quiet] 29
  replace hR := hR.ext xa
  replace hP := hP.ext xa
  have X := xa
  clear xa
  generalize ((w.alloc (.cells #[.string R.name, .int .i64 R.width, .int .i64 R.height, .slice pA R.pieces.length pc, .slice sA R.start.length sc, .bool R.falls, .bool R.keeps, .slice eA R.ends.length ec, .int .i64 R.blocked, .int .i64 R.quiet, .int .i64 R.rept] 26)).alloc (.cells #[.slice cA P.cells.length cc, .slice aA P.hand0.length ac, .slice bA P.hand1.length bc, .int .i64 P.turn, .int .i64 P.quiet] 29)) = w2 at *
  generalize w.heap.size + 1 = BP at *
  generalize w.heap.size = BR at *
  refine (walked_any _).mono ?_
  rintro e w3 ⟨rfl, x⟩
  replace hR := hR.ext x
  replace hP := hP.ext x
  replace kR := kR.ext x
  replace kP := kP.ext x
  replace X := ext_trans X x
  clear x
  go_wp2_with fail
  refine (plays_any _).mono ?_
  rintro e w4 ⟨rfl, x⟩
  replace hR := hR.ext x
  replace hP := hP.ext x
  replace kR := kR.ext x
  replace kP := kP.ext x
  replace X := ext_trans X x
  clear x
  have fR := kR.cell
  have fP := kP.cell
  go_wp2_with fail
  refine (HB1.out _ _ _ hR hP).mono ?_
  rintro e w5 ⟨rfl, x⟩
  replace hR := hR.ext x
  replace hP := hP.ext x
  replace kR := kR.ext x
  replace kP := kP.ext x
  replace X := ext_trans X x
  replace fR := kR.cell
  replace fP := kP.cell
  clear x
  clear fR fP
  go_wp2
  all_goals go_ret
  all_goals exact ⟨by first | rfl | simp, X⟩
set_option maxHeartbeats 4000000 in
set_option maxRecDepth 100000 in
theorem walkAdds_yes (R : RulesM) (P : PosM) (v u : Value) (s n : Int) (w : World) (hR : RulesAt w v R) (hP : PosAt w u P) (K : Int) (hK : (wrap64 (n.tmod 50 + 50)).tmod 50 = K) (k0 : 0 ≤ K) (k1 : K < 50) (hb : ¬ 12 < P.cells.length) (he : runE R P s K = 0) :
    Calls Try.prog 11 #[v, u, .int .i64 s, .int .i64 n] w fun e w' => e = .returned (.bool true) ∧ Ext w w' := by
  have t0 : decide ((12 : Int) < (P.cells.length : Int)) = false := by simp; omega
  have HB1 := hide (fun W (v1 v2 : Value) (h1 : RulesAt W v1 R) (h2 : PosAt W v2 P) => Run_yes R P v1 v2 s K W h1 h2 he)
  unfold RunPost at HB1
  obtain ⟨hc, -, -, -, hr⟩ := runE_zero he
  obtain ⟨hV, hS⟩ := check_iff.1 hc
  have HB2 := hide (fun W (v1 v2 : Value) (h1 : RulesAt W v1 R) (h2 : PosAt W v2 P) => All_yes R P v1 v2 W h1 h2 hV hS)
  obtain ⟨f1, f2, f3⟩ := walk_facts (s := s) hV hS hr K.toNat (by omega)
  have HF := hide f1
  have HSM : Hid (sumV (walkM R s P K.toNat) = K) := hide (by rw [f2]; omega)
  have HNO : Hid (∀ (i : Nat) (x : WMov), (walkM R s P K.toNat)[i]? = some x → noneW ((walkM R s P K.toNat).take i) = true → 0 < x.v → ¬ K ≤ ((walkM R s P K.toNat).length : Int)) := hide (fun i x h1 h2 h3 h4 => f3 i x h1 h2 h3 (by omega))
  have HLL : Hid ((listM R P).length = (walkM R s P K.toNat).length ∧ (walkM R s P K.toNat).length ≤ 1000000) := hide ⟨by rw [walkM_len], by rw [walkM_len]; exact listM_len hV hS⟩
  generalize walkM R s P K.toNat = La at *
  generalize listM R P = L at *
  clear hb he hc hr hV hS f1 f2 f3
  have hR0 := hR
  have hP0 := hP
  obtain ⟨pA, pc, sA, sc, eA, ec, rfl, -⟩ := hR0
  obtain ⟨cA, cc, aA, ac, bA, bc, rfl, -⟩ := hP0
  go_enter Try.func11, Try.ntmps11
  go_wp2_with fail
  obtain ⟨xa, kR, kP⟩ := blks2 w #[.string R.name, .int .i64 R.width, .int .i64 R.height, .slice pA R.pieces.length pc, .slice sA R.start.length sc, .bool R.falls, .bool R.keeps, .slice eA R.ends.length ec, .int .i64 R.blocked, .int .i64 R.quiet, .int .i64 R.rept] 26 #[.slice cA P.cells.length cc, .slice aA P.hand0.length ac, .slice bA P.hand1.length bc, .int .i64 P.turn, .int .i64 P.quiet] 29
  replace hR := hR.ext xa
  replace hP := hP.ext xa
  have X := xa
  clear xa
  generalize ((w.alloc (.cells #[.string R.name, .int .i64 R.width, .int .i64 R.height, .slice pA R.pieces.length pc, .slice sA R.start.length sc, .bool R.falls, .bool R.keeps, .slice eA R.ends.length ec, .int .i64 R.blocked, .int .i64 R.quiet, .int .i64 R.rept] 26)).alloc (.cells #[.slice cA P.cells.length cc, .slice aA P.hand0.length ac, .slice bA P.hand1.length bc, .int .i64 P.turn, .int .i64 P.quiet] 29)) = w2 at *
  generalize w.heap.size + 1 = BP at *
  generalize w.heap.size = BR at *
  refine (walked_any _).mono ?_
  rintro e w3 ⟨rfl, x⟩
  replace hR := hR.ext x
  replace hP := hP.ext x
  replace kR := kR.ext x
  replace kP := kP.ext x
  replace X := ext_trans X x
  clear x
  go_wp2_with fail
  refine (plays_any _).mono ?_
  rintro e w4 ⟨rfl, x⟩
  replace hR := hR.ext x
  replace hP := hP.ext x
  replace kR := kR.ext x
  replace kP := kP.ext x
  replace X := ext_trans X x
  clear x
  have fR := kR.cell
  have fP := kP.cell
  go_wp2_with fail
  refine (HB1.out _ _ _ hR hP).mono ?_
  rintro e w5 ⟨va, rfl, ha, x⟩
  replace hR := hR.ext x
  replace hP := hP.ext x
  replace kR := kR.ext x
  replace kP := kP.ext x
  replace X := ext_trans X x
  replace fR := kR.cell
  replace fP := kP.cell
  clear x
  obtain ⟨aA, aC, rfl, oA⟩ := ha
  have hca := (own_cells oA).1
  clear oA
  go_wp2_with fail
  refine (HB2.out _ _ _ hR hP).mono ?_
  rintro e w6 ⟨vb, rfl, hb, x⟩
  replace hR := hR.ext x
  replace hP := hP.ext x
  replace kR := kR.ext x
  replace kP := kP.ext x
  replace hca := hca.ext x
  replace X := ext_trans X x
  replace fR := kR.cell
  replace fP := kP.cell
  clear x
  obtain ⟨bA, bC, rfl, oB⟩ := hb
  have hcb := (own_cells oB).1
  clear oB
  clear fR fP
  have HCA := hide hca
  have HCB := hide hcb
  have XB := hide X
  have tl : ((L.length : Int) != (La.length : Int)) = false := by have := HLL.out.1; simp; omega
  clear hca hcb X hR hP kR kP HB1 HB2
  go_wp2
  clear tl
  go_loopw [13, 14, 61] (fun sm no i wr => ∃ k : Nat, k ≤ La.length ∧ i = .int .i64 k ∧ sm = .int .i64 (sumV (La.take k)) ∧ no = .bool (noneW (La.take k)) ∧ Ext w6 wr) (fun _ _ i _ => La.length - (intOf i).toNat)
  case atStart => exact ⟨0, Nat.zero_le _, rfl, rfl, rfl, Below.refl _ _⟩
  case round =>
    obtain ⟨k, hk, rfl, rfl, rfl, hxr⟩ := hrel
    have XR := hide hxr
    have hll := HLL.out
    have hl2 := hll.2
    clear hxr
    by_cases hlt : k < La.length
    · obtain ⟨x, hx⟩ : ∃ x, La[k]? = some x := ⟨La[k], List.getElem?_eq_getElem _⟩
      obtain ⟨hm, v0, v1, p0, p1⟩ := HF.out k x hx
      have HN3 := hide (HNO.out k x hx)
      have HS1 := hide (sumV_take hx)
      have HN1 := hide (noneW_take hx)
      have HSB := hide (sumV_bd HF.out (Nat.le_of_lt hlt) hl2)
      obtain ⟨ba, oa, rfl, a0, a1, a2, a3, a4⟩ := wm_get (HCA.out.ext XR.out) hx
      obtain ⟨bb, ob, rfl, b0, b1, b2⟩ := moves_get (HCB.out.ext XR.out) hm
      have t1 : decide (x.v < 0) = false := decide_eq_false (by omega)
      have t2 : decide (x.p < 0) = false := decide_eq_false (by omega)
      have hw1 : IntKind.i64.wrap (2 * x.v) = 2 * x.v := by rw [IntKind.wrap_i64]; omega
      have hw1' : wrap64 (2 * x.v) = 2 * x.v := by unfold wrap64; omega
      have t3 : decide (2 * x.v < x.p) = false := decide_eq_false (by omega)
      have hsb := HSB.out
      have hw2 : IntKind.i64.wrap (sumV (La.take k) + x.v) = sumV (La.take k) + x.v := by rw [IntKind.wrap_i64]; omega
      have i0 : (0 : Int) ≤ (k : Int) := by omega
      have i1 : (k : Int) < (La.length : Int) := by omega
      have i2 : (k : Int) < (L.length : Int) := by have := hll.1; omega
      clear hx hm hsb hll HSB p0 p1 v1
      generalize noneW (La.take k) = no at *
      generalize sumV (La.take k) = sm at *
      generalize x.m.src = ms at *
      generalize x.m.dst = md at *
      generalize x.m.piece = mp at *
      generalize x.v = xv at *
      generalize x.p = xp at *
      cases no
      · by_cases hz : xv = 0
        · have t6 : (xv == 0) = true := by simpa using hz
          clear hz
          skip
          go_upto_region 16 with fail
          obtain ⟨x5, k5⟩ := blks1 wr #[.int .i64 ms, .int .i64 md, .int .i64 mp, .int .i64 xv, .int .i64 xp] 69
          have X5 := hide (ext_trans XR.out x5)
          have f := k5.cell
          replace b0 := x5.cell b0
          replace b1 := x5.cell b1
          replace b2 := x5.cell b2
          clear x5 a0 a1 a2 a3 a4
          generalize wr.alloc (.cells #[.int .i64 ms, .int .i64 md, .int .i64 mp, .int .i64 xv, .int .i64 xp] 69) = w5 at *
          generalize wr.heap.size = BZ at *
          go_wp2_with (go_quiet (fail))
          go_roundw
          case rel => exact ⟨k + 1, by omega, by go_num, by rw [HS1.out], by rw [HN1.out]; rw [t6]; rfl, ext_drewN X5.out _⟩
          case measure => simp [intOf]; omega
        · have t6 : (xv == 0) = false := by simpa using hz
          clear hz
          skip
          go_upto_region 16 with fail
          obtain ⟨x5, k5⟩ := blks1 wr #[.int .i64 ms, .int .i64 md, .int .i64 mp, .int .i64 xv, .int .i64 xp] 69
          have X5 := hide (ext_trans XR.out x5)
          have f := k5.cell
          replace b0 := x5.cell b0
          replace b1 := x5.cell b1
          replace b2 := x5.cell b2
          clear x5 a0 a1 a2 a3 a4
          generalize wr.alloc (.cells #[.int .i64 ms, .int .i64 md, .int .i64 mp, .int .i64 xv, .int .i64 xp] 69) = w5 at *
          generalize wr.heap.size = BZ at *
          go_wp2_with (go_quiet (fail))
          go_roundw
          case rel => exact ⟨k + 1, by omega, by go_num, by rw [HS1.out], by rw [HN1.out]; rw [t6]; rfl, ext_drewN X5.out _⟩
          case measure => simp [intOf]; omega
      · by_cases hz : 0 < xv
        · have t5 : decide (0 < xv) = true := decide_eq_true hz
          have t7 : decide (K ≤ (La.length : Int)) = false := decide_eq_false (by have := HN3.out rfl hz; omega)
          clear hz
          skip
          go_upto_region 16 with fail
          obtain ⟨x5, k5⟩ := blks1 wr #[.int .i64 ms, .int .i64 md, .int .i64 mp, .int .i64 xv, .int .i64 xp] 69
          have X5 := hide (ext_trans XR.out x5)
          have f := k5.cell
          replace b0 := x5.cell b0
          replace b1 := x5.cell b1
          replace b2 := x5.cell b2
          clear x5 a0 a1 a2 a3 a4
          generalize wr.alloc (.cells #[.int .i64 ms, .int .i64 md, .int .i64 mp, .int .i64 xv, .int .i64 xp] 69) = w5 at *
          generalize wr.heap.size = BZ at *
          go_wp2_with (go_quiet (fail))
          go_roundw
          case rel => exact ⟨k + 1, by omega, by go_num, by rw [HS1.out], by rw [HN1.out]; rfl, ext_drewN X5.out _⟩
          case measure => simp [intOf]; omega
        · have t5 : decide (0 < xv) = false := decide_eq_false hz
          clear hz
          skip
          go_upto_region 16 with fail
          obtain ⟨x5, k5⟩ := blks1 wr #[.int .i64 ms, .int .i64 md, .int .i64 mp, .int .i64 xv, .int .i64 xp] 69
          have X5 := hide (ext_trans XR.out x5)
          have f := k5.cell
          replace b0 := x5.cell b0
          replace b1 := x5.cell b1
          replace b2 := x5.cell b2
          clear x5 a0 a1 a2 a3 a4
          generalize wr.alloc (.cells #[.int .i64 ms, .int .i64 md, .int .i64 mp, .int .i64 xv, .int .i64 xp] 69) = w5 at *
          generalize wr.heap.size = BZ at *
          go_wp2_with (go_quiet (fail))
          go_roundw
          case rel => exact ⟨k + 1, by omega, by go_num, by rw [HS1.out], by rw [HN1.out]; rfl, ext_drewN X5.out _⟩
          case measure => simp [intOf]; omega
    · obtain rfl : k = La.length := by omega
      have HS9 := hide (show sumV (La.take La.length) = K by rw [List.take_length]; exact HSM.out)
      rw [HS9.out]
      go_wp2
      go_ret
      exact ⟨by first | rfl | simp, ext_trans XB.out XR.out⟩
theorem walkAdds_law (v : Value) (R : RulesM) (u : Value) (P : PosM) (s n : Int) (w : World) (hR : RulesAt w v R) (hP : PosAt w u P) :
    Calls Try.prog 11 #[v, u, .int .i64 s, .int .i64 n] w fun e w' => e = .returned (.bool true) ∧ Ext w w' := by
  obtain ⟨K, hK⟩ : ∃ K, (wrap64 (n.tmod 50 + 50)).tmod 50 = K := ⟨_, rfl⟩
  obtain ⟨k0, k1⟩ := some_mod' 50 (by omega) (by omega) n K hK
  by_cases hb : 12 < P.cells.length
  · exact walkAdds_big R P v u s n w hR hP hb
  · by_cases he : runE R P s K = 0
    · exact walkAdds_yes R P v u s n w hR hP K hK k0 k1 hb he
    · exact walkAdds_bad R P v u s n w hR hP K hK k0 k1 hb he

end Go.Proofs.Yteadldpoibpikaa
