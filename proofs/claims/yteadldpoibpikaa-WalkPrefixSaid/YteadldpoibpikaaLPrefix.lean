/- Walk: the law WalkPrefix. -/
import Derived.Test.YteadldpoibpikaaGWalkC
import Derived.Test.YteadldpoibpikaaGSmall
namespace Go.Proofs.Yteadldpoibpikaa
open Go.ChangeShapes Go.WideShapes Go.ChangeAt Go.RowKit Go.Shelf
set_option linter.unusedVariables false
set_option linter.unusedSimpArgs false
theorem some_mod' (n : Int) (hn : 1 ≤ n) (hb : n ≤ 1000) (a K : Int) (h : (wrap64 (a.tmod n + n)).tmod n = K) : 0 ≤ K ∧ K < n := by
  obtain ⟨h1, h2, h3, h4⟩ := some_idx (n := a) (l := n) hn
  have e : wrap64 (a.tmod n + n) = a.tmod n + n := by unfold wrap64; omega
  rw [e] at h
  omega
set_option maxHeartbeats 4000000 in
set_option maxRecDepth 100000 in
theorem walkPrefix_big (R : RulesM) (P : PosM) (v u : Value) (s n m : Int) (w : World) (hR : RulesAt w v R) (hP : PosAt w u P) (hb : 12 < P.cells.length) :
    Calls Try.prog 9 #[v, u, .int .i64 s, .int .i64 n, .int .i64 m] w fun e w' => e = .returned (.bool true) ∧ Ext w w' := by
  have t0 : decide ((12 : Int) < (P.cells.length : Int)) = true := by simp; omega
  clear hb
  have hR0 := hR
  have hP0 := hP
  obtain ⟨pA, pc, sA, sc, eA, ec, rfl, -⟩ := hR0
  obtain ⟨cA, cc, aA, ac, bA, bc, rfl, -⟩ := hP0
  go_enter Try.func9, Try.ntmps9
  go_wp2_with fail
  obtain ⟨xa, kR, kP⟩ := blks2 w #[.string R.name, .int .i64 R.width, .int .i64 R.height, .slice pA R.pieces.length pc, .slice sA R.start.length sc, .bool R.falls, .bool R.keeps, .slice eA R.ends.length ec, .int .i64 R.blocked, .int .i64 R.quiet, .int .i64 R.rept] 26 #[.slice cA P.cells.length cc, .slice aA P.hand0.length ac, .slice bA P.hand1.length bc, .int .i64 P.turn, .int .i64 P.quiet] 29
  replace hR := hR.ext xa
  replace hP := hP.ext xa
  have X := xa
  clear xa
  generalize ((w.alloc (.cells #[.string R.name, .int .i64 R.width, .int .i64 R.height, .slice pA R.pieces.length pc, .slice sA R.start.length sc, .bool R.falls, .bool R.keeps, .slice eA R.ends.length ec, .int .i64 R.blocked, .int .i64 R.quiet, .int .i64 R.rept] 26)).alloc (.cells #[.slice cA P.cells.length cc, .slice aA P.hand0.length ac, .slice bA P.hand1.length bc, .int .i64 P.turn, .int .i64 P.quiet] 29)) = w2 at *
  generalize w.heap.size + 1 = BP at *
  generalize w.heap.size = BR at *
  refine (walked_any _).mono ?_
  rintro e w3 ⟨rfl, x⟩
  replace hR := hR.ext x
  replace hP := hP.ext x
  replace kR := kR.ext x
  replace kP := kP.ext x
  replace X := ext_trans X x
  clear x
  have fR := kR.cell
  have fP := kP.cell
  go_wp2
  all_goals go_ret
  all_goals exact ⟨by first | rfl | simp, X⟩
set_option maxHeartbeats 4000000 in
set_option maxRecDepth 100000 in
theorem walkPrefix_bad (R : RulesM) (P : PosM) (v u : Value) (s n m : Int) (w : World) (hR : RulesAt w v R) (hP : PosAt w u P) (K M : Int) (hK : (wrap64 (n.tmod 30 + 30)).tmod 30 = K) (hM : (wrap64 (m.tmod 30 + 30)).tmod 30 = M) (k0 : 0 ≤ K) (k1 : K < 30) (m0 : 0 ≤ M) (m1 : M < 30) (hb : ¬ 12 < P.cells.length) (he : runE R P s K ≠ 0) :
    Calls Try.prog 9 #[v, u, .int .i64 s, .int .i64 n, .int .i64 m] w fun e w' => e = .returned (.bool true) ∧ Ext w w' := by
  have t0 : decide ((12 : Int) < (P.cells.length : Int)) = false := by simp; omega
  have hwk : IntKind.i64.wrap (K + M) = K + M := by rw [IntKind.wrap_i64]; omega
  have e1 := runE_any (R := R) (P := P) (s := s) k0 (by omega : K ≤ 2000)
  have e2 := runE_any (R := R) (P := P) (s := s) (by omega : 0 ≤ K + M) (by omega : K + M ≤ 2000)
  have HB1 := hide (fun W (v1 v2 : Value) (h1 : RulesAt W v1 R) (h2 : PosAt W v2 P) => Run_no R P v1 v2 s K W h1 h2 he)
  have HB2 := hide (fun W (v1 v2 : Value) (h1 : RulesAt W v1 R) (h2 : PosAt W v2 P) => Run_no R P v1 v2 s (K + M) W h1 h2 (by rw [e2, ← e1]; exact he))
  rw [e1] at HB1 he
  rw [e2] at HB2
  have t1 : (runE R P s 0 != 0) = true := by simpa using he
  clear hb e1 e2 he
  generalize runE R P s 0 = E at *
  have hR0 := hR
  have hP0 := hP
  obtain ⟨pA, pc, sA, sc, eA, ec, rfl, -⟩ := hR0
  obtain ⟨cA, cc, aA, ac, bA, bc, rfl, -⟩ := hP0
  go_enter Try.func9, Try.ntmps9
  go_wp2_with fail
  obtain ⟨xa, kR, kP⟩ := blks2 w #[.string R.name, .int .i64 R.width, .int .i64 R.height, .slice pA R.pieces.length pc, .slice sA R.start.length sc, .bool R.falls, .bool R.keeps, .slice eA R.ends.length ec, .int .i64 R.blocked, .int .i64 R.quiet, .int .i64 R.rept] 26 #[.slice cA P.cells.length cc, .slice aA P.hand0.length ac, .slice bA P.hand1.length bc, .int .i64 P.turn, .int .i64 P.quiet] 29
  replace hR := hR.ext xa
  replace hP := hP.ext xa
  have X := xa
  clear xa
  generalize ((w.alloc (.cells #[.string R.name, .int .i64 R.width, .int .i64 R.height, .slice pA R.pieces.length pc, .slice sA R.start.length sc, .bool R.falls, .bool R.keeps, .slice eA R.ends.length ec, .int .i64 R.blocked, .int .i64 R.quiet, .int .i64 R.rept] 26)).alloc (.cells #[.slice cA P.cells.length cc, .slice aA P.hand0.length ac, .slice bA P.hand1.length bc, .int .i64 P.turn, .int .i64 P.quiet] 29)) = w2 at *
  generalize w.heap.size + 1 = BP at *
  generalize w.heap.size = BR at *
  refine (walked_any _).mono ?_
  rintro e w3 ⟨rfl, x⟩
  replace hR := hR.ext x
  replace hP := hP.ext x
  replace kR := kR.ext x
  replace kP := kP.ext x
  replace X := ext_trans X x
  clear x
  have fR := kR.cell
  have fP := kP.cell
  go_wp2_with fail
  refine (HB1.out _ _ _ hR hP).mono ?_
  rintro e w4 ⟨rfl, x⟩
  replace hR := hR.ext x
  replace hP := hP.ext x
  replace kR := kR.ext x
  replace kP := kP.ext x
  replace X := ext_trans X x
  replace fR := kR.cell
  replace fP := kP.cell
  clear x
  go_wp2_with fail
  refine (HB2.out _ _ _ hR hP).mono ?_
  rintro e w5 ⟨rfl, x⟩
  replace hR := hR.ext x
  replace hP := hP.ext x
  replace kR := kR.ext x
  replace kP := kP.ext x
  replace X := ext_trans X x
  replace fR := kR.cell
  replace fP := kP.cell
  clear x
  clear fR fP
  go_wp2
  all_goals go_ret
  all_goals exact ⟨by first | rfl | simp, X⟩
set_option maxHeartbeats 4000000 in
set_option maxRecDepth 100000 in
theorem walkPrefix_yes (R : RulesM) (P : PosM) (v u : Value) (s n m : Int) (w : World) (hR : RulesAt w v R) (hP : PosAt w u P) (K M : Int) (hK : (wrap64 (n.tmod 30 + 30)).tmod 30 = K) (hM : (wrap64 (m.tmod 30 + 30)).tmod 30 = M) (k0 : 0 ≤ K) (k1 : K < 30) (m0 : 0 ≤ M) (m1 : M < 30) (hb : ¬ 12 < P.cells.length) (he : runE R P s K = 0) :
    Calls Try.prog 9 #[v, u, .int .i64 s, .int .i64 n, .int .i64 m] w fun e w' => e = .returned (.bool true) ∧ Ext w w' := by
  have t0 : decide ((12 : Int) < (P.cells.length : Int)) = false := by simp; omega
  have hwk : IntKind.i64.wrap (K + M) = K + M := by rw [IntKind.wrap_i64]; omega
  have e1 := runE_any (R := R) (P := P) (s := s) k0 (by omega : K ≤ 2000)
  have e2 := runE_any (R := R) (P := P) (s := s) (by omega : 0 ≤ K + M) (by omega : K + M ≤ 2000)
  have he2 : runE R P s (K + M) = 0 := by rw [e2, ← e1]; exact he
  have HB1 := hide (fun W (v1 v2 : Value) (h1 : RulesAt W v1 R) (h2 : PosAt W v2 P) => Run_yes R P v1 v2 s K W h1 h2 he)
  have HB2 := hide (fun W (v1 v2 : Value) (h1 : RulesAt W v1 R) (h2 : PosAt W v2 P) => Run_yes R P v1 v2 s (K + M) W h1 h2 he2)
  unfold RunPost at HB1 HB2
  obtain ⟨hc, -, -, -, hr⟩ := runE_zero he
  obtain ⟨hV, hS⟩ := check_iff.1 hc
  have hsum : (K + M).toNat = K.toNat + M.toNat := by omega
  have HF := hide (walk_more (s := s) hV hS hr K.toNat M.toNat)
  rw [← hsum] at HF
  have HLL : Hid ((walkM R s P K.toNat).length = (walkM R s P (K + M).toNat).length ∧ (walkM R s P K.toNat).length ≤ 1000000) := hide ⟨by rw [walkM_len, walkM_len], by rw [walkM_len]; exact listM_len hV hS⟩
  generalize walkM R s P K.toNat = La at *
  generalize walkM R s P (K + M).toNat = Lb at *
  clear hb e1 e2 he he2 hc hr hV hS hsum
  have hR0 := hR
  have hP0 := hP
  obtain ⟨pA, pc, sA, sc, eA, ec, rfl, -⟩ := hR0
  obtain ⟨cA, cc, aA, ac, bA, bc, rfl, -⟩ := hP0
  go_enter Try.func9, Try.ntmps9
  go_wp2_with fail
  obtain ⟨xa, kR, kP⟩ := blks2 w #[.string R.name, .int .i64 R.width, .int .i64 R.height, .slice pA R.pieces.length pc, .slice sA R.start.length sc, .bool R.falls, .bool R.keeps, .slice eA R.ends.length ec, .int .i64 R.blocked, .int .i64 R.quiet, .int .i64 R.rept] 26 #[.slice cA P.cells.length cc, .slice aA P.hand0.length ac, .slice bA P.hand1.length bc, .int .i64 P.turn, .int .i64 P.quiet] 29
  replace hR := hR.ext xa
  replace hP := hP.ext xa
  have X := xa
  clear xa
  generalize ((w.alloc (.cells #[.string R.name, .int .i64 R.width, .int .i64 R.height, .slice pA R.pieces.length pc, .slice sA R.start.length sc, .bool R.falls, .bool R.keeps, .slice eA R.ends.length ec, .int .i64 R.blocked, .int .i64 R.quiet, .int .i64 R.rept] 26)).alloc (.cells #[.slice cA P.cells.length cc, .slice aA P.hand0.length ac, .slice bA P.hand1.length bc, .int .i64 P.turn, .int .i64 P.quiet] 29)) = w2 at *
  generalize w.heap.size + 1 = BP at *
  generalize w.heap.size = BR at *
  refine (walked_any _).mono ?_
  rintro e w3 ⟨rfl, x⟩
  replace hR := hR.ext x
  replace hP := hP.ext x
  replace kR := kR.ext x
  replace kP := kP.ext x
  replace X := ext_trans X x
  clear x
  have fR := kR.cell
  have fP := kP.cell
  go_wp2_with fail
  refine (HB1.out _ _ _ hR hP).mono ?_
  rintro e w4 ⟨va, rfl, ha, x⟩
  replace hR := hR.ext x
  replace hP := hP.ext x
  replace kR := kR.ext x
  replace kP := kP.ext x
  replace X := ext_trans X x
  replace fR := kR.cell
  replace fP := kP.cell
  clear x
  obtain ⟨aA, aC, rfl, oA⟩ := ha
  have hca := (own_cells oA).1
  clear oA
  go_wp2_with fail
  refine (HB2.out _ _ _ hR hP).mono ?_
  rintro e w5 ⟨vb, rfl, hb, x⟩
  replace hR := hR.ext x
  replace hP := hP.ext x
  replace kR := kR.ext x
  replace kP := kP.ext x
  replace hca := hca.ext x
  replace X := ext_trans X x
  replace fR := kR.cell
  replace fP := kP.cell
  clear x
  obtain ⟨bA, bC, rfl, oB⟩ := hb
  have hcb := (own_cells oB).1
  clear oB
  clear fR fP
  have HCA := hide hca
  have HCB := hide hcb
  have XB := hide X
  have tl : ((La.length : Int) != (Lb.length : Int)) = false := by have := HLL.out.1; simp; omega
  clear hca hcb X hR hP kR kP HB1 HB2
  go_wp2
  clear tl
  go_loopw [72] (fun i wr => ∃ k q : Nat, k ≤ La.length ∧ i = .int .i64 k ∧ wr = w5.drewN q) (fun i _ => La.length - (intOf i).toNat)
  case atStart => exact ⟨0, 0, Nat.zero_le _, rfl, rfl⟩
  case round =>
    obtain ⟨k, q, hk, rfl, rfl⟩ := hrel
    have hll := HLL.out
    have hl2 := hll.2
    by_cases hlt : k < La.length
    · obtain ⟨x, hx⟩ : ∃ x, La[k]? = some x := ⟨La[k], List.getElem?_eq_getElem _⟩
      obtain ⟨y, hy⟩ : ∃ y, Lb[k]? = some y := ⟨Lb[k], List.getElem?_eq_getElem (by omega)⟩
      obtain ⟨em, hv, hp⟩ := HF.out k x y hx hy
      obtain ⟨ba, oa, rfl, a0, a1, a2, a3, a4⟩ := wm_get HCA.out hx
      obtain ⟨bb, ob, rfl, b0, b1, b2, b3, b4⟩ := wm_get HCB.out hy
      rw [em] at a0 a1 a2
      have t1 : decide (y.v < x.v) = false := decide_eq_false (by omega)
      have t2 : decide (y.p < x.p) = false := decide_eq_false (by omega)
      have i0 : (0 : Int) ≤ (k : Int) := by omega
      have i1 : (k : Int) < (La.length : Int) := by omega
      have i2 : (k : Int) < (Lb.length : Int) := by omega
      have l4 : (Lb.length : Int) = (La.length : Int) := by omega
      have L4 := hide l4
      clear hx hy em hv hp l4 hll
      generalize x.v = xv at *
      generalize x.p = xp at *
      generalize y.v = yv at *
      generalize y.p = yp at *
      generalize y.m.src = ms at *
      generalize y.m.dst = md at *
      generalize y.m.piece = mp at *
      go_wp2_with (go_quiet (fail))
      go_roundw
      case rel => exact ⟨k + 1, _, by omega, by go_num, rfl⟩
      case measure => simp [intOf]; omega
    · obtain rfl : k = La.length := by omega
      go_wp2
      go_ret
      exact ⟨rfl, ext_trans XB.out (ext_drewN (Below.refl _ _) q)⟩
theorem walkPrefix_law (v : Value) (R : RulesM) (u : Value) (P : PosM) (s n m : Int) (w : World) (hR : RulesAt w v R) (hP : PosAt w u P) :
    Calls Try.prog 9 #[v, u, .int .i64 s, .int .i64 n, .int .i64 m] w fun e w' => e = .returned (.bool true) ∧ Ext w w' := by
  obtain ⟨K, hK⟩ : ∃ K, (wrap64 (n.tmod 30 + 30)).tmod 30 = K := ⟨_, rfl⟩
  obtain ⟨M, hM⟩ : ∃ M, (wrap64 (m.tmod 30 + 30)).tmod 30 = M := ⟨_, rfl⟩
  obtain ⟨k0, k1⟩ := some_mod' 30 (by omega) (by omega) n K hK
  obtain ⟨m0, m1⟩ := some_mod' 30 (by omega) (by omega) m M hM
  by_cases hb : 12 < P.cells.length
  · exact walkPrefix_big R P v u s n m w hR hP hb
  · by_cases he : runE R P s K = 0
    · exact walkPrefix_yes R P v u s n m w hR hP K M hK hM k0 k1 m0 m1 hb he
    · exact walkPrefix_bad R P v u s n m w hR hP K M hK hM k0 k1 m0 m1 hb he

end Go.Proofs.Yteadldpoibpikaa
