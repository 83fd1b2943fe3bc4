/- Walk: the law CertBreaks. -/
import Derived.Test.YtfkcigekbgkcmaaLMakes
import Derived.Test.YtfkcigekbgkcmaaGSmall
import Derived.StillTailTactics
namespace Go.Proofs.Ytfkcigekbgkcmaa
open Go.ChangeShapes Go.WideShapes Go.ChangeAt Go.RowKit Go.Shelf
set_option linter.unusedVariables false
set_option linter.unusedSimpArgs false
/-- One number of a row of the call's own has been written. -/
theorem own_put1 {w : World} {b g c j : Nat} {zs : List Int} (h : w.ownsRow b 3 1 (.slice (some ⟨g, 0, none⟩) zs.length c) zs.length (zs.map (Value.int .i64))) (z : Int) : (w.setCell ⟨g, j, none⟩ (.int .i64 z)).ownsRow b 3 1 (.slice (some ⟨g, 0, none⟩) zs.length c) zs.length ((zs.set j z).map (Value.int .i64)) := by
  obtain ⟨hl, h⟩ := h
  refine ⟨by simp, ?_⟩
  rcases h with ⟨e, -⟩ | ⟨g', cap, cur, e, hb, hg, h1, h2, h3, h4⟩
  · cases e
  · simp only [Value.slice.injEq, Option.some.injEq, Addr.mk.injEq, and_true, true_and] at e
    obtain ⟨rfl, rfl⟩ := e
    refine .inr ⟨g, c, cur.setIfInBounds j (.int .i64 z), rfl, hb, ?_, h1, h2, by simpa using h3, ?_⟩
    · simp [World.setCell, Array.getElem?_modify, hg]
    · rw [List.map_set, ← h4, Array.toList_setIfInBounds, List.take_set]
set_option maxHeartbeats 4000000 in
set_option maxRecDepth 100000 in
theorem certBreaks_heavy (R : RulesM) (P : PosM) (v u : Value) (D a t : Int) (w : World) (hR : RulesAt w v R) (hP : PosAt w u P) (hh : heavyB R P D = true) :
    Calls Try.prog 11 #[v, u, .int .i64 D, .int .i64 a, .int .i64 t] w fun e w' => e = .returned (.bool true) ∧ Ext w w' := by
  have HHV := hide (fun W (v1 v2 : Value) (h1 : RulesAt W v1 R) (h2 : PosAt W v2 P) => heavy_any R P v1 v2 D W h1 h2)
  rw [hh] at HHV
  clear hh
  have hR0 := hR
  have hP0 := hP
  obtain ⟨pA, pc, sA, sc, eA, ec, rfl, -⟩ := hR0
  obtain ⟨cA, cc, aA, ac, bA, bc, rfl, -⟩ := hP0
  go_enter Try.func11, Try.ntmps11
  go_wp2_with fail
  obtain ⟨xa, kR, kP⟩ := blks2 w #[.string R.name, .int .i64 R.width, .int .i64 R.height, .slice pA R.pieces.length pc, .slice sA R.start.length sc, .bool R.falls, .bool R.keeps, .slice eA R.ends.length ec, .int .i64 R.blocked, .int .i64 R.quiet, .int .i64 R.rept] 26 #[.slice cA P.cells.length cc, .slice aA P.hand0.length ac, .slice bA P.hand1.length bc, .int .i64 P.turn, .int .i64 P.quiet] 29
  replace hR := hR.ext xa
  replace hP := hP.ext xa
  have X := xa
  clear xa
  generalize ((w.alloc (.cells #[.string R.name, .int .i64 R.width, .int .i64 R.height, .slice pA R.pieces.length pc, .slice sA R.start.length sc, .bool R.falls, .bool R.keeps, .slice eA R.ends.length ec, .int .i64 R.blocked, .int .i64 R.quiet, .int .i64 R.rept] 26)).alloc (.cells #[.slice cA P.cells.length cc, .slice aA P.hand0.length ac, .slice bA P.hand1.length bc, .int .i64 P.turn, .int .i64 P.quiet] 29)) = w2 at *
  generalize w.heap.size + 1 = BP at *
  generalize w.heap.size = BR at *
  refine (proved_any _).mono ?_
  rintro e w3 ⟨rfl, x⟩
  replace hR := hR.ext x
  replace hP := hP.ext x
  replace kR := kR.ext x
  replace kP := kP.ext x
  replace X := ext_trans X x
  clear x
  go_wp2_with fail
  refine (scored_any _).mono ?_
  rintro e w4 ⟨rfl, x⟩
  replace hR := hR.ext x
  replace hP := hP.ext x
  replace kR := kR.ext x
  replace kP := kP.ext x
  replace X := ext_trans X x
  clear x
  have fR := kR.cell
  have fP := kP.cell
  go_wp2_with fail
  refine (HHV.out _ _ _ hR hP).mono ?_
  rintro e w5 ⟨rfl, x⟩
  replace hR := hR.ext x
  replace hP := hP.ext x
  replace kR := kR.ext x
  replace kP := kP.ext x
  replace X := ext_trans X x
  replace fR := kR.cell
  replace fP := kP.cell
  clear x
  clear HHV
  clear fR fP
  go_wp2
  all_goals go_ret
  all_goals exact ⟨by first | rfl | simp, X⟩
set_option maxHeartbeats 4000000 in
set_option maxRecDepth 100000 in
theorem certBreaks_no (R : RulesM) (P : PosM) (v u : Value) (D a t : Int) (w : World) (hR : RulesAt w v R) (hP : PosAt w u P) (hh : heavyB R P D = false) (hne : makeE R P D ≠ 0) :
    Calls Try.prog 11 #[v, u, .int .i64 D, .int .i64 a, .int .i64 t] w fun e w' => e = .returned (.bool true) ∧ Ext w w' := by
  have HHV := hide (fun W (v1 v2 : Value) (h1 : RulesAt W v1 R) (h2 : PosAt W v2 P) => heavy_any R P v1 v2 D W h1 h2)
  rw [hh] at HHV
  clear hh
  have HMK := hide (fun W (v1 v2 : Value) (h1 : RulesAt W v1 R) (h2 : PosAt W v2 P) => Make_no R P v1 v2 D W h1 h2 hne)
  have t0 : (makeE R P D != 0) = true := by simpa using hne
  clear hne
  generalize makeE R P D = E at *
  have hR0 := hR
  have hP0 := hP
  obtain ⟨pA, pc, sA, sc, eA, ec, rfl, -⟩ := hR0
  obtain ⟨cA, cc, aA, ac, bA, bc, rfl, -⟩ := hP0
  go_enter Try.func11, Try.ntmps11
  go_wp2_with fail
  obtain ⟨xa, kR, kP⟩ := blks2 w #[.string R.name, .int .i64 R.width, .int .i64 R.height, .slice pA R.pieces.length pc, .slice sA R.start.length sc, .bool R.falls, .bool R.keeps, .slice eA R.ends.length ec, .int .i64 R.blocked, .int .i64 R.quiet, .int .i64 R.rept] 26 #[.slice cA P.cells.length cc, .slice aA P.hand0.length ac, .slice bA P.hand1.length bc, .int .i64 P.turn, .int .i64 P.quiet] 29
  replace hR := hR.ext xa
  replace hP := hP.ext xa
  have X := xa
  clear xa
  generalize ((w.alloc (.cells #[.string R.name, .int .i64 R.width, .int .i64 R.height, .slice pA R.pieces.length pc, .slice sA R.start.length sc, .bool R.falls, .bool R.keeps, .slice eA R.ends.length ec, .int .i64 R.blocked, .int .i64 R.quiet, .int .i64 R.rept] 26)).alloc (.cells #[.slice cA P.cells.length cc, .slice aA P.hand0.length ac, .slice bA P.hand1.length bc, .int .i64 P.turn, .int .i64 P.quiet] 29)) = w2 at *
  generalize w.heap.size + 1 = BP at *
  generalize w.heap.size = BR at *
  refine (proved_any _).mono ?_
  rintro e w3 ⟨rfl, x⟩
  replace hR := hR.ext x
  replace hP := hP.ext x
  replace kR := kR.ext x
  replace kP := kP.ext x
  replace X := ext_trans X x
  clear x
  go_wp2_with fail
  refine (scored_any _).mono ?_
  rintro e w4 ⟨rfl, x⟩
  replace hR := hR.ext x
  replace hP := hP.ext x
  replace kR := kR.ext x
  replace kP := kP.ext x
  replace X := ext_trans X x
  clear x
  have fR := kR.cell
  have fP := kP.cell
  go_wp2_with fail
  refine (HHV.out _ _ _ hR hP).mono ?_
  rintro e w5 ⟨rfl, x⟩
  replace hR := hR.ext x
  replace hP := hP.ext x
  replace kR := kR.ext x
  replace kP := kP.ext x
  replace X := ext_trans X x
  replace fR := kR.cell
  replace fP := kP.cell
  clear x
  clear HHV
  go_wp2_with fail
  refine (HMK.out _ _ _ hR hP).mono ?_
  rintro e w6 ⟨rfl, x⟩
  replace hR := hR.ext x
  replace hP := hP.ext x
  replace kR := kR.ext x
  replace kP := kP.ext x
  replace X := ext_trans X x
  replace fR := kR.cell
  replace fP := kP.cell
  clear x
  clear HMK
  clear fR fP
  go_wp2
  all_goals go_ret
  all_goals exact ⟨by first | rfl | simp, X⟩
set_option maxHeartbeats 4000000 in
set_option maxRecDepth 100000 in
theorem certBreaks_yes (R : RulesM) (P : PosM) (v u : Value) (D a t : Int) (w : World) (hR : RulesAt w v R) (hP : PosAt w u P) (hh : heavyB R P D = false) (h0 : makeE R P D = 0) :
    Calls Try.prog 11 #[v, u, .int .i64 D, .int .i64 a, .int .i64 t] w fun e w' => e = .returned (.bool true) ∧ Ext w w' := by
  have HHV := hide (fun W (v1 v2 : Value) (h1 : RulesAt W v1 R) (h2 : PosAt W v2 P) => heavy_any R P v1 v2 D W h1 h2)
  rw [hh] at HHV
  clear hh
  have HMK := hide (fun W (v1 v2 : Value) (h1 : RulesAt W v1 R) (h2 : PosAt W v2 P) => Make_yes R P v1 v2 D W h1 h2 h0)
  unfold MakeOk at HMK
  have HH2 := hide (fun (n : Int) W (v1 v2 : Value) (h1 : RulesAt W v1 R) (h2 : PosAt W v2 P) => heavy_any R P v1 v2 n W h1 h2)
  have HSC := hide (fun (n : Int) W (v1 v2 : Value) (h1 : RulesAt W v1 R) (h2 : PosAt W v2 P) => MScore_any R P v1 v2 n W h1 h2)
  obtain ⟨hp, hr, ho, hl⟩ := makeE_zero h0
  obtain ⟨hV, hS, d0, d1, -⟩ := perft_zero hp
  have hce := check_iff.2 ⟨hV, hS⟩
  have HCE := hide hce
  have hsz := made_size hp hr ho
  have hfm := (good_form (cert_good hV D.toNat P 0 (by omega) hS hr ho)).1
  generalize certM R D.toNat 0 P = L at *
  have HCK := hide (fun (M : List CNode) W (v1 v2 : Value) (A : Option Addr) (c : Nat) (h1 : RulesAt W v1 R) (h2 : PosAt W v2 P) (h3 : 0 < M.length) (h4 : M.length ≤ 5000) (h5 : (flatM M).length ≤ 2 ^ 60) (h6 : CertAt W A M) => Check_brk (c := c) h1 h2 hce h3 h4 h5 h6)
  have HCL := hide (fun W (A : Option Addr) (c : Nat) (h : CertAt W A L) => clone_nodes A c L W hl hsz.1 h)
  unfold CopyPost at HCL
  obtain ⟨s1, s2, s3, s4⟩ := some_idx (n := a) (l := (L.length : Int)) (by omega)
  obtain ⟨K, hk⟩ := Int.eq_ofNat_of_zero_le s3
  have hk' : (a.tmod (L.length : Int) + (L.length : Int)).tmod (L.length : Int) = (K : Int) := hk
  have hkl : K < L.length := by omega
  have HKL := hide hkl
  have HK : (wrap64 (a.tmod (L.length : Int) + (L.length : Int))).tmod (L.length : Int) = (K : Int) := by
    have hw : wrap64 (a.tmod (L.length : Int) + (L.length : Int)) = a.tmod (L.length : Int) + (L.length : Int) := by unfold wrap64; omega
    rw [hw]; exact hk'
  obtain ⟨y, hy⟩ : ∃ y, L[K]? = some y := ⟨L[K], List.getElem?_eq_getElem hkl⟩
  have HY := hide hy
  have hrl := flat_pre L y K hy
  have HRL : Hid (y.rs.length ≤ 5000000000) := hide (by omega)
  have HZB : Hid (∀ z ∈ y.rs, -1 ≤ z ∧ z ≤ 5000) := hide (fun z hz => by have := hfm K y hy z hz; omega)
  have HCI := hide (fun W (B : Option Addr) (c : Nat) (h : IntsAt W B y.rs) (hn : B = none → y.rs.length = 0) => cloneInts_any B y.rs.length c y.rs W rfl (by have := HRL.out; omega) hn h)
  unfold OwnInts at HCI
  have HLL : Hid (0 < L.length ∧ L.length ≤ 5000 ∧ (flatM L).length ≤ 2 ^ 60) := hide ⟨hsz.1, hl, by omega⟩
  have t5 : ((L.length : Int) == 0) = false := beq_eq_false_iff_ne.2 (by omega)
  have i5 : (0 : Int) ≤ (K : Int) := by omega
  have i6 : (K : Int) < (L.length : Int) := by omega
  clear h0 hp hr ho hl hV hS d0 d1 hce hsz hfm s1 s2 s3 s4 hk hk' hkl hy hrl
  have hR0 := hR
  have hP0 := hP
  obtain ⟨pA, pc, sA, sc, eA, ec, rfl, -⟩ := hR0
  obtain ⟨cA, cc, aA, ac, bA, bc, rfl, -⟩ := hP0
  go_enter Try.func11, Try.ntmps11
  go_wp2_with fail
  obtain ⟨xa, kR, kP⟩ := blks2 w #[.string R.name, .int .i64 R.width, .int .i64 R.height, .slice pA R.pieces.length pc, .slice sA R.start.length sc, .bool R.falls, .bool R.keeps, .slice eA R.ends.length ec, .int .i64 R.blocked, .int .i64 R.quiet, .int .i64 R.rept] 26 #[.slice cA P.cells.length cc, .slice aA P.hand0.length ac, .slice bA P.hand1.length bc, .int .i64 P.turn, .int .i64 P.quiet] 29
  replace hR := hR.ext xa
  replace hP := hP.ext xa
  have X := xa
  clear xa
  generalize ((w.alloc (.cells #[.string R.name, .int .i64 R.width, .int .i64 R.height, .slice pA R.pieces.length pc, .slice sA R.start.length sc, .bool R.falls, .bool R.keeps, .slice eA R.ends.length ec, .int .i64 R.blocked, .int .i64 R.quiet, .int .i64 R.rept] 26)).alloc (.cells #[.slice cA P.cells.length cc, .slice aA P.hand0.length ac, .slice bA P.hand1.length bc, .int .i64 P.turn, .int .i64 P.quiet] 29)) = w2 at *
  generalize w.heap.size + 1 = BP at *
  generalize w.heap.size = BR at *
  refine (proved_any _).mono ?_
  rintro e w3 ⟨rfl, x⟩
  replace hR := hR.ext x
  replace hP := hP.ext x
  replace kR := kR.ext x
  replace kP := kP.ext x
  replace X := ext_trans X x
  clear x
  go_wp2_with fail
  refine (scored_any _).mono ?_
  rintro e w4 ⟨rfl, x⟩
  replace hR := hR.ext x
  replace hP := hP.ext x
  replace kR := kR.ext x
  replace kP := kP.ext x
  replace X := ext_trans X x
  clear x
  have fR := kR.cell
  have fP := kP.cell
  go_wp2_with fail
  refine (HHV.out _ _ _ hR hP).mono ?_
  rintro e w5 ⟨rfl, x⟩
  replace hR := hR.ext x
  replace hP := hP.ext x
  replace kR := kR.ext x
  replace kP := kP.ext x
  replace X := ext_trans X x
  replace fR := kR.cell
  replace fP := kP.cell
  clear x
  clear HHV
  go_wp2_with fail
  refine (HMK.out _ _ _ hR hP).mono ?_
  rintro e w6 ⟨A5, c5, rfl, ca, x⟩
  replace hR := hR.ext x
  replace hP := hP.ext x
  replace kR := kR.ext x
  replace kP := kP.ext x
  replace X := ext_trans X x
  replace fR := kR.cell
  replace fP := kP.cell
  clear x
  clear HMK
  have HB := hide (fun W (h : Ext w6 W) => And.intro (hR.ext h) (And.intro (hP.ext h) (And.intro (kR.ext h) (And.intro (kP.ext h) (ext_trans X h)))))
  have CA := hide ca
  clear fR fP
  clear hR hP kR kP X ca
  go_wp2_with fail
  refine (HCL.out _ _ _ CA.out).mono ?_
  rintro e wc ⟨gc, c6, cs, rfl, hgc, kc, hsz, cc2, xc⟩
  have HGC : Hid (w6.heap.size ≤ gc) := hide hgc
  have HSZ := hide hsz
  have KC := hide kc
  have CC := hide cc2
  have XC := hide xc
  have HLT := hide kc.lt
  have HBC : Hid (w6.heap.size ≤ wc.heap.size) := hide xc.size
  clear hgc hsz kc cc2 xc HCL CA
  obtain ⟨B7, c7, q0, q1, q2, q3, qi⟩ := CC.out K y HY.out
  have QI := hide (qi.ext XC.out)
  have QN : Hid (B7 = none → y.rs.length = 0) := hide (fun e => by
    rcases Nat.eq_zero_or_pos y.rs.length with h | h
    · exact h
    · obtain ⟨_, _, e2, _⟩ := qi 0 h
      rw [e] at e2; cases e2)
  clear qi
  go_upto_region 11 with fail
  obtain ⟨x1, k1⟩ := blks1 wc #[.int .i64 y.m.src, .int .i64 y.m.dst, .int .i64 y.m.piece, .slice B7 y.rs.length c7] 81
  have XW := hide x1
  have QI1 := hide (QI.out.ext x1)
  have K1 := hide k1
  have HLB : Hid (gc ≠ wc.heap.size) := hide (by have := HLT.out; omega)
  have HBW : Hid (wc.heap.size ≤ wc.heap.size) := hide (Nat.le_refl _)
  clear q0 q1 q2 q3 x1 k1 QI
  generalize wc.alloc (.cells #[.int .i64 y.m.src, .int .i64 y.m.dst, .int .i64 y.m.piece, .slice B7 y.rs.length c7] 81) = w1 at *
  have HBX : Hid (∃ b, wc.heap.size ≤ b ∧ b = wc.heap.size) := hide ⟨_, Nat.le_refl _, rfl⟩
  generalize hBX : wc.heap.size = BX at *
  have HBE := hide hBX
  clear hBX HBX HBW
  have f := K1.out.cell
  have fz := K1.out.frozen
  go_wp2_with fail
  refine (HCI.out _ _ _ QI1.out QN.out).mono ?_
  have HL1 := hide K1.out.lt
  rintro e w2 ⟨A2, c2, rfl, own2, x2⟩
  have K2 := hide (K1.out.ext x2)
  have XW2 := hide (ext_trans XW.out x2)
  have ONE2 : Hid (.slice A2 y.rs.length c2 |> Value.ownBlock |> fun o => o ≠ some BX) := hide (by
    intro h
    have h1 := own_row own2 BX h
    have h2 := K1.out.lt
    omega)
  have OW2 := hide own2
  clear f fz own2 x2 K1 XW QI1 QN
  have f := K2.out.cell
  have fz := K2.out.frozen
  go_upto_region 12 with fail
  have K3 := hide (blk_put (i := 3) (u := .slice A2 y.rs.length c2) (cs' := #[.int .i64 y.m.src, .int .i64 y.m.dst, .int .i64 y.m.piece, .slice A2 y.rs.length c2]) K2.out rfl)
  have XW3 : Hid (Ext wc (w2.setCell ⟨BX, 3, none⟩ (.slice A2 y.rs.length c2))) := hide (ext_set XW2.out (p := ⟨BX, 3, none⟩) (by rw [HBE.out]; exact Nat.le_refl _) _)
  have OW3 : Hid ((w2.setCell ⟨BX, 3, none⟩ (.slice A2 y.rs.length c2)).ownsRow w1.heap.size 3 1 (.slice A2 y.rs.length c2) y.rs.length (y.rs.map (Value.int .i64))) := hide (own_set OW2.out (p := ⟨BX, 3, none⟩) ONE2.out _)
  have HW1 : Hid (wc.heap.size ≤ w1.heap.size) := hide (by rw [HBE.out]; exact Nat.le_of_lt (by have := K2.out; have h := HL1.out; omega))
  clear f fz OW2 K2 XW2
  generalize w2.setCell ⟨BX, 3, none⟩ (.slice A2 y.rs.length c2) = w3 at *
  have f := K3.out.cell
  have fz := K3.out.frozen
  
  by_cases he : t.tmod 2 = 0
  · by_cases hn : 0 < y.rs.length
    · skip
      obtain ⟨g7, rfl, hg7, ir7, -⟩ := own_irow OW3.out rfl (show 1 ≤ y.rs.length by omega)
      obtain ⟨s1, s2, s3, s4⟩ := some_idx (n := t) (l := (y.rs.length : Int)) (by omega)
      obtain ⟨j, hj⟩ := Int.eq_ofNat_of_zero_le s3
      have hj' : (t.tmod (y.rs.length : Int) + (y.rs.length : Int)).tmod (y.rs.length : Int) = (j : Int) := hj
      have hjl : j < y.rs.length := by omega
      have hlen := HRL.out
      have HJ : (wrap64 (t.tmod (y.rs.length : Int) + (y.rs.length : Int))).tmod (y.rs.length : Int) = (j : Int) := by
        have hw : wrap64 (t.tmod (y.rs.length : Int) + (y.rs.length : Int)) = t.tmod (y.rs.length : Int) + (y.rs.length : Int) := by unfold wrap64; omega
        rw [hw]; exact hj'
      have HJ2 : (IntKind.i64.wrap (t.tmod (y.rs.length : Int) + (y.rs.length : Int))).tmod (y.rs.length : Int) = (j : Int) := by rw [IntKind.wrap_i64]; have h9 := HJ; unfold wrap64 at h9; exact h9
      have hc := ir7.cell hjl
      have hcz := ir7.frozen j
      have hzb := HZB.out (y.rs.getD j 0) (by rw [List.getD_eq_getElem?_getD, List.getElem?_eq_getElem hjl]; exact List.getElem_mem hjl)
      have IR := hide ir7
      have HJL := hide hjl
      generalize y.rs.getD j 0 = z at *
      have hr1 := Int.tmod_lt_of_pos a (show (0 : Int) < 3 by omega)
      have hr2 : -3 < a.tmod 3 := by
        have b := Int.tmod_lt_of_pos (-a) (show (0 : Int) < 3 by omega)
        rw [Int.neg_tmod] at b
        omega
      obtain ⟨r, hr⟩ : ∃ r, a.tmod 3 = r := ⟨_, rfl⟩
      rw [hr] at hr1 hr2
      have hw1 : IntKind.i64.wrap (1 + r) = 1 + r := by rw [IntKind.wrap_i64]; omega
      have hw2 : IntKind.i64.wrap (z + (1 + r)) = z + (1 + r) := by rw [IntKind.wrap_i64]; omega
      have i0 : (0 : Int) ≤ (j : Int) := by omega
      have i1 : (j : Int) < (y.rs.length : Int) := by omega
      have t0 : (t.tmod 2 == 0) = true := by simpa using he
      have t1 : decide ((0 : Int) < (y.rs.length : Int)) = true := decide_eq_true (by omega)
      obtain ⟨z1, z2⟩ := hzb
      clear s1 s2 s3 s4 hj hj' hjl hlen ir7 hg7 he hn
      go_upto_region 13 with fail
      have hnn : ¬ y.rs = [] := fun e => by have h9 := HJL.out; rw [e] at h9; exact absurd h9 (by simp)
      have hcd := hc
      have fB3 := K3.out.cell 3
      have keepK := hide (fun W (h : (Ext wc W ∧ W.cell? ⟨BX, 3, none⟩ = some (.slice (some ⟨g7, 0, none⟩) y.rs.length c2))) => (show (fun W => W.cell? ⟨BX, 3, none⟩ = some (.slice (some ⟨g7, 0, none⟩) y.rs.length c2) ∧ (Ext wc W ∧ W.cell? ⟨BX, 3, none⟩ = some (.slice (some ⟨g7, 0, none⟩) y.rs.length c2))) W from ⟨h.2, h⟩))
      have yy := (show Ext wc w3.drew ∧ w3.drew.cell? ⟨BX, 3, none⟩ = some (.slice (some ⟨g7, 0, none⟩) y.rs.length c2) from ⟨Below.drew XW3.out, K3.out.cell 3⟩)
      refine region_K (fun W => W.cell? ⟨BX, 3, none⟩ = some (.slice (some ⟨g7, 0, none⟩) y.rs.length c2) ∧ (Ext wc W ∧ W.cell? ⟨BX, 3, none⟩ = some (.slice (some ⟨g7, 0, none⟩) y.rs.length c2))) (fun W => W.cell? ⟨g7, j, none⟩ = some (.int .i64 z)) [22] (by kernel_rfl) ?_
      have hS0 := hcd
      have hT0 := keepK.out _ yy
      refine anyK_take 0 (oi := ?oo1) ?ho1 (by kernel_rfl) (by kernel_rfl) (by kernel_rfl) (by kernel_rfl) ?hq1 ?hw1 hT0 (fun _ => hS0) (v := ?vv1) ?hy1 ?hk1
      case ho1 => (simp only [List.getElem?_toArray, List.getElem?_cons_succ, List.getElem?_cons_zero]; rfl)
      case hq1 => exact fun _ _ _ h => h
      case hw1 => rfl
      case hy1 =>
        intro W hW
        go_simp
        first | done | with_reducible rfl
      case hk1 =>
      try simp only [Act.put, List.setIfInBounds_toArray, List.set_cons_zero, List.set_cons_succ]
      refine anyK_take 1 (oi := ?oo2) ?ho2 (by kernel_rfl) (by kernel_rfl) (by kernel_rfl) (by kernel_rfl) ?hq2 ?hw2 hT0 (fun _ => hS0) (v := ?vv2) ?hy2 ?hk2
      case ho2 => (simp only [List.getElem?_toArray, List.getElem?_cons_succ, List.getElem?_cons_zero]; rfl)
      case hq2 => exact fun _ _ _ h => h
      case hw2 => rfl
      case hy2 =>
        intro W hW
        obtain ⟨z0, z1⟩ := hW
        go_simp
        first | done | with_reducible rfl
      case hk2 =>
      try simp only [Act.put, List.setIfInBounds_toArray, List.set_cons_zero, List.set_cons_succ]
      refine anyK_take 2 (oi := ?oo3) ?ho3 (by kernel_rfl) (by kernel_rfl) (by kernel_rfl) (by kernel_rfl) ?hq3 ?hw3 hT0 (fun _ => hS0) (v := ?vv3) ?hy3 ?hk3
      case ho3 => (simp only [List.getElem?_toArray, List.getElem?_cons_succ, List.getElem?_cons_zero]; rfl)
      case hq3 => exact fun _ _ _ h => h
      case hw3 => rfl
      case hy3 =>
        intro W hW
        go_simp
        first | done | with_reducible rfl
      case hk3 =>
      try simp only [Act.put, List.setIfInBounds_toArray, List.set_cons_zero, List.set_cons_succ]
      refine anyK_take 3 (oi := ?oo4) ?ho4 (by kernel_rfl) (by kernel_rfl) (by kernel_rfl) (by kernel_rfl) ?hq4 ?hw4 hT0 (fun _ => hS0) (v := ?vv4) ?hy4 ?hk4
      case ho4 => (simp only [List.getElem?_toArray, List.getElem?_cons_succ, List.getElem?_cons_zero]; rfl)
      case hq4 => exact fun _ _ _ h => h
      case hw4 => rfl
      case hy4 =>
        intro W hW
        go_simp
        first | done | with_reducible rfl
      case hk4 =>
      try simp only [Act.put, List.setIfInBounds_toArray, List.set_cons_zero, List.set_cons_succ]
      refine anyK_take 4 (oi := ?oo5) ?ho5 (by kernel_rfl) (by kernel_rfl) (by kernel_rfl) (by kernel_rfl) ?hq5 ?hw5 hT0 (fun _ => hS0) (v := ?vv5) ?hy5 ?hk5
      case ho5 => (simp only [List.getElem?_toArray, List.getElem?_cons_succ, List.getElem?_cons_zero]; rfl)
      case hq5 => exact fun _ _ _ h => h
      case hw5 => rfl
      case hy5 =>
        intro W hW
        obtain ⟨z0, z1⟩ := hW
        go_simp
        first | done | with_reducible rfl
      case hk5 =>
      try simp only [Act.put, List.setIfInBounds_toArray, List.set_cons_zero, List.set_cons_succ]
      refine anyK_take 5 (oi := ?oo6) ?ho6 (by kernel_rfl) (by kernel_rfl) (by kernel_rfl) (by kernel_rfl) ?hq6 ?hw6 hT0 (fun _ => hS0) (v := ?vv6) ?hy6 ?hk6
      case ho6 => (simp only [List.getElem?_toArray, List.getElem?_cons_succ, List.getElem?_cons_zero]; rfl)
      case hq6 => exact fun _ _ _ h => h
      case hw6 => rfl
      case hy6 =>
        intro W hW
        go_simp
        first | done | with_reducible rfl
      case hk6 =>
      try simp only [Act.put, List.setIfInBounds_toArray, List.set_cons_zero, List.set_cons_succ]
      refine anyK_take 6 (oi := ?oo7) ?ho7 (by kernel_rfl) (by kernel_rfl) (by kernel_rfl) (by kernel_rfl) ?hq7 ?hw7 hT0 (fun _ => hS0) (v := ?vv7) ?hy7 ?hk7
      case ho7 => (simp only [List.getElem?_toArray, List.getElem?_cons_succ, List.getElem?_cons_zero]; rfl)
      case hq7 => exact fun _ _ _ h => h
      case hw7 => rfl
      case hy7 =>
        intro W hW
        go_simp
        first | done | with_reducible rfl
      case hk7 =>
      try simp only [Act.put, List.setIfInBounds_toArray, List.set_cons_zero, List.set_cons_succ]
      refine anyK_take 7 (oi := ?oo8) ?ho8 (by kernel_rfl) (by kernel_rfl) (by kernel_rfl) (by kernel_rfl) ?hq8 ?hw8 hT0 (fun _ => hS0) (v := ?vv8) ?hy8 ?hk8
      case ho8 => (simp only [List.getElem?_toArray, List.getElem?_cons_succ, List.getElem?_cons_zero]; rfl)
      case hq8 => exact fun _ _ _ h => h
      case hw8 => rfl
      case hy8 =>
        intro W hW
        go_simp
        first | done | with_reducible rfl
      case hk8 =>
      try simp only [Act.put, List.setIfInBounds_toArray, List.set_cons_zero, List.set_cons_succ]
      refine anyK_take 8 (oi := ?oo9) ?ho9 (by kernel_rfl) (by kernel_rfl) (by kernel_rfl) (by kernel_rfl) ?hq9 ?hw9 hT0 (fun _ => hS0) (v := ?vv9) ?hy9 ?hk9
      case ho9 => (simp only [List.getElem?_toArray, List.getElem?_cons_succ, List.getElem?_cons_zero]; rfl)
      case hq9 => exact fun _ _ _ h => h
      case hw9 => rfl
      case hy9 =>
        intro W hW
        obtain ⟨z0, z1⟩ := hW
        go_simp
        first | done | with_reducible rfl
      case hk9 =>
      try simp only [Act.put, List.setIfInBounds_toArray, List.set_cons_zero, List.set_cons_succ]
      refine anyK_take 9 (oi := ?oo10) ?ho10 (by kernel_rfl) (by kernel_rfl) (by kernel_rfl) (by kernel_rfl) ?hq10 ?hw10 hT0 (fun _ => hS0) (v := ?vv10) ?hy10 ?hk10
      case ho10 => (simp only [List.getElem?_toArray, List.getElem?_cons_succ, List.getElem?_cons_zero]; rfl)
      case hq10 => exact fun _ _ _ h => h
      case hw10 => rfl
      case hy10 =>
        intro W hW
        go_simp
        first | done | with_reducible rfl
      case hk10 =>
      try simp only [Act.put, List.setIfInBounds_toArray, List.set_cons_zero, List.set_cons_succ]
      refine anyK_take 10 (oi := ?oo11) ?ho11 (by kernel_rfl) (by kernel_rfl) (by kernel_rfl) (by kernel_rfl) ?hq11 ?hw11 hT0 (fun _ => hS0) (v := ?vv11) ?hy11 ?hk11
      case ho11 => (simp only [List.getElem?_toArray, List.getElem?_cons_succ, List.getElem?_cons_zero]; rfl)
      case hq11 => exact fun _ _ _ h => h
      case hw11 => rfl
      case hy11 =>
        intro W hW
        go_simp
        first | done | with_reducible rfl
      case hk11 =>
      try simp only [Act.put, List.setIfInBounds_toArray, List.set_cons_zero, List.set_cons_succ]
      refine anyK_take 11 (oi := ?oo12) ?ho12 (by kernel_rfl) (by kernel_rfl) (by kernel_rfl) (by kernel_rfl) ?hq12 ?hw12 hT0 (fun _ => hS0) (v := ?vv12) ?hy12 ?hk12
      case ho12 => (simp only [List.getElem?_toArray, List.getElem?_cons_succ, List.getElem?_cons_zero]; rfl)
      case hq12 => exact fun _ _ _ h => h
      case hw12 => rfl
      case hy12 =>
        intro W hW
        go_simp
        first | done | with_reducible rfl
      case hk12 =>
      try simp only [Act.put, List.setIfInBounds_toArray, List.set_cons_zero, List.set_cons_succ]
      refine anyK_take 12 (oi := ?oo13) ?ho13 (by kernel_rfl) (by kernel_rfl) (by kernel_rfl) (by kernel_rfl) ?hq13 ?hw13 hT0 (fun _ => hS0) (v := ?vv13) ?hy13 ?hk13
      case ho13 => (simp only [List.getElem?_toArray, List.getElem?_cons_succ, List.getElem?_cons_zero]; rfl)
      case hq13 => exact fun _ _ _ h => h
      case hw13 => rfl
      case hy13 =>
        intro W hW
        obtain ⟨z0, z1⟩ := hW
        go_simp
        first | done | with_reducible rfl
      case hk13 =>
      try simp only [Act.put, List.setIfInBounds_toArray, List.set_cons_zero, List.set_cons_succ]
      refine anyK_take 13 (oi := ?oo14) ?ho14 (by kernel_rfl) (by kernel_rfl) (by kernel_rfl) (by kernel_rfl) ?hq14 ?hw14 hT0 (fun _ => hS0) (v := ?vv14) ?hy14 ?hk14
      case ho14 => (simp only [List.getElem?_toArray, List.getElem?_cons_succ, List.getElem?_cons_zero]; rfl)
      case hq14 => exact fun _ _ _ h => h
      case hw14 => rfl
      case hy14 =>
        intro W hW
        go_simp
        first | done | with_reducible rfl
      case hk14 =>
      try simp only [Act.put, List.setIfInBounds_toArray, List.set_cons_zero, List.set_cons_succ]
      refine anyK_take 14 (oi := ?oo15) ?ho15 (by kernel_rfl) (by kernel_rfl) (by kernel_rfl) (by kernel_rfl) ?hq15 ?hw15 hT0 (fun _ => hS0) (v := ?vv15) ?hy15 ?hk15
      case ho15 => (simp only [List.getElem?_toArray, List.getElem?_cons_succ, List.getElem?_cons_zero]; rfl)
      case hq15 => exact fun _ _ _ h => h
      case hw15 => rfl
      case hy15 =>
        intro W hW
        go_simp
        first | done | with_reducible rfl
      case hk15 =>
      try simp only [Act.put, List.setIfInBounds_toArray, List.set_cons_zero, List.set_cons_succ]
      refine anyK_take 15 (oi := ?oo16) ?ho16 (by kernel_rfl) (by kernel_rfl) (by kernel_rfl) (by kernel_rfl) ?hq16 ?hw16 hT0 (fun _ => hS0) (v := ?vv16) ?hy16 ?hk16
      case ho16 => (simp only [List.getElem?_toArray, List.getElem?_cons_succ, List.getElem?_cons_zero]; rfl)
      case hq16 => exact fun _ _ _ h => h
      case hw16 => rfl
      case hy16 =>
        intro W hW
        go_simp
        first | done | with_reducible rfl
      case hk16 =>
      try simp only [Act.put, List.setIfInBounds_toArray, List.set_cons_zero, List.set_cons_succ]
      refine anyK_load 16 (oi := ?oo17) ?ho17 (by kernel_rfl) (by kernel_rfl) (by kernel_rfl) (by kernel_rfl) (by kernel_rfl) (by kernel_rfl) ?hq17 ?hw17 hT0 hS0 (v := ?vv17) ?hy17 ?hk17
      case ho17 => (simp only [List.getElem?_toArray, List.getElem?_cons_succ, List.getElem?_cons_zero]; rfl)
      case hq17 => exact fun _ _ _ h => h
      case hw17 => rfl
      case hy17 =>
        intro W hW1 hW
        go_simp
        first | done | with_reducible rfl
      case hk17 =>
      try simp only [Act.put, List.setIfInBounds_toArray, List.set_cons_zero, List.set_cons_succ]
      refine anyK_take 17 (oi := ?oo18) ?ho18 (by kernel_rfl) (by kernel_rfl) (by kernel_rfl) (by kernel_rfl) ?hq18 ?hw18 hT0 (fun _ => hS0) (v := ?vv18) ?hy18 ?hk18
      case ho18 => (simp only [List.getElem?_toArray, List.getElem?_cons_succ, List.getElem?_cons_zero]; rfl)
      case hq18 => exact fun _ _ _ h => h
      case hw18 => rfl
      case hy18 =>
        intro W hW
        go_simp
        first | done | with_reducible rfl
      case hk18 =>
      try simp only [Act.put, List.setIfInBounds_toArray, List.set_cons_zero, List.set_cons_succ]
      refine anyK_take 18 (oi := ?oo19) ?ho19 (by kernel_rfl) (by kernel_rfl) (by kernel_rfl) (by kernel_rfl) ?hq19 ?hw19 hT0 (fun _ => hS0) (v := ?vv19) ?hy19 ?hk19
      case ho19 => (simp only [List.getElem?_toArray, List.getElem?_cons_succ, List.getElem?_cons_zero]; rfl)
      case hq19 => exact fun _ _ _ h => h
      case hw19 => rfl
      case hy19 =>
        intro W hW
        go_simp
        first | done | with_reducible rfl
      case hk19 =>
      try simp only [Act.put, List.setIfInBounds_toArray, List.set_cons_zero, List.set_cons_succ]
      refine anyK_take 19 (oi := ?oo20) ?ho20 (by kernel_rfl) (by kernel_rfl) (by kernel_rfl) (by kernel_rfl) ?hq20 ?hw20 hT0 (fun _ => hS0) (v := ?vv20) ?hy20 ?hk20
      case ho20 => (simp only [List.getElem?_toArray, List.getElem?_cons_succ, List.getElem?_cons_zero]; rfl)
      case hq20 => exact fun _ _ _ h => h
      case hw20 => rfl
      case hy20 =>
        intro W hW
        go_simp
        first | done | with_reducible rfl
      case hk20 =>
      try simp only [Act.put, List.setIfInBounds_toArray, List.set_cons_zero, List.set_cons_succ]
      refine anyK_take 20 (oi := ?oo21) ?ho21 (by kernel_rfl) (by kernel_rfl) (by kernel_rfl) (by kernel_rfl) ?hq21 ?hw21 hT0 (fun _ => hS0) (v := ?vv21) ?hy21 ?hk21
      case ho21 => (simp only [List.getElem?_toArray, List.getElem?_cons_succ, List.getElem?_cons_zero]; rfl)
      case hq21 => exact fun _ _ _ h => h
      case hw21 => rfl
      case hy21 =>
        intro W hW
        go_simp
        first | done | with_reducible rfl
      case hk21 =>
      try simp only [Act.put, List.setIfInBounds_toArray, List.set_cons_zero, List.set_cons_succ]
      refine anyK_take 21 (oi := ?oo22) ?ho22 (by kernel_rfl) (by kernel_rfl) (by kernel_rfl) (by kernel_rfl) ?hq22 ?hw22 hT0 (fun _ => hS0) (v := ?vv22) ?hy22 ?hk22
      case ho22 => (simp only [List.getElem?_toArray, List.getElem?_cons_succ, List.getElem?_cons_zero]; rfl)
      case hq22 => exact fun _ _ _ h => h
      case hw22 => rfl
      case hy22 =>
        intro W hW
        go_simp
        first | done | with_reducible rfl
      case hk22 =>
      try simp only [Act.put, List.setIfInBounds_toArray, List.set_cons_zero, List.set_cons_succ]
      refine anyK_on1 22 (by kernel_rfl) ?_
      refine anyK_one 22 (o := ?oo23) ?ho23 ?hk23
      case ho23 => (simp only [List.getElem?_toArray, List.getElem?_cons_succ, List.getElem?_cons_zero]; rfl)
      case hk23 =>
      intro K hK
      go_simp
      replace yy := And.intro (ext_set yy.1 (p := ⟨g7, j, none⟩) (by show wc.heap.size ≤ g7; have := own_row OW3.out g7 rfl; have := HW1.out; omega) (.int .i64 (z + (1 + r)))) ((K3.out.far (p := ⟨g7, j, none⟩) (by intro h; exact ONE2.out (by rw [h]; rfl)) (.int .i64 (z + (1 + r)))).cell 3)
      have hT1 := keepK.out _ yy
      refine hK.out _ _ hT1 (fun h => by cases h) ?_
      clear hK K
      try simp only [Act.put, List.setIfInBounds_toArray, List.set_cons_zero, List.set_cons_succ]
      refine anyK_done (by kernel_rfl) ?_ _
      clear keepK hT0 hT1
      try clear keepS hS0
      clear yy hcd fB3 hnn
      go_upto_region 15 with fail
      have HB0 := hide (Nat.le_refl 0)
      have IR4 := hide ((IR.out.set_ j (z + (1 + r))).drew)
      have K4 := hide ((K3.out.far (p := ⟨g7, j, none⟩) (by
        intro h
        exact ONE2.out (by rw [h]; rfl)) (.int .i64 (z + (1 + r)))).drew)
      have XW4 : Hid (Ext wc (w3.setCell ⟨g7, j, none⟩ (.int .i64 (z + (1 + r)))).drew) := hide (Below.drew (ext_set XW3.out (p := ⟨g7, j, none⟩) (by show wc.heap.size ≤ g7; have := own_row OW3.out g7 rfl; have := HW1.out; omega) (.int .i64 (z + (1 + r)))))
      have OW4 : Hid ((w3.setCell ⟨g7, j, none⟩ (.int .i64 (z + (1 + r)))).drew.ownsRow w1.heap.size 3 1 (.slice (some ⟨g7, 0, none⟩) y.rs.length c2) y.rs.length ((y.rs.set j (z + (1 + r))).map (Value.int .i64))) := hide (own_put1 (w := w3) (j := j) OW3.out (z + (1 + r)))
      generalize (w3.setCell ⟨g7, j, none⟩ (.int .i64 (z + (1 + r)))).drew = w4 at *
      have g := K4.out.cell
      clear f fz hc hcz
      have KC4 := hide (KC.out.ext XW4.out)
      have CC4 := hide (CC.out.ext XW4.out)
      have ONG : Hid ((Value.slice (some ⟨g7, 0, none⟩) y.rs.length c2).ownBlock ≠ some gc) := hide (own_blk_ne OW4.out KC4.out (by decide))
      obtain ⟨E0, E1, E2, E3, E4, E5, p0, p1, p2, p3, -⟩ : ∃ E0 E1 E2 E3 E4 E5, w4.cell? ⟨gc, K * 4, none⟩ = some (.int .i64 E0) ∧ w4.cell? ⟨gc, K * 4 + 1, none⟩ = some (.int .i64 E1) ∧ w4.cell? ⟨gc, K * 4 + 2, none⟩ = some (.int .i64 E2) ∧ w4.cell? ⟨gc, K * 4 + 3, none⟩ = some (.slice E3 E4 E5) ∧ True := by
        obtain ⟨B, c, a0, a1, a2, a3, -⟩ := CC4.out K y HY.out
        exact ⟨_, _, _, _, _, _, a0, a1, a2, a3, trivial⟩
      have pz := KC4.out.frozen
      go_upto_region 16 with fail
      have XV : Ext w6 ((((w4.setCell ⟨gc, K * 4, none⟩ (.int .i64 y.m.src)).setCell ⟨gc, K * 4 + 1, none⟩ (.int .i64 y.m.dst)).setCell ⟨gc, K * 4 + 2, none⟩ (.int .i64 y.m.piece)).setCell ⟨gc, K * 4 + 3, none⟩ (.slice (some ⟨g7, 0, none⟩) y.rs.length c2)) := (ext_set (ext_set (ext_set (ext_set (ext_trans XC.out XW4.out) (p := ⟨gc, K * 4, none⟩) HGC.out (.int .i64 y.m.src)) (p := ⟨gc, K * 4 + 1, none⟩) HGC.out (.int .i64 y.m.dst)) (p := ⟨gc, K * 4 + 2, none⟩) HGC.out (.int .i64 y.m.piece)) (p := ⟨gc, K * 4 + 3, none⟩) HGC.out (.slice (some ⟨g7, 0, none⟩) y.rs.length c2))
      have OV := (own_set (own_set (own_set (own_set OW4.out (p := ⟨gc, K * 4, none⟩) ONG.out (.int .i64 y.m.src)) (p := ⟨gc, K * 4 + 1, none⟩) ONG.out (.int .i64 y.m.dst)) (p := ⟨gc, K * 4 + 2, none⟩) ONG.out (.int .i64 y.m.piece)) (p := ⟨gc, K * 4 + 3, none⟩) ONG.out (.slice (some ⟨g7, 0, none⟩) y.rs.length c2))
      have CV : CertAt ((((w4.setCell ⟨gc, K * 4, none⟩ (.int .i64 y.m.src)).setCell ⟨gc, K * 4 + 1, none⟩ (.int .i64 y.m.dst)).setCell ⟨gc, K * 4 + 2, none⟩ (.int .i64 y.m.piece)).setCell ⟨gc, K * 4 + 3, none⟩ (.slice (some ⟨g7, 0, none⟩) y.rs.length c2)) (some ⟨gc, 0, none⟩) (L.set K ⟨⟨y.m.src, y.m.dst, y.m.piece⟩, y.rs.set j (z + (1 + r))⟩) := by
        have hl : (y.rs.set j (z + (1 + r))).length = y.rs.length := by simp
        refine CopyAt.put (B := some ⟨g7, 0, none⟩) (c := c2) CC4.out KC4.out HSZ.out HKL.out XV ?_ (cells_ints (own_cells OV).1)
        rw [hl]
      have HFS := flatC_set HY.out ⟨y.m.src, y.m.dst, y.m.piece⟩ (y.rs.set j (z + (1 + r))) (by simp)
      have CV2 := hide (show CertAt ((((w4.setCell ⟨gc, K * 4, none⟩ (.int .i64 y.m.src)).setCell ⟨gc, K * 4 + 1, none⟩ (.int .i64 y.m.dst)).setCell ⟨gc, K * 4 + 2, none⟩ (.int .i64 y.m.piece)).setCell ⟨gc, K * 4 + 3, none⟩ (.slice (some ⟨g7, 0, none⟩) y.rs.length c2)) (some ⟨gc, 0, none⟩) (L.set K ⟨⟨y.m.src, y.m.dst, y.m.piece⟩, y.rs.set j (z + (1 + r))⟩) from CV)
      clear p0 p1 p2 p3 pz CV OV KC4 CC4 K4 XW4 OW4 ONG HB0
      generalize ((((w4.setCell ⟨gc, K * 4, none⟩ (.int .i64 y.m.src)).setCell ⟨gc, K * 4 + 1, none⟩ (.int .i64 y.m.dst)).setCell ⟨gc, K * 4 + 2, none⟩ (.int .i64 y.m.piece)).setCell ⟨gc, K * 4 + 3, none⟩ (.slice (some ⟨g7, 0, none⟩) y.rs.length c2)) = w6 at *
      obtain ⟨hR, hP, kR, kP, X⟩ := HB.out _ XV
      have HC6 := hide (HCK.out (L.set K ⟨⟨y.m.src, y.m.dst, y.m.piece⟩, y.rs.set j (z + (1 + r))⟩) w6 _ _ _ c6 hR hP (by rw [List.length_set]; exact HLL.out.1) (by rw [List.length_set]; exact HLL.out.2.1) (by rw [HFS]; exact HLL.out.2.2) CV2.out)
      rw [List.length_set] at HC6
      have HX6 := hide (And.intro hR (And.intro hP X))
      have KR6 := hide kR
      have KP6 := hide kP
      have fR := kR.cell
      have fP := kP.cell
      clear HCK HFS CV2 XV hR hP kR kP X
      unfold BrkPost at HC6
      go_wp2_with fail
      refine HC6.out.mono ?_
      rintro e w7 ⟨n, q, rfl, hb, x7⟩
      have HR7 := hide (HX6.out.1.ext x7)
      have HP7 := hide (HX6.out.2.1.ext x7)
      have X7 := hide (ext_trans HX6.out.2.2 x7)
      have KR7 := hide (KR6.out.ext x7)
      have KP7 := hide (KP6.out.ext x7)
      have HBQ := hide hb
      clear fR fP HC6 hb x7 HX6 KR6 KP6
      by_cases hq : q = 0
      · subst hq
        by_cases h6 : n ≤ 6
        · have t1 : decide (6 < n) = false := decide_eq_false (by omega)
          obtain ⟨n1, n2⟩ := HBQ.out.2 rfl h6
          have HN2 := hide n2
          have HHN := hide (HH2.out n _ _ _ HR7.out HP7.out)
          have fR := KR7.out.cell
          have fP := KP7.out.cell
          clear n2
          cases hhn : heavyB R P n
          · rw [hhn] at HHN
            have HPF := hide (heavy_perft hhn HCE.out (by omega) (by omega))
            clear hhn
            go_wp2_with fail
            refine HHN.out.mono ?_
            rintro e w8 ⟨rfl, x8⟩
            have HS8 := hide (HSC.out n _ _ _ (HR7.out.ext x8) (HP7.out.ext x8))
            rw [HPF.out, show scoreM R P n = ofM R n.toNat P from if_pos HPF.out] at HS8
            have hw : IntKind.i64.wrap (1000 - n) = 1000 - n := by rw [IntKind.wrap_i64]; omega
            have t2 : decide (1000 - n ≤ ofM R n.toNat P) = true := decide_eq_true HN2.out
            have X8 := hide (ext_trans X7.out x8)
            have KR8 := hide (KR7.out.ext x8)
            have KP8 := hide (KP7.out.ext x8)
            generalize ofM R n.toNat P = s at *
            clear fR fP x8 HHN
            have fR := KR8.out.cell
            have fP := KP8.out.cell
            go_wp2_with fail
            refine HS8.out.mono ?_
            rintro e w9 ⟨rfl, x9⟩
            have X := ext_trans X8.out x9
            clear fR fP x9 HS8
            go_wp2
            go_ret
            exact ⟨by first | rfl | simp, X⟩
          · rw [hhn] at HHN
            clear hhn
            go_wp2_with fail
            refine HHN.out.mono ?_
            rintro e w8 ⟨rfl, x8⟩
            have X := ext_trans X7.out x8
            clear fR fP x8 HHN
            go_wp2
            go_ret
            exact ⟨by first | rfl | simp, X⟩
        · have t1 : decide (6 < n) = true := decide_eq_true (by omega)
          go_wp2
          go_ret
          exact ⟨by first | rfl | simp, X7.out⟩
      · obtain rfl := HBQ.out.1 hq
        have t1 : (q != 0) = true := by simpa using hq
        clear hq HBQ
        go_wp2
        go_ret
        exact ⟨by first | rfl | simp, X7.out⟩
    · have hn0 : y.rs.length = 0 := by omega
      have t9 : decide ((0 : Int) < (y.rs.length : Int)) = false := decide_eq_false (by omega)
      have t8 : decide (0 < y.rs.length) = false := decide_eq_false hn
      clear hn0
      have t0 : (t.tmod 2 == 0) = true := by simpa using he
      go_upto_region 15 with fail
      have HB0 := hide (Nat.le_refl 0)
      have K4 := hide (blk_put (i := 1) (u := .int .i64 (t.tmod 64)) (cs' := #[.int .i64 y.m.src, .int .i64 (t.tmod 64), .int .i64 y.m.piece, .slice A2 y.rs.length c2]) K3.out rfl)
      have XW4 := hide (ext_set XW3.out (p := ⟨BX, 1, none⟩) (by rw [HBE.out]; exact Nat.le_refl _) (.int .i64 (t.tmod 64)))
      have OW4 : Hid ((w3.setCell ⟨BX, 1, none⟩ (.int .i64 (t.tmod 64))).ownsRow w1.heap.size 3 1 (.slice A2 y.rs.length c2) y.rs.length (y.rs.map (Value.int .i64))) := hide (own_set OW3.out (p := ⟨BX, 1, none⟩) ONE2.out _)
      generalize w3.setCell ⟨BX, 1, none⟩ (.int .i64 (t.tmod 64)) = w4 at *
      have g := K4.out.cell
      clear f fz
      have KC4 := hide (KC.out.ext XW4.out)
      have CC4 := hide (CC.out.ext XW4.out)
      have ONG : Hid ((Value.slice A2 y.rs.length c2).ownBlock ≠ some gc) := hide (own_blk_ne OW4.out KC4.out (by decide))
      obtain ⟨E0, E1, E2, E3, E4, E5, p0, p1, p2, p3, -⟩ : ∃ E0 E1 E2 E3 E4 E5, w4.cell? ⟨gc, K * 4, none⟩ = some (.int .i64 E0) ∧ w4.cell? ⟨gc, K * 4 + 1, none⟩ = some (.int .i64 E1) ∧ w4.cell? ⟨gc, K * 4 + 2, none⟩ = some (.int .i64 E2) ∧ w4.cell? ⟨gc, K * 4 + 3, none⟩ = some (.slice E3 E4 E5) ∧ True := by
        obtain ⟨B, c, a0, a1, a2, a3, -⟩ := CC4.out K y HY.out
        exact ⟨_, _, _, _, _, _, a0, a1, a2, a3, trivial⟩
      have pz := KC4.out.frozen
      go_upto_region 16 with fail
      have XV : Ext w6 ((((w4.setCell ⟨gc, K * 4, none⟩ (.int .i64 y.m.src)).setCell ⟨gc, K * 4 + 1, none⟩ (.int .i64 (t.tmod 64))).setCell ⟨gc, K * 4 + 2, none⟩ (.int .i64 y.m.piece)).setCell ⟨gc, K * 4 + 3, none⟩ (.slice A2 y.rs.length c2)) := (ext_set (ext_set (ext_set (ext_set (ext_trans XC.out XW4.out) (p := ⟨gc, K * 4, none⟩) HGC.out (.int .i64 y.m.src)) (p := ⟨gc, K * 4 + 1, none⟩) HGC.out (.int .i64 (t.tmod 64))) (p := ⟨gc, K * 4 + 2, none⟩) HGC.out (.int .i64 y.m.piece)) (p := ⟨gc, K * 4 + 3, none⟩) HGC.out (.slice A2 y.rs.length c2))
      have OV := (own_set (own_set (own_set (own_set OW4.out (p := ⟨gc, K * 4, none⟩) ONG.out (.int .i64 y.m.src)) (p := ⟨gc, K * 4 + 1, none⟩) ONG.out (.int .i64 (t.tmod 64))) (p := ⟨gc, K * 4 + 2, none⟩) ONG.out (.int .i64 y.m.piece)) (p := ⟨gc, K * 4 + 3, none⟩) ONG.out (.slice A2 y.rs.length c2))
      have CV : CertAt ((((w4.setCell ⟨gc, K * 4, none⟩ (.int .i64 y.m.src)).setCell ⟨gc, K * 4 + 1, none⟩ (.int .i64 (t.tmod 64))).setCell ⟨gc, K * 4 + 2, none⟩ (.int .i64 y.m.piece)).setCell ⟨gc, K * 4 + 3, none⟩ (.slice A2 y.rs.length c2)) (some ⟨gc, 0, none⟩) (L.set K ⟨⟨y.m.src, (t.tmod 64), y.m.piece⟩, y.rs⟩) := by
        have hl : (y.rs).length = y.rs.length := by simp
        refine CopyAt.put (B := A2) (c := c2) CC4.out KC4.out HSZ.out HKL.out XV ?_ (cells_ints (own_cells OV).1)
        rw [hl]
      have HFS := flatC_set HY.out ⟨y.m.src, (t.tmod 64), y.m.piece⟩ (y.rs) (by simp)
      have CV2 := hide (show CertAt ((((w4.setCell ⟨gc, K * 4, none⟩ (.int .i64 y.m.src)).setCell ⟨gc, K * 4 + 1, none⟩ (.int .i64 (t.tmod 64))).setCell ⟨gc, K * 4 + 2, none⟩ (.int .i64 y.m.piece)).setCell ⟨gc, K * 4 + 3, none⟩ (.slice A2 y.rs.length c2)) (some ⟨gc, 0, none⟩) (L.set K ⟨⟨y.m.src, (t.tmod 64), y.m.piece⟩, y.rs⟩) from CV)
      clear p0 p1 p2 p3 pz CV OV KC4 CC4 K4 XW4 OW4 ONG HB0
      generalize ((((w4.setCell ⟨gc, K * 4, none⟩ (.int .i64 y.m.src)).setCell ⟨gc, K * 4 + 1, none⟩ (.int .i64 (t.tmod 64))).setCell ⟨gc, K * 4 + 2, none⟩ (.int .i64 y.m.piece)).setCell ⟨gc, K * 4 + 3, none⟩ (.slice A2 y.rs.length c2)) = w6 at *
      obtain ⟨hR, hP, kR, kP, X⟩ := HB.out _ XV
      have HC6 := hide (HCK.out (L.set K ⟨⟨y.m.src, (t.tmod 64), y.m.piece⟩, y.rs⟩) w6 _ _ _ c6 hR hP (by rw [List.length_set]; exact HLL.out.1) (by rw [List.length_set]; exact HLL.out.2.1) (by rw [HFS]; exact HLL.out.2.2) CV2.out)
      rw [List.length_set] at HC6
      have HX6 := hide (And.intro hR (And.intro hP X))
      have KR6 := hide kR
      have KP6 := hide kP
      have fR := kR.cell
      have fP := kP.cell
      clear HCK HFS CV2 XV hR hP kR kP X
      unfold BrkPost at HC6
      go_wp2_with fail
      refine HC6.out.mono ?_
      rintro e w7 ⟨n, q, rfl, hb, x7⟩
      have HR7 := hide (HX6.out.1.ext x7)
      have HP7 := hide (HX6.out.2.1.ext x7)
      have X7 := hide (ext_trans HX6.out.2.2 x7)
      have KR7 := hide (KR6.out.ext x7)
      have KP7 := hide (KP6.out.ext x7)
      have HBQ := hide hb
      clear fR fP HC6 hb x7 HX6 KR6 KP6
      by_cases hq : q = 0
      · subst hq
        by_cases h6 : n ≤ 6
        · have t1 : decide (6 < n) = false := decide_eq_false (by omega)
          obtain ⟨n1, n2⟩ := HBQ.out.2 rfl h6
          have HN2 := hide n2
          have HHN := hide (HH2.out n _ _ _ HR7.out HP7.out)
          have fR := KR7.out.cell
          have fP := KP7.out.cell
          clear n2
          cases hhn : heavyB R P n
          · rw [hhn] at HHN
            have HPF := hide (heavy_perft hhn HCE.out (by omega) (by omega))
            clear hhn
            go_wp2_with fail
            refine HHN.out.mono ?_
            rintro e w8 ⟨rfl, x8⟩
            have HS8 := hide (HSC.out n _ _ _ (HR7.out.ext x8) (HP7.out.ext x8))
            rw [HPF.out, show scoreM R P n = ofM R n.toNat P from if_pos HPF.out] at HS8
            have hw : IntKind.i64.wrap (1000 - n) = 1000 - n := by rw [IntKind.wrap_i64]; omega
            have t2 : decide (1000 - n ≤ ofM R n.toNat P) = true := decide_eq_true HN2.out
            have X8 := hide (ext_trans X7.out x8)
            have KR8 := hide (KR7.out.ext x8)
            have KP8 := hide (KP7.out.ext x8)
            generalize ofM R n.toNat P = s at *
            clear fR fP x8 HHN
            have fR := KR8.out.cell
            have fP := KP8.out.cell
            go_wp2_with fail
            refine HS8.out.mono ?_
            rintro e w9 ⟨rfl, x9⟩
            have X := ext_trans X8.out x9
            clear fR fP x9 HS8
            go_wp2
            go_ret
            exact ⟨by first | rfl | simp, X⟩
          · rw [hhn] at HHN
            clear hhn
            go_wp2_with fail
            refine HHN.out.mono ?_
            rintro e w8 ⟨rfl, x8⟩
            have X := ext_trans X7.out x8
            clear fR fP x8 HHN
            go_wp2
            go_ret
            exact ⟨by first | rfl | simp, X⟩
        · have t1 : decide (6 < n) = true := decide_eq_true (by omega)
          go_wp2
          go_ret
          exact ⟨by first | rfl | simp, X7.out⟩
      · obtain rfl := HBQ.out.1 hq
        have t1 : (q != 0) = true := by simpa using hq
        clear hq HBQ
        go_wp2
        go_ret
        exact ⟨by first | rfl | simp, X7.out⟩
  · skip
    have t0 : (t.tmod 2 == 0) = false := by simpa using he
    go_upto_region 15 with fail
    have HB0 := hide (Nat.le_refl 0)
    have K4 := hide (blk_put (i := 1) (u := .int .i64 (t.tmod 64)) (cs' := #[.int .i64 y.m.src, .int .i64 (t.tmod 64), .int .i64 y.m.piece, .slice A2 y.rs.length c2]) K3.out rfl)
    have XW4 := hide (ext_set XW3.out (p := ⟨BX, 1, none⟩) (by rw [HBE.out]; exact Nat.le_refl _) (.int .i64 (t.tmod 64)))
    have OW4 : Hid ((w3.setCell ⟨BX, 1, none⟩ (.int .i64 (t.tmod 64))).ownsRow w1.heap.size 3 1 (.slice A2 y.rs.length c2) y.rs.length (y.rs.map (Value.int .i64))) := hide (own_set OW3.out (p := ⟨BX, 1, none⟩) ONE2.out _)
    generalize w3.setCell ⟨BX, 1, none⟩ (.int .i64 (t.tmod 64)) = w4 at *
    have g := K4.out.cell
    clear f fz
    have KC4 := hide (KC.out.ext XW4.out)
    have CC4 := hide (CC.out.ext XW4.out)
    have ONG : Hid ((Value.slice A2 y.rs.length c2).ownBlock ≠ some gc) := hide (own_blk_ne OW4.out KC4.out (by decide))
    obtain ⟨E0, E1, E2, E3, E4, E5, p0, p1, p2, p3, -⟩ : ∃ E0 E1 E2 E3 E4 E5, w4.cell? ⟨gc, K * 4, none⟩ = some (.int .i64 E0) ∧ w4.cell? ⟨gc, K * 4 + 1, none⟩ = some (.int .i64 E1) ∧ w4.cell? ⟨gc, K * 4 + 2, none⟩ = some (.int .i64 E2) ∧ w4.cell? ⟨gc, K * 4 + 3, none⟩ = some (.slice E3 E4 E5) ∧ True := by
      obtain ⟨B, c, a0, a1, a2, a3, -⟩ := CC4.out K y HY.out
      exact ⟨_, _, _, _, _, _, a0, a1, a2, a3, trivial⟩
    have pz := KC4.out.frozen
    go_upto_region 16 with fail
    have XV : Ext w6 ((((w4.setCell ⟨gc, K * 4, none⟩ (.int .i64 y.m.src)).setCell ⟨gc, K * 4 + 1, none⟩ (.int .i64 (t.tmod 64))).setCell ⟨gc, K * 4 + 2, none⟩ (.int .i64 y.m.piece)).setCell ⟨gc, K * 4 + 3, none⟩ (.slice A2 y.rs.length c2)) := (ext_set (ext_set (ext_set (ext_set (ext_trans XC.out XW4.out) (p := ⟨gc, K * 4, none⟩) HGC.out (.int .i64 y.m.src)) (p := ⟨gc, K * 4 + 1, none⟩) HGC.out (.int .i64 (t.tmod 64))) (p := ⟨gc, K * 4 + 2, none⟩) HGC.out (.int .i64 y.m.piece)) (p := ⟨gc, K * 4 + 3, none⟩) HGC.out (.slice A2 y.rs.length c2))
    have OV := (own_set (own_set (own_set (own_set OW4.out (p := ⟨gc, K * 4, none⟩) ONG.out (.int .i64 y.m.src)) (p := ⟨gc, K * 4 + 1, none⟩) ONG.out (.int .i64 (t.tmod 64))) (p := ⟨gc, K * 4 + 2, none⟩) ONG.out (.int .i64 y.m.piece)) (p := ⟨gc, K * 4 + 3, none⟩) ONG.out (.slice A2 y.rs.length c2))
    have CV : CertAt ((((w4.setCell ⟨gc, K * 4, none⟩ (.int .i64 y.m.src)).setCell ⟨gc, K * 4 + 1, none⟩ (.int .i64 (t.tmod 64))).setCell ⟨gc, K * 4 + 2, none⟩ (.int .i64 y.m.piece)).setCell ⟨gc, K * 4 + 3, none⟩ (.slice A2 y.rs.length c2)) (some ⟨gc, 0, none⟩) (L.set K ⟨⟨y.m.src, (t.tmod 64), y.m.piece⟩, y.rs⟩) := by
      have hl : (y.rs).length = y.rs.length := by simp
      refine CopyAt.put (B := A2) (c := c2) CC4.out KC4.out HSZ.out HKL.out XV ?_ (cells_ints (own_cells OV).1)
      rw [hl]
    have HFS := flatC_set HY.out ⟨y.m.src, (t.tmod 64), y.m.piece⟩ (y.rs) (by simp)
    have CV2 := hide (show CertAt ((((w4.setCell ⟨gc, K * 4, none⟩ (.int .i64 y.m.src)).setCell ⟨gc, K * 4 + 1, none⟩ (.int .i64 (t.tmod 64))).setCell ⟨gc, K * 4 + 2, none⟩ (.int .i64 y.m.piece)).setCell ⟨gc, K * 4 + 3, none⟩ (.slice A2 y.rs.length c2)) (some ⟨gc, 0, none⟩) (L.set K ⟨⟨y.m.src, (t.tmod 64), y.m.piece⟩, y.rs⟩) from CV)
    clear p0 p1 p2 p3 pz CV OV KC4 CC4 K4 XW4 OW4 ONG HB0
    generalize ((((w4.setCell ⟨gc, K * 4, none⟩ (.int .i64 y.m.src)).setCell ⟨gc, K * 4 + 1, none⟩ (.int .i64 (t.tmod 64))).setCell ⟨gc, K * 4 + 2, none⟩ (.int .i64 y.m.piece)).setCell ⟨gc, K * 4 + 3, none⟩ (.slice A2 y.rs.length c2)) = w6 at *
    obtain ⟨hR, hP, kR, kP, X⟩ := HB.out _ XV
    have HC6 := hide (HCK.out (L.set K ⟨⟨y.m.src, (t.tmod 64), y.m.piece⟩, y.rs⟩) w6 _ _ _ c6 hR hP (by rw [List.length_set]; exact HLL.out.1) (by rw [List.length_set]; exact HLL.out.2.1) (by rw [HFS]; exact HLL.out.2.2) CV2.out)
    rw [List.length_set] at HC6
    have HX6 := hide (And.intro hR (And.intro hP X))
    have KR6 := hide kR
    have KP6 := hide kP
    have fR := kR.cell
    have fP := kP.cell
    clear HCK HFS CV2 XV hR hP kR kP X
    unfold BrkPost at HC6
    go_wp2_with fail
    refine HC6.out.mono ?_
    rintro e w7 ⟨n, q, rfl, hb, x7⟩
    have HR7 := hide (HX6.out.1.ext x7)
    have HP7 := hide (HX6.out.2.1.ext x7)
    have X7 := hide (ext_trans HX6.out.2.2 x7)
    have KR7 := hide (KR6.out.ext x7)
    have KP7 := hide (KP6.out.ext x7)
    have HBQ := hide hb
    clear fR fP HC6 hb x7 HX6 KR6 KP6
    by_cases hq : q = 0
    · subst hq
      by_cases h6 : n ≤ 6
      · have t1 : decide (6 < n) = false := decide_eq_false (by omega)
        obtain ⟨n1, n2⟩ := HBQ.out.2 rfl h6
        have HN2 := hide n2
        have HHN := hide (HH2.out n _ _ _ HR7.out HP7.out)
        have fR := KR7.out.cell
        have fP := KP7.out.cell
        clear n2
        cases hhn : heavyB R P n
        · rw [hhn] at HHN
          have HPF := hide (heavy_perft hhn HCE.out (by omega) (by omega))
          clear hhn
          go_wp2_with fail
          refine HHN.out.mono ?_
          rintro e w8 ⟨rfl, x8⟩
          have HS8 := hide (HSC.out n _ _ _ (HR7.out.ext x8) (HP7.out.ext x8))
          rw [HPF.out, show scoreM R P n = ofM R n.toNat P from if_pos HPF.out] at HS8
          have hw : IntKind.i64.wrap (1000 - n) = 1000 - n := by rw [IntKind.wrap_i64]; omega
          have t2 : decide (1000 - n ≤ ofM R n.toNat P) = true := decide_eq_true HN2.out
          have X8 := hide (ext_trans X7.out x8)
          have KR8 := hide (KR7.out.ext x8)
          have KP8 := hide (KP7.out.ext x8)
          generalize ofM R n.toNat P = s at *
          clear fR fP x8 HHN
          have fR := KR8.out.cell
          have fP := KP8.out.cell
          go_wp2_with fail
          refine HS8.out.mono ?_
          rintro e w9 ⟨rfl, x9⟩
          have X := ext_trans X8.out x9
          clear fR fP x9 HS8
          go_wp2
          go_ret
          exact ⟨by first | rfl | simp, X⟩
        · rw [hhn] at HHN
          clear hhn
          go_wp2_with fail
          refine HHN.out.mono ?_
          rintro e w8 ⟨rfl, x8⟩
          have X := ext_trans X7.out x8
          clear fR fP x8 HHN
          go_wp2
          go_ret
          exact ⟨by first | rfl | simp, X⟩
      · have t1 : decide (6 < n) = true := decide_eq_true (by omega)
        go_wp2
        go_ret
        exact ⟨by first | rfl | simp, X7.out⟩
    · obtain rfl := HBQ.out.1 hq
      have t1 : (q != 0) = true := by simpa using hq
      clear hq HBQ
      go_wp2
      go_ret
      exact ⟨by first | rfl | simp, X7.out⟩
theorem certBreaks_law (v : Value) (R : RulesM) (u : Value) (P : PosM) (D a t : Int) (w : World) (hR : RulesAt w v R) (hP : PosAt w u P) :
    Calls Try.prog 11 #[v, u, .int .i64 D, .int .i64 a, .int .i64 t] w fun e w' => e = .returned (.bool true) ∧ Ext w w' := by
  cases hh : heavyB R P D
  · by_cases h0 : makeE R P D = 0
    · exact certBreaks_yes R P v u D a t w hR hP hh h0
    · exact certBreaks_no R P v u D a t w hR hP hh h0
  · exact certBreaks_heavy R P v u D a t w hR hP hh

end Go.Proofs.Ytfkcigekbgkcmaa
