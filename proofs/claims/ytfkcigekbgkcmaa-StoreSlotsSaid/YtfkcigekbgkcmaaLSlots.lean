/- Walk: the law StoreSlots. -/
import Derived.Test.YtfkcigekbgkcmaaStoreD
import Derived.Test.YtfkcigekbgkcmaaGKeyed
import Derived.Test.YtfkcigekbgkcmaaGSmall
namespace Go.Proofs.Ytfkcigekbgkcmaa
open Go.ChangeShapes Go.WideShapes Go.ChangeAt Go.RowKit Go.Shelf
set_option linter.unusedVariables false
set_option linter.unusedSimpArgs false
theorem keyM_mod (P : PosM) {n : Nat} (h : 0 < n) : (keyM P).tmod (n : Int) = ((slotI P n : Nat) : Int) := by
  have hb := keyM_bd P
  rw [Int.tmod_eq_emod_of_nonneg hb.1]
  have := Int.emod_nonneg (keyM P) (show (n : Int) ≠ 0 by omega)
  unfold slotI
  omega
theorem slot_mod (n : Int) (hn : 1 ≤ n) (hb : n ≤ 1000) (a K : Int) (h : (wrap64 (a.tmod n + n)).tmod n = K) : 0 ≤ K ∧ K < n := by
  obtain ⟨h1, h2, h3, h4⟩ := some_idx (n := a) (l := n) hn
  have e : wrap64 (a.tmod n + n) = a.tmod n + n := by unfold wrap64; omega
  rw [e] at h
  omega
set_option maxHeartbeats 8000000 in
set_option maxRecDepth 100000 in
theorem storeSlots_no (R : RulesM) (P Q : PosM) (v u u2 : Value) (a b s : Int) (w : World) (hR : RulesAt w v R) (hP : PosAt w u P) (hQ : PosAt w u2 Q) (k : Nat) (hK : (wrap64 (s.tmod 7 + 7)).tmod 7 = (k : Int)) (k1 : k < 7) (he : rulesE R ≠ 0) :
    Calls Try.prog 13 #[v, u, u2, .int .i64 a, .int .i64 b, .int .i64 s] w fun e w' => e = .returned (.bool true) ∧ Ext w w' := by
  have HN := hide (fun W (v1 : Value) (h1 : RulesAt W v1 R) => sNew_no R v1 ((k : Int) + 1) W h1 he)
  have hwk : IntKind.i64.wrap ((k : Int) + 1) = (k : Int) + 1 := by rw [IntKind.wrap_i64]; omega
  have k0 : (0 : Int) ≤ (k : Int) := by omega
  have k2 : (k : Int) < 7 := by omega
  have t0 : (rulesE R != 0) = true := by simpa using he
  clear he
  generalize rulesE R = E at *
  have hR0 := hR
  have hP0 := hP
  have hQ0 := hQ
  obtain ⟨pA, pc, sA, sc, eA, ec, rfl, -⟩ := hR0
  obtain ⟨cA, cc, aA, ac, bA, bc, rfl, -⟩ := hP0
  obtain ⟨dA, dc, xA, xc, yA, yc, rfl, -⟩ := hQ0
  go_enter Try.func13, Try.ntmps13
  go_wp2_with fail
  obtain ⟨xa, kR, kP, kQ⟩ := blks3 w #[.string R.name, .int .i64 R.width, .int .i64 R.height, .slice pA R.pieces.length pc, .slice sA R.start.length sc, .bool R.falls, .bool R.keeps, .slice eA R.ends.length ec, .int .i64 R.blocked, .int .i64 R.quiet, .int .i64 R.rept] 26 #[.slice cA P.cells.length cc, .slice aA P.hand0.length ac, .slice bA P.hand1.length bc, .int .i64 P.turn, .int .i64 P.quiet] 29 #[.slice dA Q.cells.length dc, .slice xA Q.hand0.length xc, .slice yA Q.hand1.length yc, .int .i64 Q.turn, .int .i64 Q.quiet] 29
  replace hR := hR.ext xa
  replace hP := hP.ext xa
  replace hQ := hQ.ext xa
  have X := xa
  clear xa
  generalize (((w.alloc (.cells #[.string R.name, .int .i64 R.width, .int .i64 R.height, .slice pA R.pieces.length pc, .slice sA R.start.length sc, .bool R.falls, .bool R.keeps, .slice eA R.ends.length ec, .int .i64 R.blocked, .int .i64 R.quiet, .int .i64 R.rept] 26)).alloc (.cells #[.slice cA P.cells.length cc, .slice aA P.hand0.length ac, .slice bA P.hand1.length bc, .int .i64 P.turn, .int .i64 P.quiet] 29)).alloc (.cells #[.slice dA Q.cells.length dc, .slice xA Q.hand0.length xc, .slice yA Q.hand1.length yc, .int .i64 Q.turn, .int .i64 Q.quiet] 29)) = w2 at *
  generalize w.heap.size + 1 + 1 = BQ at *
  generalize w.heap.size + 1 = BP at *
  generalize w.heap.size = BR at *
  refine (stored_any _).mono ?_
  rintro e w3 ⟨rfl, x⟩
  replace hR := hR.ext x
  replace hP := hP.ext x
  replace hQ := hQ.ext x
  replace kR := kR.ext x
  replace kP := kP.ext x
  replace kQ := kQ.ext x
  replace X := ext_trans X x
  clear x
  go_wp2_with fail
  refine (keyed_any _).mono ?_
  rintro e w4 ⟨rfl, x⟩
  replace hR := hR.ext x
  replace hP := hP.ext x
  replace hQ := hQ.ext x
  replace kR := kR.ext x
  replace kP := kP.ext x
  replace kQ := kQ.ext x
  replace X := ext_trans X x
  clear x
  have fR := kR.cell
  go_wp2_with fail
  refine (HN.out _ _ hR).mono ?_
  rintro e w5 ⟨rfl, x⟩
  replace hR := hR.ext x
  replace hP := hP.ext x
  replace hQ := hQ.ext x
  replace kR := kR.ext x
  replace kP := kP.ext x
  replace kQ := kQ.ext x
  replace X := ext_trans X x
  replace fR := kR.cell
  clear x
  clear fR
  go_wp2
  all_goals go_ret
  all_goals exact ⟨by first | rfl | simp, X⟩
set_option maxHeartbeats 8000000 in
set_option maxRecDepth 100000 in
theorem storeSlots_pbad (R : RulesM) (P Q : PosM) (v u u2 : Value) (a b s : Int) (w : World) (hR : RulesAt w v R) (hP : PosAt w u P) (hQ : PosAt w u2 Q) (k : Nat) (hK : (wrap64 (s.tmod 7 + 7)).tmod 7 = (k : Int)) (k1 : k < 7) (hV : Valid R) (hp : chkE R P a ≠ 0) :
    Calls Try.prog 13 #[v, u, u2, .int .i64 a, .int .i64 b, .int .i64 s] w fun e w' => e = .returned (.bool true) ∧ Ext w w' := by
  have HN := hide (fun W (v1 : Value) (h1 : RulesAt W v1 R) => sNew_yes R v1 (k + 1) W h1 hV (by omega) (by omega))
  rw [show ((k + 1 : Nat) : Int) = (k : Int) + 1 from by omega] at HN
  unfold SNewPost at HN
  have hwk : IntKind.i64.wrap ((k : Int) + 1) = (k : Int) + 1 := by rw [IntKind.wrap_i64]; omega
  have k0 : (0 : Int) ≤ (k : Int) := by omega
  have k2 : (k : Int) < 7 := by omega
  have HL1 : Hid (0 < (List.replicate (k + 1) (none : Option SlotM)).length ∧ (List.replicate (k + 1) (none : Option SlotM)).length ≤ 4096) := hide (by rw [List.length_replicate]; omega)
  have HSS0 := hide (soundS_new R (k + 1))
  have HRL : Hid (∀ L : List (Option SlotM), L.length = k + 1 → 0 < L.length ∧ L.length ≤ 4096) := hide (fun L h => by omega)
  have HFZ : Hid (allZero [checkE R P, checkE R Q, chkE R P a] = false) := hide (by simp [allZero]; intro _ _; exact hp)
  have HPN := hide hp
  clear hp
  obtain ⟨kp, hkp⟩ : ∃ z, (if checkE R P = 0 then keyM P else 0) = z := ⟨_, rfl⟩
  have HKP := hide hkp
  clear hkp
  obtain ⟨kq, hkq⟩ : ∃ z, (if checkE R Q = 0 then keyM Q else 0) = z := ⟨_, rfl⟩
  have HKQ := hide hkq
  clear hkq
  have hR0 := hR
  have hP0 := hP
  have hQ0 := hQ
  obtain ⟨pA, pc, sA, sc, eA, ec, rfl, -⟩ := hR0
  obtain ⟨cA, cc, aA, ac, bA, bc, rfl, -⟩ := hP0
  obtain ⟨dA, dc, xA, xc, yA, yc, rfl, -⟩ := hQ0
  go_enter Try.func13, Try.ntmps13
  go_wp2_with fail
  obtain ⟨xa, kR, kP, kQ⟩ := blks3 w #[.string R.name, .int .i64 R.width, .int .i64 R.height, .slice pA R.pieces.length pc, .slice sA R.start.length sc, .bool R.falls, .bool R.keeps, .slice eA R.ends.length ec, .int .i64 R.blocked, .int .i64 R.quiet, .int .i64 R.rept] 26 #[.slice cA P.cells.length cc, .slice aA P.hand0.length ac, .slice bA P.hand1.length bc, .int .i64 P.turn, .int .i64 P.quiet] 29 #[.slice dA Q.cells.length dc, .slice xA Q.hand0.length xc, .slice yA Q.hand1.length yc, .int .i64 Q.turn, .int .i64 Q.quiet] 29
  replace hR := hR.ext xa
  replace hP := hP.ext xa
  replace hQ := hQ.ext xa
  have X := xa
  clear xa
  generalize (((w.alloc (.cells #[.string R.name, .int .i64 R.width, .int .i64 R.height, .slice pA R.pieces.length pc, .slice sA R.start.length sc, .bool R.falls, .bool R.keeps, .slice eA R.ends.length ec, .int .i64 R.blocked, .int .i64 R.quiet, .int .i64 R.rept] 26)).alloc (.cells #[.slice cA P.cells.length cc, .slice aA P.hand0.length ac, .slice bA P.hand1.length bc, .int .i64 P.turn, .int .i64 P.quiet] 29)).alloc (.cells #[.slice dA Q.cells.length dc, .slice xA Q.hand0.length xc, .slice yA Q.hand1.length yc, .int .i64 Q.turn, .int .i64 Q.quiet] 29)) = w2 at *
  generalize w.heap.size + 1 + 1 = BQ at *
  generalize w.heap.size + 1 = BP at *
  generalize w.heap.size = BR at *
  refine (stored_any _).mono ?_
  rintro e w3 ⟨rfl, x⟩
  replace hR := hR.ext x
  replace hP := hP.ext x
  replace hQ := hQ.ext x
  replace kR := kR.ext x
  replace kP := kP.ext x
  replace kQ := kQ.ext x
  replace X := ext_trans X x
  clear x
  go_wp2_with fail
  refine (keyed_any _).mono ?_
  rintro e w4 ⟨rfl, x⟩
  replace hR := hR.ext x
  replace hP := hP.ext x
  replace hQ := hQ.ext x
  replace kR := kR.ext x
  replace kP := kP.ext x
  replace kQ := kQ.ext x
  replace X := ext_trans X x
  clear x
  have fR := kR.cell
  go_wp2_with fail
  have HF := hide (fun W (h : Ext w4 W) => And.intro (hR.ext h) (And.intro (hP.ext h) (And.intro (hQ.ext h) (And.intro (kR.ext h) (And.intro (kP.ext h) (And.intro (kQ.ext h) (ext_trans X h)))))))
  have HR0 := hide hR
  clear fR
  clear hR hP hQ kR kP kQ X
  have HN2 := hide (HN.out _ _ HR0.out)
  clear HN HR0
  obtain ⟨hR, hP, hQ, kR, kP, kQ, X⟩ := HF.out _ (Below.refl _ _)
  have fR := kR.cell
  go_wp2_with fail
  refine HN2.out.mono ?_
  rintro e wS0 ⟨BS, g, rfl, st⟩
  have S0 := hide st
  clear st HN2 hR hP hQ kR kP kQ X fR
  obtain ⟨hR, hP, hQ, kR, kP, kQ, X⟩ := HF.out _ S0.out.old
  have fR := kR.cell
  have fP := kP.cell
  have fQ := kQ.cell
  have HC0 := hide (Key_any R P _ _ _ hR hP)
  rw [HKP.out] at HC0
  go_wp2_with fail
  refine HC0.out.mono ?_
  rintro e wS1 ⟨rfl, x⟩
  have S1 := hide (S0.out.ext x)
  clear hR hP hQ kR kP kQ X fR fP fQ HC0
  try clear x
  try clear st fr
  clear S0
  obtain ⟨hR, hP, hQ, kR, kP, kQ, X⟩ := HF.out _ S1.out.old
  have fR := kR.cell
  have fP := kP.cell
  have fQ := kQ.cell
  have HC1 := hide (Key_any R Q _ _ _ hR hQ)
  rw [HKQ.out] at HC1
  go_wp2_with fail
  refine HC1.out.mono ?_
  rintro e wS2 ⟨rfl, x⟩
  have S2 := hide (S1.out.ext x)
  clear hR hP hQ kR kP kQ X fR fP fQ HC1
  try clear x
  try clear st fr
  clear S1
  obtain ⟨hR, hP, hQ, kR, kP, kQ, X⟩ := HF.out _ S2.out.old
  have fR := kR.cell
  have fP := kP.cell
  have fQ := kQ.cell
  have HC2 := hide (sPut_no (s := 3) S2.out HL1.out.1 HL1.out.2 hP HPN.out)
  go_wp2_with fail
  refine HC2.out.mono ?_
  rintro e wS3 ⟨rfl, x⟩
  have S3 := hide (S2.out.ext x)
  clear hR hP hQ kR kP kQ X fR fP fQ HC2
  try clear x
  try clear st fr
  clear S2
  obtain ⟨hR, hP, hQ, kR, kP, kQ, X⟩ := HF.out _ S3.out.old
  have fR := kR.cell
  have fP := kP.cell
  have fQ := kQ.cell
  clear hR hP hQ kR kP kQ X fR fP fQ
  obtain ⟨xe, kE⟩ := blks1 wS3 #[.int .i64 (checkE R P), .int .i64 (checkE R Q), .int .i64 (chkE R P a)] 32
  have SE3 := hide (S3.out.ext xe)
  have KE := hide kE
  clear xe kE
  go_wp2_with fail
  have HC3 := hide (fine_ext (fine_any (some ⟨wS3.heap.size, 0, none⟩) 3 3 [checkE R P, checkE R Q, chkE R P a] _ rfl (by omega) (blk_ints KE.out)))
  rw [show allZero [checkE R P, checkE R Q, chkE R P a] = false from HFZ.out] at HC3
  refine HC3.out.mono ?_
  rintro e wS4 ⟨rfl, x⟩
  have S4 := hide (SE3.out.ext x)
  clear x HC3 KE SE3 S3
  obtain ⟨hR, hP, hQ, kR, kP, kQ, X⟩ := HF.out _ S4.out.old
  have X9 := hide X
  clear hR hP hQ kR kP kQ X
  go_wp2
  all_goals go_ret
  all_goals exact ⟨by first | rfl | simp, X9.out⟩
set_option maxHeartbeats 8000000 in
set_option maxRecDepth 100000 in
theorem storeSlots_qbad (R : RulesM) (P Q : PosM) (v u u2 : Value) (a b s : Int) (w : World) (hR : RulesAt w v R) (hP : PosAt w u P) (hQ : PosAt w u2 Q) (k : Nat) (hK : (wrap64 (s.tmod 7 + 7)).tmod 7 = (k : Int)) (k1 : k < 7) (hV : Valid R) (hp : chkE R P a = 0) (hq : checkE R Q ≠ 0) :
    Calls Try.prog 13 #[v, u, u2, .int .i64 a, .int .i64 b, .int .i64 s] w fun e w' => e = .returned (.bool true) ∧ Ext w w' := by
  have HN := hide (fun W (v1 : Value) (h1 : RulesAt W v1 R) => sNew_yes R v1 (k + 1) W h1 hV (by omega) (by omega))
  rw [show ((k + 1 : Nat) : Int) = (k : Int) + 1 from by omega] at HN
  unfold SNewPost at HN
  have hwk : IntKind.i64.wrap ((k : Int) + 1) = (k : Int) + 1 := by rw [IntKind.wrap_i64]; omega
  have k0 : (0 : Int) ≤ (k : Int) := by omega
  have k2 : (k : Int) < 7 := by omega
  have HL1 : Hid (0 < (List.replicate (k + 1) (none : Option SlotM)).length ∧ (List.replicate (k + 1) (none : Option SlotM)).length ≤ 4096) := hide (by rw [List.length_replicate]; omega)
  have HSS0 := hide (soundS_new R (k + 1))
  have HRL : Hid (∀ L : List (Option SlotM), L.length = k + 1 → 0 < L.length ∧ L.length ≤ 4096) := hide (fun L h => by omega)
  have HPA := hide hp
  obtain ⟨hcP, -, -⟩ := chk_zero hp
  have HCP := hide hcP
  clear hp hcP
  have HFZ : Hid (allZero [0, checkE R Q, 0] = false) := hide (by simp [allZero]; exact hq)
  clear hq
  obtain ⟨kq, hkq⟩ : ∃ z, (if checkE R Q = 0 then keyM Q else 0) = z := ⟨_, rfl⟩
  have HKQ := hide hkq
  clear hkq
  have hR0 := hR
  have hP0 := hP
  have hQ0 := hQ
  obtain ⟨pA, pc, sA, sc, eA, ec, rfl, -⟩ := hR0
  obtain ⟨cA, cc, aA, ac, bA, bc, rfl, -⟩ := hP0
  obtain ⟨dA, dc, xA, xc, yA, yc, rfl, -⟩ := hQ0
  go_enter Try.func13, Try.ntmps13
  go_wp2_with fail
  obtain ⟨xa, kR, kP, kQ⟩ := blks3 w #[.string R.name, .int .i64 R.width, .int .i64 R.height, .slice pA R.pieces.length pc, .slice sA R.start.length sc, .bool R.falls, .bool R.keeps, .slice eA R.ends.length ec, .int .i64 R.blocked, .int .i64 R.quiet, .int .i64 R.rept] 26 #[.slice cA P.cells.length cc, .slice aA P.hand0.length ac, .slice bA P.hand1.length bc, .int .i64 P.turn, .int .i64 P.quiet] 29 #[.slice dA Q.cells.length dc, .slice xA Q.hand0.length xc, .slice yA Q.hand1.length yc, .int .i64 Q.turn, .int .i64 Q.quiet] 29
  replace hR := hR.ext xa
  replace hP := hP.ext xa
  replace hQ := hQ.ext xa
  have X := xa
  clear xa
  generalize (((w.alloc (.cells #[.string R.name, .int .i64 R.width, .int .i64 R.height, .slice pA R.pieces.length pc, .slice sA R.start.length sc, .bool R.falls, .bool R.keeps, .slice eA R.ends.length ec, .int .i64 R.blocked, .int .i64 R.quiet, .int .i64 R.rept] 26)).alloc (.cells #[.slice cA P.cells.length cc, .slice aA P.hand0.length ac, .slice bA P.hand1.length bc, .int .i64 P.turn, .int .i64 P.quiet] 29)).alloc (.cells #[.slice dA Q.cells.length dc, .slice xA Q.hand0.length xc, .slice yA Q.hand1.length yc, .int .i64 Q.turn, .int .i64 Q.quiet] 29)) = w2 at *
  generalize w.heap.size + 1 + 1 = BQ at *
  generalize w.heap.size + 1 = BP at *
  generalize w.heap.size = BR at *
  refine (stored_any _).mono ?_
  rintro e w3 ⟨rfl, x⟩
  replace hR := hR.ext x
  replace hP := hP.ext x
  replace hQ := hQ.ext x
  replace kR := kR.ext x
  replace kP := kP.ext x
  replace kQ := kQ.ext x
  replace X := ext_trans X x
  clear x
  go_wp2_with fail
  refine (keyed_any _).mono ?_
  rintro e w4 ⟨rfl, x⟩
  replace hR := hR.ext x
  replace hP := hP.ext x
  replace hQ := hQ.ext x
  replace kR := kR.ext x
  replace kP := kP.ext x
  replace kQ := kQ.ext x
  replace X := ext_trans X x
  clear x
  have fR := kR.cell
  go_wp2_with fail
  have HF := hide (fun W (h : Ext w4 W) => And.intro (hR.ext h) (And.intro (hP.ext h) (And.intro (hQ.ext h) (And.intro (kR.ext h) (And.intro (kP.ext h) (And.intro (kQ.ext h) (ext_trans X h)))))))
  have HR0 := hide hR
  clear fR
  clear hR hP hQ kR kP kQ X
  have HN2 := hide (HN.out _ _ HR0.out)
  clear HN HR0
  obtain ⟨hR, hP, hQ, kR, kP, kQ, X⟩ := HF.out _ (Below.refl _ _)
  have fR := kR.cell
  go_wp2_with fail
  refine HN2.out.mono ?_
  rintro e wS0 ⟨BS, g, rfl, st⟩
  have S0 := hide st
  clear st HN2 hR hP hQ kR kP kQ X fR
  obtain ⟨hR, hP, hQ, kR, kP, kQ, X⟩ := HF.out _ S0.out.old
  have fR := kR.cell
  have fP := kP.cell
  have fQ := kQ.cell
  have HC0 := hide (Key_any R P _ _ _ hR hP)
  rw [HCP.out] at HC0
  go_wp2_with fail
  refine HC0.out.mono ?_
  rintro e wS1 ⟨rfl, x⟩
  have S1 := hide (S0.out.ext x)
  clear hR hP hQ kR kP kQ X fR fP fQ HC0
  try clear x
  try clear st fr
  clear S0
  obtain ⟨hR, hP, hQ, kR, kP, kQ, X⟩ := HF.out _ S1.out.old
  have fR := kR.cell
  have fP := kP.cell
  have fQ := kQ.cell
  have HC1 := hide (Key_any R Q _ _ _ hR hQ)
  rw [HKQ.out] at HC1
  go_wp2_with fail
  refine HC1.out.mono ?_
  rintro e wS2 ⟨rfl, x⟩
  have S2 := hide (S1.out.ext x)
  clear hR hP hQ kR kP kQ X fR fP fQ HC1
  try clear x
  try clear st fr
  clear S1
  obtain ⟨hR, hP, hQ, kR, kP, kQ, X⟩ := HF.out _ S2.out.old
  have fR := kR.cell
  have fP := kP.cell
  have fQ := kQ.cell
  have HC2 := hide (sPut_yes (s := 3) S2.out HL1.out.1 HL1.out.2 hP HPA.out (by omega) (by omega))
  unfold SPutOk at HC2
  go_wp2_with fail
  refine HC2.out.mono ?_
  rintro e wS3 ⟨rfl, st, fr⟩
  have S3 := hide (st)
  clear hR hP hQ kR kP kQ X fR fP fQ HC2
  try clear x
  try clear st fr
  clear S2
  obtain ⟨hR, hP, hQ, kR, kP, kQ, X⟩ := HF.out _ S3.out.old
  have fR := kR.cell
  have fP := kP.cell
  have fQ := kQ.cell
  clear hR hP hQ kR kP kQ X fR fP fQ
  obtain ⟨xe, kE⟩ := blks1 wS3 #[.int .i64 (0), .int .i64 (checkE R Q), .int .i64 (0)] 32
  have SE3 := hide (S3.out.ext xe)
  have KE := hide kE
  clear xe kE
  go_wp2_with fail
  have HC3 := hide (fine_ext (fine_any (some ⟨wS3.heap.size, 0, none⟩) 3 3 [0, checkE R Q, 0] _ rfl (by omega) (blk_ints KE.out)))
  rw [show allZero [0, checkE R Q, 0] = false from HFZ.out] at HC3
  refine HC3.out.mono ?_
  rintro e wS4 ⟨rfl, x⟩
  have S4 := hide (SE3.out.ext x)
  clear x HC3 KE SE3 S3
  obtain ⟨hR, hP, hQ, kR, kP, kQ, X⟩ := HF.out _ S4.out.old
  have X9 := hide X
  clear hR hP hQ kR kP kQ X
  go_wp2
  all_goals go_ret
  all_goals exact ⟨by first | rfl | simp, X9.out⟩
set_option maxHeartbeats 8000000 in
set_option maxRecDepth 100000 in
theorem storeSlots_qput (R : RulesM) (P Q : PosM) (v u u2 : Value) (a b s : Int) (w : World) (hR : RulesAt w v R) (hP : PosAt w u P) (hQ : PosAt w u2 Q) (k : Nat) (hK : (wrap64 (s.tmod 7 + 7)).tmod 7 = (k : Int)) (k1 : k < 7) (hV : Valid R) (hp : chkE R P a = 0) (hc : checkE R Q = 0) (hq : chkE R Q b ≠ 0) :
    Calls Try.prog 13 #[v, u, u2, .int .i64 a, .int .i64 b, .int .i64 s] w fun e w' => e = .returned (.bool true) ∧ Ext w w' := by
  have HN := hide (fun W (v1 : Value) (h1 : RulesAt W v1 R) => sNew_yes R v1 (k + 1) W h1 hV (by omega) (by omega))
  rw [show ((k + 1 : Nat) : Int) = (k : Int) + 1 from by omega] at HN
  unfold SNewPost at HN
  have hwk : IntKind.i64.wrap ((k : Int) + 1) = (k : Int) + 1 := by rw [IntKind.wrap_i64]; omega
  have k0 : (0 : Int) ≤ (k : Int) := by omega
  have k2 : (k : Int) < 7 := by omega
  have HL1 : Hid (0 < (List.replicate (k + 1) (none : Option SlotM)).length ∧ (List.replicate (k + 1) (none : Option SlotM)).length ≤ 4096) := hide (by rw [List.length_replicate]; omega)
  have HSS0 := hide (soundS_new R (k + 1))
  have HRL : Hid (∀ L : List (Option SlotM), L.length = k + 1 → 0 < L.length ∧ L.length ≤ 4096) := hide (fun L h => by omega)
  have HPA := hide hp
  obtain ⟨hcP, -, -⟩ := chk_zero hp
  have HCP := hide hcP
  clear hp hcP
  have HCQ := hide hc
  clear hc
  have HQN := hide hq
  have t9 : (chkE R Q b != 0) = true := by simpa using hq
  clear hq
  have hR0 := hR
  have hP0 := hP
  have hQ0 := hQ
  obtain ⟨pA, pc, sA, sc, eA, ec, rfl, -⟩ := hR0
  obtain ⟨cA, cc, aA, ac, bA, bc, rfl, -⟩ := hP0
  obtain ⟨dA, dc, xA, xc, yA, yc, rfl, -⟩ := hQ0
  go_enter Try.func13, Try.ntmps13
  go_wp2_with fail
  obtain ⟨xa, kR, kP, kQ⟩ := blks3 w #[.string R.name, .int .i64 R.width, .int .i64 R.height, .slice pA R.pieces.length pc, .slice sA R.start.length sc, .bool R.falls, .bool R.keeps, .slice eA R.ends.length ec, .int .i64 R.blocked, .int .i64 R.quiet, .int .i64 R.rept] 26 #[.slice cA P.cells.length cc, .slice aA P.hand0.length ac, .slice bA P.hand1.length bc, .int .i64 P.turn, .int .i64 P.quiet] 29 #[.slice dA Q.cells.length dc, .slice xA Q.hand0.length xc, .slice yA Q.hand1.length yc, .int .i64 Q.turn, .int .i64 Q.quiet] 29
  replace hR := hR.ext xa
  replace hP := hP.ext xa
  replace hQ := hQ.ext xa
  have X := xa
  clear xa
  generalize (((w.alloc (.cells #[.string R.name, .int .i64 R.width, .int .i64 R.height, .slice pA R.pieces.length pc, .slice sA R.start.length sc, .bool R.falls, .bool R.keeps, .slice eA R.ends.length ec, .int .i64 R.blocked, .int .i64 R.quiet, .int .i64 R.rept] 26)).alloc (.cells #[.slice cA P.cells.length cc, .slice aA P.hand0.length ac, .slice bA P.hand1.length bc, .int .i64 P.turn, .int .i64 P.quiet] 29)).alloc (.cells #[.slice dA Q.cells.length dc, .slice xA Q.hand0.length xc, .slice yA Q.hand1.length yc, .int .i64 Q.turn, .int .i64 Q.quiet] 29)) = w2 at *
  generalize w.heap.size + 1 + 1 = BQ at *
  generalize w.heap.size + 1 = BP at *
  generalize w.heap.size = BR at *
  refine (stored_any _).mono ?_
  rintro e w3 ⟨rfl, x⟩
  replace hR := hR.ext x
  replace hP := hP.ext x
  replace hQ := hQ.ext x
  replace kR := kR.ext x
  replace kP := kP.ext x
  replace kQ := kQ.ext x
  replace X := ext_trans X x
  clear x
  go_wp2_with fail
  refine (keyed_any _).mono ?_
  rintro e w4 ⟨rfl, x⟩
  replace hR := hR.ext x
  replace hP := hP.ext x
  replace hQ := hQ.ext x
  replace kR := kR.ext x
  replace kP := kP.ext x
  replace kQ := kQ.ext x
  replace X := ext_trans X x
  clear x
  have fR := kR.cell
  go_wp2_with fail
  have HF := hide (fun W (h : Ext w4 W) => And.intro (hR.ext h) (And.intro (hP.ext h) (And.intro (hQ.ext h) (And.intro (kR.ext h) (And.intro (kP.ext h) (And.intro (kQ.ext h) (ext_trans X h)))))))
  have HR0 := hide hR
  clear fR
  clear hR hP hQ kR kP kQ X
  have HN2 := hide (HN.out _ _ HR0.out)
  clear HN HR0
  obtain ⟨hR, hP, hQ, kR, kP, kQ, X⟩ := HF.out _ (Below.refl _ _)
  have fR := kR.cell
  go_wp2_with fail
  refine HN2.out.mono ?_
  rintro e wS0 ⟨BS, g, rfl, st⟩
  have S0 := hide st
  clear st HN2 hR hP hQ kR kP kQ X fR
  obtain ⟨hR, hP, hQ, kR, kP, kQ, X⟩ := HF.out _ S0.out.old
  have fR := kR.cell
  have fP := kP.cell
  have fQ := kQ.cell
  have HC0 := hide (Key_any R P _ _ _ hR hP)
  rw [HCP.out] at HC0
  go_wp2_with fail
  refine HC0.out.mono ?_
  rintro e wS1 ⟨rfl, x⟩
  have S1 := hide (S0.out.ext x)
  clear hR hP hQ kR kP kQ X fR fP fQ HC0
  try clear x
  try clear st fr
  clear S0
  obtain ⟨hR, hP, hQ, kR, kP, kQ, X⟩ := HF.out _ S1.out.old
  have fR := kR.cell
  have fP := kP.cell
  have fQ := kQ.cell
  have HC1 := hide (Key_any R Q _ _ _ hR hQ)
  rw [HCQ.out] at HC1
  go_wp2_with fail
  refine HC1.out.mono ?_
  rintro e wS2 ⟨rfl, x⟩
  have S2 := hide (S1.out.ext x)
  clear hR hP hQ kR kP kQ X fR fP fQ HC1
  try clear x
  try clear st fr
  clear S1
  obtain ⟨hR, hP, hQ, kR, kP, kQ, X⟩ := HF.out _ S2.out.old
  have fR := kR.cell
  have fP := kP.cell
  have fQ := kQ.cell
  have HC2 := hide (sPut_yes (s := 3) S2.out HL1.out.1 HL1.out.2 hP HPA.out (by omega) (by omega))
  unfold SPutOk at HC2
  go_wp2_with fail
  refine HC2.out.mono ?_
  rintro e wS3 ⟨rfl, st, fr⟩
  have S3 := hide (st)
  clear hR hP hQ kR kP kQ X fR fP fQ HC2
  try clear x
  try clear st fr
  clear S2
  obtain ⟨hR, hP, hQ, kR, kP, kQ, X⟩ := HF.out _ S3.out.old
  have fR := kR.cell
  have fP := kP.cell
  have fQ := kQ.cell
  clear hR hP hQ kR kP kQ X fR fP fQ
  obtain ⟨xe, kE⟩ := blks1 wS3 #[.int .i64 (0), .int .i64 (0), .int .i64 (0)] 32
  have SE3 := hide (S3.out.ext xe)
  have KE := hide kE
  clear xe kE
  go_wp2_with fail
  have HC3 := hide (fine_ext (fine_any (some ⟨wS3.heap.size, 0, none⟩) 3 3 [0, 0, 0] _ rfl (by omega) (blk_ints KE.out)))
  rw [show allZero [0, 0, 0] = true from rfl] at HC3
  refine HC3.out.mono ?_
  rintro e wS4 ⟨rfl, x⟩
  have S4 := hide (SE3.out.ext x)
  clear x HC3 KE SE3 S3
  obtain ⟨hR, hP, hQ, kR, kP, kQ, X⟩ := HF.out _ S4.out.old
  have fR := kR.cell
  have fP := kP.cell
  have fQ := kQ.cell
  have HC4 := hide (sPut_no (s := 4) S4.out (HRL.out _ (by rw [putS_len, List.length_replicate])).1 (HRL.out _ (by rw [putS_len, List.length_replicate])).2 hQ HQN.out)
  go_wp2_with fail
  refine HC4.out.mono ?_
  rintro e wS5 ⟨rfl, x⟩
  have S5 := hide (S4.out.ext x)
  clear hR hP hQ kR kP kQ X fR fP fQ HC4
  try clear x
  try clear st fr
  clear S4
  obtain ⟨hR, hP, hQ, kR, kP, kQ, X⟩ := HF.out _ S5.out.old
  have X9 := hide X
  clear hR hP hQ kR kP kQ X
  go_wp2
  all_goals go_ret
  all_goals exact ⟨by first | rfl | simp, X9.out⟩
set_option maxHeartbeats 8000000 in
set_option maxRecDepth 100000 in
theorem storeSlots_apart (R : RulesM) (P Q : PosM) (v u u2 : Value) (a b s : Int) (w : World) (hR : RulesAt w v R) (hP : PosAt w u P) (hQ : PosAt w u2 Q) (k : Nat) (hK : (wrap64 (s.tmod 7 + 7)).tmod 7 = (k : Int)) (k1 : k < 7) (hV : Valid R) (hp : chkE R P a = 0) (hq : chkE R Q b = 0) (hap : slotI P (k + 1) ≠ slotI Q (k + 1)) :
    Calls Try.prog 13 #[v, u, u2, .int .i64 a, .int .i64 b, .int .i64 s] w fun e w' => e = .returned (.bool true) ∧ Ext w w' := by
  have HN := hide (fun W (v1 : Value) (h1 : RulesAt W v1 R) => sNew_yes R v1 (k + 1) W h1 hV (by omega) (by omega))
  rw [show ((k + 1 : Nat) : Int) = (k : Int) + 1 from by omega] at HN
  unfold SNewPost at HN
  have hwk : IntKind.i64.wrap ((k : Int) + 1) = (k : Int) + 1 := by rw [IntKind.wrap_i64]; omega
  have k0 : (0 : Int) ≤ (k : Int) := by omega
  have k2 : (k : Int) < 7 := by omega
  have HL1 : Hid (0 < (List.replicate (k + 1) (none : Option SlotM)).length ∧ (List.replicate (k + 1) (none : Option SlotM)).length ≤ 4096) := hide (by rw [List.length_replicate]; omega)
  have HSS0 := hide (soundS_new R (k + 1))
  have HRL : Hid (∀ L : List (Option SlotM), L.length = k + 1 → 0 < L.length ∧ L.length ≤ 4096) := hide (fun L h => by omega)
  have HPA := hide hp
  obtain ⟨hcP, -, -⟩ := chk_zero hp
  have HCP := hide hcP
  clear hp hcP
  have HQA := hide hq
  obtain ⟨hcQ, -, -⟩ := chk_zero hq
  have HCQ := hide hcQ
  have HSP := hide ((check_iff.1 HCP.out).2)
  have HSQ := hide ((check_iff.1 hcQ).2)
  have HS2 : Hid (SoundS R (putS (putS (List.replicate (k + 1) none) P a 3) Q b 4)) := hide ((HSS0.out.put HSP.out).put HSQ.out)
  have HLN : Hid ((putS (putS (List.replicate (k + 1) none) P a 3) Q b 4).length = k + 1) := hide (by rw [putS_len, putS_len, List.length_replicate])
  have hmP := keyM_mod P (show 0 < k + 1 by omega)
  have hmQ := keyM_mod Q (show 0 < k + 1 by omega)
  rw [show ((k + 1 : Nat) : Int) = (k : Int) + 1 from by omega] at hmP hmQ
  have hwu : IntKind.u64.wrap ((k : Int) + 1) = (k : Int) + 1 := by rw [IntKind.wrap_u64]; omega
  clear hq hcQ
  have hsf := slots_first (n := k + 1) (P := P) (Q := Q) (a := a) (b := b) (by omega) (.inl hap)
  have HHB : Hid (hasB ((putS (putS (List.replicate (k + 1) none) P a 3) Q b 4).getD (slotI P (putS (putS (List.replicate (k + 1) none) P a 3) Q b 4).length) none) P a = true) := hide (by rw [HLN.out]; exact hsf.1)
  have HSC : Hid (scoreS ((putS (putS (List.replicate (k + 1) none) P a 3) Q b 4).getD (slotI P (putS (putS (List.replicate (k + 1) none) P a 3) Q b 4).length) none) = 3) := hide (by rw [HLN.out]; exact hsf.2)
  have ta : (((slotI P (k + 1) : Nat) : Int) != ((slotI Q (k + 1) : Nat) : Int)) = true := by simp; omega
  clear hsf
  clear hap
  have hR0 := hR
  have hP0 := hP
  have hQ0 := hQ
  obtain ⟨pA, pc, sA, sc, eA, ec, rfl, -⟩ := hR0
  obtain ⟨cA, cc, aA, ac, bA, bc, rfl, -⟩ := hP0
  obtain ⟨dA, dc, xA, xc, yA, yc, rfl, -⟩ := hQ0
  go_enter Try.func13, Try.ntmps13
  go_wp2_with fail
  obtain ⟨xa, kR, kP, kQ⟩ := blks3 w #[.string R.name, .int .i64 R.width, .int .i64 R.height, .slice pA R.pieces.length pc, .slice sA R.start.length sc, .bool R.falls, .bool R.keeps, .slice eA R.ends.length ec, .int .i64 R.blocked, .int .i64 R.quiet, .int .i64 R.rept] 26 #[.slice cA P.cells.length cc, .slice aA P.hand0.length ac, .slice bA P.hand1.length bc, .int .i64 P.turn, .int .i64 P.quiet] 29 #[.slice dA Q.cells.length dc, .slice xA Q.hand0.length xc, .slice yA Q.hand1.length yc, .int .i64 Q.turn, .int .i64 Q.quiet] 29
  replace hR := hR.ext xa
  replace hP := hP.ext xa
  replace hQ := hQ.ext xa
  have X := xa
  clear xa
  generalize (((w.alloc (.cells #[.string R.name, .int .i64 R.width, .int .i64 R.height, .slice pA R.pieces.length pc, .slice sA R.start.length sc, .bool R.falls, .bool R.keeps, .slice eA R.ends.length ec, .int .i64 R.blocked, .int .i64 R.quiet, .int .i64 R.rept] 26)).alloc (.cells #[.slice cA P.cells.length cc, .slice aA P.hand0.length ac, .slice bA P.hand1.length bc, .int .i64 P.turn, .int .i64 P.quiet] 29)).alloc (.cells #[.slice dA Q.cells.length dc, .slice xA Q.hand0.length xc, .slice yA Q.hand1.length yc, .int .i64 Q.turn, .int .i64 Q.quiet] 29)) = w2 at *
  generalize w.heap.size + 1 + 1 = BQ at *
  generalize w.heap.size + 1 = BP at *
  generalize w.heap.size = BR at *
  refine (stored_any _).mono ?_
  rintro e w3 ⟨rfl, x⟩
  replace hR := hR.ext x
  replace hP := hP.ext x
  replace hQ := hQ.ext x
  replace kR := kR.ext x
  replace kP := kP.ext x
  replace kQ := kQ.ext x
  replace X := ext_trans X x
  clear x
  go_wp2_with fail
  refine (keyed_any _).mono ?_
  rintro e w4 ⟨rfl, x⟩
  replace hR := hR.ext x
  replace hP := hP.ext x
  replace hQ := hQ.ext x
  replace kR := kR.ext x
  replace kP := kP.ext x
  replace kQ := kQ.ext x
  replace X := ext_trans X x
  clear x
  have fR := kR.cell
  go_wp2_with fail
  have HF := hide (fun W (h : Ext w4 W) => And.intro (hR.ext h) (And.intro (hP.ext h) (And.intro (hQ.ext h) (And.intro (kR.ext h) (And.intro (kP.ext h) (And.intro (kQ.ext h) (ext_trans X h)))))))
  have HR0 := hide hR
  clear fR
  clear hR hP hQ kR kP kQ X
  have HN2 := hide (HN.out _ _ HR0.out)
  clear HN HR0
  obtain ⟨hR, hP, hQ, kR, kP, kQ, X⟩ := HF.out _ (Below.refl _ _)
  have fR := kR.cell
  go_wp2_with fail
  refine HN2.out.mono ?_
  rintro e wS0 ⟨BS, g, rfl, st⟩
  have S0 := hide st
  clear st HN2 hR hP hQ kR kP kQ X fR
  obtain ⟨hR, hP, hQ, kR, kP, kQ, X⟩ := HF.out _ S0.out.old
  have fR := kR.cell
  have fP := kP.cell
  have fQ := kQ.cell
  have HC0 := hide (Key_any R P _ _ _ hR hP)
  rw [HCP.out, if_pos rfl] at HC0
  go_wp2_with fail
  refine HC0.out.mono ?_
  rintro e wS1 ⟨rfl, x⟩
  have S1 := hide (S0.out.ext x)
  clear hR hP hQ kR kP kQ X fR fP fQ HC0
  try clear x
  try clear st fr
  clear S0
  obtain ⟨hR, hP, hQ, kR, kP, kQ, X⟩ := HF.out _ S1.out.old
  have fR := kR.cell
  have fP := kP.cell
  have fQ := kQ.cell
  have HC1 := hide (Key_any R Q _ _ _ hR hQ)
  rw [HCQ.out, if_pos rfl] at HC1
  go_wp2_with fail
  refine HC1.out.mono ?_
  rintro e wS2 ⟨rfl, x⟩
  have S2 := hide (S1.out.ext x)
  clear hR hP hQ kR kP kQ X fR fP fQ HC1
  try clear x
  try clear st fr
  clear S1
  obtain ⟨hR, hP, hQ, kR, kP, kQ, X⟩ := HF.out _ S2.out.old
  have fR := kR.cell
  have fP := kP.cell
  have fQ := kQ.cell
  have HC2 := hide (sPut_yes (s := 3) S2.out HL1.out.1 HL1.out.2 hP HPA.out (by omega) (by omega))
  unfold SPutOk at HC2
  go_wp2_with fail
  refine HC2.out.mono ?_
  rintro e wS3 ⟨rfl, st, fr⟩
  have S3 := hide (st)
  clear hR hP hQ kR kP kQ X fR fP fQ HC2
  try clear x
  try clear st fr
  clear S2
  obtain ⟨hR, hP, hQ, kR, kP, kQ, X⟩ := HF.out _ S3.out.old
  have fR := kR.cell
  have fP := kP.cell
  have fQ := kQ.cell
  clear hR hP hQ kR kP kQ X fR fP fQ
  obtain ⟨xe, kE⟩ := blks1 wS3 #[.int .i64 (0), .int .i64 (0), .int .i64 (0)] 32
  have SE3 := hide (S3.out.ext xe)
  have KE := hide kE
  clear xe kE
  go_wp2_with fail
  have HC3 := hide (fine_ext (fine_any (some ⟨wS3.heap.size, 0, none⟩) 3 3 [0, 0, 0] _ rfl (by omega) (blk_ints KE.out)))
  rw [show allZero [0, 0, 0] = true from rfl] at HC3
  refine HC3.out.mono ?_
  rintro e wS4 ⟨rfl, x⟩
  have S4 := hide (SE3.out.ext x)
  clear x HC3 KE SE3 S3
  obtain ⟨hR, hP, hQ, kR, kP, kQ, X⟩ := HF.out _ S4.out.old
  have fR := kR.cell
  have fP := kP.cell
  have fQ := kQ.cell
  have HC4 := hide (sPut_yes (s := 4) S4.out (HRL.out _ (by rw [putS_len, List.length_replicate])).1 (HRL.out _ (by rw [putS_len, List.length_replicate])).2 hQ HQA.out (by omega) (by omega))
  unfold SPutOk at HC4
  go_wp2_with fail
  refine HC4.out.mono ?_
  rintro e wS5 ⟨rfl, st, fr⟩
  have S5 := hide (st)
  clear hR hP hQ kR kP kQ X fR fP fQ HC4
  try clear x
  try clear st fr
  clear S4
  obtain ⟨hR, hP, hQ, kR, kP, kQ, X⟩ := HF.out _ S5.out.old
  have fR := kR.cell
  have fP := kP.cell
  have fQ := kQ.cell
  have HC5 := hide (sGet_yes (D := a) S5.out (HRL.out _ HLN.out).1 (HRL.out _ HLN.out).2 hP HPA.out HS2.out HHB.out)
  rw [HSC.out] at HC5
  unfold SGetOk at HC5
  go_wp2_with fail
  refine HC5.out.mono ?_
  rintro e wS6 ⟨rfl, st, fr⟩
  have S6 := hide (st)
  clear hR hP hQ kR kP kQ X fR fP fQ HC5
  try clear x
  try clear st fr
  clear S5
  obtain ⟨hR, hP, hQ, kR, kP, kQ, X⟩ := HF.out _ S6.out.old
  have X9 := hide X
  clear hR hP hQ kR kP kQ X
  have hkP := keyM_bd P
  have hkQ := keyM_bd Q
  generalize slotI P (k + 1) = iP at *
  generalize slotI Q (k + 1) = iQ at *
  generalize keyM P = kyP at *
  generalize keyM Q = kyQ at *
  have tl : ((k : Int) + 1 == 0) = false := by simp; omega
  go_wp2_with (go_quiet (fail))
  all_goals go_ret
  all_goals exact ⟨by first | rfl | simp, ext_drewN X9.out _⟩
set_option maxHeartbeats 8000000 in
set_option maxRecDepth 100000 in
theorem storeSlots_less (R : RulesM) (P Q : PosM) (v u u2 : Value) (a b s : Int) (w : World) (hR : RulesAt w v R) (hP : PosAt w u P) (hQ : PosAt w u2 Q) (k : Nat) (hK : (wrap64 (s.tmod 7 + 7)).tmod 7 = (k : Int)) (k1 : k < 7) (hV : Valid R) (hp : chkE R P a = 0) (hq : chkE R Q b = 0) (hap : slotI P (k + 1) = slotI Q (k + 1)) (hba : b < a) :
    Calls Try.prog 13 #[v, u, u2, .int .i64 a, .int .i64 b, .int .i64 s] w fun e w' => e = .returned (.bool true) ∧ Ext w w' := by
  have HN := hide (fun W (v1 : Value) (h1 : RulesAt W v1 R) => sNew_yes R v1 (k + 1) W h1 hV (by omega) (by omega))
  rw [show ((k + 1 : Nat) : Int) = (k : Int) + 1 from by omega] at HN
  unfold SNewPost at HN
  have hwk : IntKind.i64.wrap ((k : Int) + 1) = (k : Int) + 1 := by rw [IntKind.wrap_i64]; omega
  have k0 : (0 : Int) ≤ (k : Int) := by omega
  have k2 : (k : Int) < 7 := by omega
  have HL1 : Hid (0 < (List.replicate (k + 1) (none : Option SlotM)).length ∧ (List.replicate (k + 1) (none : Option SlotM)).length ≤ 4096) := hide (by rw [List.length_replicate]; omega)
  have HSS0 := hide (soundS_new R (k + 1))
  have HRL : Hid (∀ L : List (Option SlotM), L.length = k + 1 → 0 < L.length ∧ L.length ≤ 4096) := hide (fun L h => by omega)
  have HPA := hide hp
  obtain ⟨hcP, -, -⟩ := chk_zero hp
  have HCP := hide hcP
  clear hp hcP
  have HQA := hide hq
  obtain ⟨hcQ, -, -⟩ := chk_zero hq
  have HCQ := hide hcQ
  have HSP := hide ((check_iff.1 HCP.out).2)
  have HSQ := hide ((check_iff.1 hcQ).2)
  have HS2 : Hid (SoundS R (putS (putS (List.replicate (k + 1) none) P a 3) Q b 4)) := hide ((HSS0.out.put HSP.out).put HSQ.out)
  have HLN : Hid ((putS (putS (List.replicate (k + 1) none) P a 3) Q b 4).length = k + 1) := hide (by rw [putS_len, putS_len, List.length_replicate])
  have hmP := keyM_mod P (show 0 < k + 1 by omega)
  have hmQ := keyM_mod Q (show 0 < k + 1 by omega)
  rw [show ((k + 1 : Nat) : Int) = (k : Int) + 1 from by omega] at hmP hmQ
  have hwu : IntKind.u64.wrap ((k : Int) + 1) = (k : Int) + 1 := by rw [IntKind.wrap_u64]; omega
  clear hq hcQ
  have hsf := slots_first (n := k + 1) (P := P) (Q := Q) (a := a) (b := b) (by omega) (.inr hba)
  have HHB : Hid (hasB ((putS (putS (List.replicate (k + 1) none) P a 3) Q b 4).getD (slotI P (putS (putS (List.replicate (k + 1) none) P a 3) Q b 4).length) none) P a = true) := hide (by rw [HLN.out]; exact hsf.1)
  have HSC : Hid (scoreS ((putS (putS (List.replicate (k + 1) none) P a 3) Q b 4).getD (slotI P (putS (putS (List.replicate (k + 1) none) P a 3) Q b 4).length) none) = 3) := hide (by rw [HLN.out]; exact hsf.2)
  have ta : (((slotI P (k + 1) : Nat) : Int) != ((slotI Q (k + 1) : Nat) : Int)) = false := by simp; omega
  have tb : decide (b < a) = true := decide_eq_true hba
  clear hsf
  clear hap hba
  have hR0 := hR
  have hP0 := hP
  have hQ0 := hQ
  obtain ⟨pA, pc, sA, sc, eA, ec, rfl, -⟩ := hR0
  obtain ⟨cA, cc, aA, ac, bA, bc, rfl, -⟩ := hP0
  obtain ⟨dA, dc, xA, xc, yA, yc, rfl, -⟩ := hQ0
  go_enter Try.func13, Try.ntmps13
  go_wp2_with fail
  obtain ⟨xa, kR, kP, kQ⟩ := blks3 w #[.string R.name, .int .i64 R.width, .int .i64 R.height, .slice pA R.pieces.length pc, .slice sA R.start.length sc, .bool R.falls, .bool R.keeps, .slice eA R.ends.length ec, .int .i64 R.blocked, .int .i64 R.quiet, .int .i64 R.rept] 26 #[.slice cA P.cells.length cc, .slice aA P.hand0.length ac, .slice bA P.hand1.length bc, .int .i64 P.turn, .int .i64 P.quiet] 29 #[.slice dA Q.cells.length dc, .slice xA Q.hand0.length xc, .slice yA Q.hand1.length yc, .int .i64 Q.turn, .int .i64 Q.quiet] 29
  replace hR := hR.ext xa
  replace hP := hP.ext xa
  replace hQ := hQ.ext xa
  have X := xa
  clear xa
  generalize (((w.alloc (.cells #[.string R.name, .int .i64 R.width, .int .i64 R.height, .slice pA R.pieces.length pc, .slice sA R.start.length sc, .bool R.falls, .bool R.keeps, .slice eA R.ends.length ec, .int .i64 R.blocked, .int .i64 R.quiet, .int .i64 R.rept] 26)).alloc (.cells #[.slice cA P.cells.length cc, .slice aA P.hand0.length ac, .slice bA P.hand1.length bc, .int .i64 P.turn, .int .i64 P.quiet] 29)).alloc (.cells #[.slice dA Q.cells.length dc, .slice xA Q.hand0.length xc, .slice yA Q.hand1.length yc, .int .i64 Q.turn, .int .i64 Q.quiet] 29)) = w2 at *
  generalize w.heap.size + 1 + 1 = BQ at *
  generalize w.heap.size + 1 = BP at *
  generalize w.heap.size = BR at *
  refine (stored_any _).mono ?_
  rintro e w3 ⟨rfl, x⟩
  replace hR := hR.ext x
  replace hP := hP.ext x
  replace hQ := hQ.ext x
  replace kR := kR.ext x
  replace kP := kP.ext x
  replace kQ := kQ.ext x
  replace X := ext_trans X x
  clear x
  go_wp2_with fail
  refine (keyed_any _).mono ?_
  rintro e w4 ⟨rfl, x⟩
  replace hR := hR.ext x
  replace hP := hP.ext x
  replace hQ := hQ.ext x
  replace kR := kR.ext x
  replace kP := kP.ext x
  replace kQ := kQ.ext x
  replace X := ext_trans X x
  clear x
  have fR := kR.cell
  go_wp2_with fail
  have HF := hide (fun W (h : Ext w4 W) => And.intro (hR.ext h) (And.intro (hP.ext h) (And.intro (hQ.ext h) (And.intro (kR.ext h) (And.intro (kP.ext h) (And.intro (kQ.ext h) (ext_trans X h)))))))
  have HR0 := hide hR
  clear fR
  clear hR hP hQ kR kP kQ X
  have HN2 := hide (HN.out _ _ HR0.out)
  clear HN HR0
  obtain ⟨hR, hP, hQ, kR, kP, kQ, X⟩ := HF.out _ (Below.refl _ _)
  have fR := kR.cell
  go_wp2_with fail
  refine HN2.out.mono ?_
  rintro e wS0 ⟨BS, g, rfl, st⟩
  have S0 := hide st
  clear st HN2 hR hP hQ kR kP kQ X fR
  obtain ⟨hR, hP, hQ, kR, kP, kQ, X⟩ := HF.out _ S0.out.old
  have fR := kR.cell
  have fP := kP.cell
  have fQ := kQ.cell
  have HC0 := hide (Key_any R P _ _ _ hR hP)
  rw [HCP.out, if_pos rfl] at HC0
  go_wp2_with fail
  refine HC0.out.mono ?_
  rintro e wS1 ⟨rfl, x⟩
  have S1 := hide (S0.out.ext x)
  clear hR hP hQ kR kP kQ X fR fP fQ HC0
  try clear x
  try clear st fr
  clear S0
  obtain ⟨hR, hP, hQ, kR, kP, kQ, X⟩ := HF.out _ S1.out.old
  have fR := kR.cell
  have fP := kP.cell
  have fQ := kQ.cell
  have HC1 := hide (Key_any R Q _ _ _ hR hQ)
  rw [HCQ.out, if_pos rfl] at HC1
  go_wp2_with fail
  refine HC1.out.mono ?_
  rintro e wS2 ⟨rfl, x⟩
  have S2 := hide (S1.out.ext x)
  clear hR hP hQ kR kP kQ X fR fP fQ HC1
  try clear x
  try clear st fr
  clear S1
  obtain ⟨hR, hP, hQ, kR, kP, kQ, X⟩ := HF.out _ S2.out.old
  have fR := kR.cell
  have fP := kP.cell
  have fQ := kQ.cell
  have HC2 := hide (sPut_yes (s := 3) S2.out HL1.out.1 HL1.out.2 hP HPA.out (by omega) (by omega))
  unfold SPutOk at HC2
  go_wp2_with fail
  refine HC2.out.mono ?_
  rintro e wS3 ⟨rfl, st, fr⟩
  have S3 := hide (st)
  clear hR hP hQ kR kP kQ X fR fP fQ HC2
  try clear x
  try clear st fr
  clear S2
  obtain ⟨hR, hP, hQ, kR, kP, kQ, X⟩ := HF.out _ S3.out.old
  have fR := kR.cell
  have fP := kP.cell
  have fQ := kQ.cell
  clear hR hP hQ kR kP kQ X fR fP fQ
  obtain ⟨xe, kE⟩ := blks1 wS3 #[.int .i64 (0), .int .i64 (0), .int .i64 (0)] 32
  have SE3 := hide (S3.out.ext xe)
  have KE := hide kE
  clear xe kE
  go_wp2_with fail
  have HC3 := hide (fine_ext (fine_any (some ⟨wS3.heap.size, 0, none⟩) 3 3 [0, 0, 0] _ rfl (by omega) (blk_ints KE.out)))
  rw [show allZero [0, 0, 0] = true from rfl] at HC3
  refine HC3.out.mono ?_
  rintro e wS4 ⟨rfl, x⟩
  have S4 := hide (SE3.out.ext x)
  clear x HC3 KE SE3 S3
  obtain ⟨hR, hP, hQ, kR, kP, kQ, X⟩ := HF.out _ S4.out.old
  have fR := kR.cell
  have fP := kP.cell
  have fQ := kQ.cell
  have HC4 := hide (sPut_yes (s := 4) S4.out (HRL.out _ (by rw [putS_len, List.length_replicate])).1 (HRL.out _ (by rw [putS_len, List.length_replicate])).2 hQ HQA.out (by omega) (by omega))
  unfold SPutOk at HC4
  go_wp2_with fail
  refine HC4.out.mono ?_
  rintro e wS5 ⟨rfl, st, fr⟩
  have S5 := hide (st)
  clear hR hP hQ kR kP kQ X fR fP fQ HC4
  try clear x
  try clear st fr
  clear S4
  obtain ⟨hR, hP, hQ, kR, kP, kQ, X⟩ := HF.out _ S5.out.old
  have fR := kR.cell
  have fP := kP.cell
  have fQ := kQ.cell
  have HC5 := hide (sGet_yes (D := a) S5.out (HRL.out _ HLN.out).1 (HRL.out _ HLN.out).2 hP HPA.out HS2.out HHB.out)
  rw [HSC.out] at HC5
  unfold SGetOk at HC5
  go_wp2_with fail
  refine HC5.out.mono ?_
  rintro e wS6 ⟨rfl, st, fr⟩
  have S6 := hide (st)
  clear hR hP hQ kR kP kQ X fR fP fQ HC5
  try clear x
  try clear st fr
  clear S5
  obtain ⟨hR, hP, hQ, kR, kP, kQ, X⟩ := HF.out _ S6.out.old
  have X9 := hide X
  clear hR hP hQ kR kP kQ X
  have hkP := keyM_bd P
  have hkQ := keyM_bd Q
  generalize slotI P (k + 1) = iP at *
  generalize slotI Q (k + 1) = iQ at *
  generalize keyM P = kyP at *
  generalize keyM Q = kyQ at *
  have tl : ((k : Int) + 1 == 0) = false := by simp; omega
  go_wp2_with (go_quiet (fail))
  all_goals go_ret
  all_goals exact ⟨by first | rfl | simp, ext_drewN X9.out _⟩
set_option maxHeartbeats 8000000 in
set_option maxRecDepth 100000 in
theorem storeSlots_more (R : RulesM) (P Q : PosM) (v u u2 : Value) (a b s : Int) (w : World) (hR : RulesAt w v R) (hP : PosAt w u P) (hQ : PosAt w u2 Q) (k : Nat) (hK : (wrap64 (s.tmod 7 + 7)).tmod 7 = (k : Int)) (k1 : k < 7) (hV : Valid R) (hp : chkE R P a = 0) (hq : chkE R Q b = 0) (hap : slotI P (k + 1) = slotI Q (k + 1)) (hab : a ≤ b) (hb : (hasB ((putS (putS (List.replicate (k + 1) none) P a 3) Q b 4).getD (slotI P (putS (putS (List.replicate (k + 1) none) P a 3) Q b 4).length) none) P a) = true) :
    Calls Try.prog 13 #[v, u, u2, .int .i64 a, .int .i64 b, .int .i64 s] w fun e w' => e = .returned (.bool true) ∧ Ext w w' := by
  have HN := hide (fun W (v1 : Value) (h1 : RulesAt W v1 R) => sNew_yes R v1 (k + 1) W h1 hV (by omega) (by omega))
  rw [show ((k + 1 : Nat) : Int) = (k : Int) + 1 from by omega] at HN
  unfold SNewPost at HN
  have hwk : IntKind.i64.wrap ((k : Int) + 1) = (k : Int) + 1 := by rw [IntKind.wrap_i64]; omega
  have k0 : (0 : Int) ≤ (k : Int) := by omega
  have k2 : (k : Int) < 7 := by omega
  have HL1 : Hid (0 < (List.replicate (k + 1) (none : Option SlotM)).length ∧ (List.replicate (k + 1) (none : Option SlotM)).length ≤ 4096) := hide (by rw [List.length_replicate]; omega)
  have HSS0 := hide (soundS_new R (k + 1))
  have HRL : Hid (∀ L : List (Option SlotM), L.length = k + 1 → 0 < L.length ∧ L.length ≤ 4096) := hide (fun L h => by omega)
  have HPA := hide hp
  obtain ⟨hcP, -, -⟩ := chk_zero hp
  have HCP := hide hcP
  clear hp hcP
  have HQA := hide hq
  obtain ⟨hcQ, -, -⟩ := chk_zero hq
  have HCQ := hide hcQ
  have HSP := hide ((check_iff.1 HCP.out).2)
  have HSQ := hide ((check_iff.1 hcQ).2)
  have HS2 : Hid (SoundS R (putS (putS (List.replicate (k + 1) none) P a 3) Q b 4)) := hide ((HSS0.out.put HSP.out).put HSQ.out)
  have HLN : Hid ((putS (putS (List.replicate (k + 1) none) P a 3) Q b 4).length = k + 1) := hide (by rw [putS_len, putS_len, List.length_replicate])
  have hmP := keyM_mod P (show 0 < k + 1 by omega)
  have hmQ := keyM_mod Q (show 0 < k + 1 by omega)
  rw [show ((k + 1 : Nat) : Int) = (k : Int) + 1 from by omega] at hmP hmQ
  have hwu : IntKind.u64.wrap ((k : Int) + 1) = (k : Int) + 1 := by rw [IntKind.wrap_u64]; omega
  clear hq hcQ
  have hsf := slots_second (n := k + 1) (P := P) (Q := Q) (a := a) (b := b) (by omega) hap hab
  have HHB : Hid (hasB ((putS (putS (List.replicate (k + 1) none) P a 3) Q b 4).getD (slotI Q (putS (putS (List.replicate (k + 1) none) P a 3) Q b 4).length) none) Q b = true) := hide (by rw [HLN.out]; exact hsf.1)
  have HSC : Hid (scoreS ((putS (putS (List.replicate (k + 1) none) P a 3) Q b 4).getD (slotI Q (putS (putS (List.replicate (k + 1) none) P a 3) Q b 4).length) none) = 4) := hide (by rw [HLN.out]; exact hsf.2)
  have ta : (((slotI P (k + 1) : Nat) : Int) != ((slotI Q (k + 1) : Nat) : Int)) = false := by simp; omega
  have tb : decide (b < a) = false := decide_eq_false (by omega)
  have HB1 := hide hb
  obtain ⟨zz, hzz⟩ : ∃ z, scoreS ((putS (putS (List.replicate (k + 1) none) P a 3) Q b 4).getD (slotI P (putS (putS (List.replicate (k + 1) none) P a 3) Q b 4).length) none) = z := ⟨_, rfl⟩
  have HZZ := hide hzz
  clear hzz hb hsf hap hab
  have hR0 := hR
  have hP0 := hP
  have hQ0 := hQ
  obtain ⟨pA, pc, sA, sc, eA, ec, rfl, -⟩ := hR0
  obtain ⟨cA, cc, aA, ac, bA, bc, rfl, -⟩ := hP0
  obtain ⟨dA, dc, xA, xc, yA, yc, rfl, -⟩ := hQ0
  go_enter Try.func13, Try.ntmps13
  go_wp2_with fail
  obtain ⟨xa, kR, kP, kQ⟩ := blks3 w #[.string R.name, .int .i64 R.width, .int .i64 R.height, .slice pA R.pieces.length pc, .slice sA R.start.length sc, .bool R.falls, .bool R.keeps, .slice eA R.ends.length ec, .int .i64 R.blocked, .int .i64 R.quiet, .int .i64 R.rept] 26 #[.slice cA P.cells.length cc, .slice aA P.hand0.length ac, .slice bA P.hand1.length bc, .int .i64 P.turn, .int .i64 P.quiet] 29 #[.slice dA Q.cells.length dc, .slice xA Q.hand0.length xc, .slice yA Q.hand1.length yc, .int .i64 Q.turn, .int .i64 Q.quiet] 29
  replace hR := hR.ext xa
  replace hP := hP.ext xa
  replace hQ := hQ.ext xa
  have X := xa
  clear xa
  generalize (((w.alloc (.cells #[.string R.name, .int .i64 R.width, .int .i64 R.height, .slice pA R.pieces.length pc, .slice sA R.start.length sc, .bool R.falls, .bool R.keeps, .slice eA R.ends.length ec, .int .i64 R.blocked, .int .i64 R.quiet, .int .i64 R.rept] 26)).alloc (.cells #[.slice cA P.cells.length cc, .slice aA P.hand0.length ac, .slice bA P.hand1.length bc, .int .i64 P.turn, .int .i64 P.quiet] 29)).alloc (.cells #[.slice dA Q.cells.length dc, .slice xA Q.hand0.length xc, .slice yA Q.hand1.length yc, .int .i64 Q.turn, .int .i64 Q.quiet] 29)) = w2 at *
  generalize w.heap.size + 1 + 1 = BQ at *
  generalize w.heap.size + 1 = BP at *
  generalize w.heap.size = BR at *
  refine (stored_any _).mono ?_
  rintro e w3 ⟨rfl, x⟩
  replace hR := hR.ext x
  replace hP := hP.ext x
  replace hQ := hQ.ext x
  replace kR := kR.ext x
  replace kP := kP.ext x
  replace kQ := kQ.ext x
  replace X := ext_trans X x
  clear x
  go_wp2_with fail
  refine (keyed_any _).mono ?_
  rintro e w4 ⟨rfl, x⟩
  replace hR := hR.ext x
  replace hP := hP.ext x
  replace hQ := hQ.ext x
  replace kR := kR.ext x
  replace kP := kP.ext x
  replace kQ := kQ.ext x
  replace X := ext_trans X x
  clear x
  have fR := kR.cell
  go_wp2_with fail
  have HF := hide (fun W (h : Ext w4 W) => And.intro (hR.ext h) (And.intro (hP.ext h) (And.intro (hQ.ext h) (And.intro (kR.ext h) (And.intro (kP.ext h) (And.intro (kQ.ext h) (ext_trans X h)))))))
  have HR0 := hide hR
  clear fR
  clear hR hP hQ kR kP kQ X
  have HN2 := hide (HN.out _ _ HR0.out)
  clear HN HR0
  obtain ⟨hR, hP, hQ, kR, kP, kQ, X⟩ := HF.out _ (Below.refl _ _)
  have fR := kR.cell
  go_wp2_with fail
  refine HN2.out.mono ?_
  rintro e wS0 ⟨BS, g, rfl, st⟩
  have S0 := hide st
  clear st HN2 hR hP hQ kR kP kQ X fR
  obtain ⟨hR, hP, hQ, kR, kP, kQ, X⟩ := HF.out _ S0.out.old
  have fR := kR.cell
  have fP := kP.cell
  have fQ := kQ.cell
  have HC0 := hide (Key_any R P _ _ _ hR hP)
  rw [HCP.out, if_pos rfl] at HC0
  go_wp2_with fail
  refine HC0.out.mono ?_
  rintro e wS1 ⟨rfl, x⟩
  have S1 := hide (S0.out.ext x)
  clear hR hP hQ kR kP kQ X fR fP fQ HC0
  try clear x
  try clear st fr
  clear S0
  obtain ⟨hR, hP, hQ, kR, kP, kQ, X⟩ := HF.out _ S1.out.old
  have fR := kR.cell
  have fP := kP.cell
  have fQ := kQ.cell
  have HC1 := hide (Key_any R Q _ _ _ hR hQ)
  rw [HCQ.out, if_pos rfl] at HC1
  go_wp2_with fail
  refine HC1.out.mono ?_
  rintro e wS2 ⟨rfl, x⟩
  have S2 := hide (S1.out.ext x)
  clear hR hP hQ kR kP kQ X fR fP fQ HC1
  try clear x
  try clear st fr
  clear S1
  obtain ⟨hR, hP, hQ, kR, kP, kQ, X⟩ := HF.out _ S2.out.old
  have fR := kR.cell
  have fP := kP.cell
  have fQ := kQ.cell
  have HC2 := hide (sPut_yes (s := 3) S2.out HL1.out.1 HL1.out.2 hP HPA.out (by omega) (by omega))
  unfold SPutOk at HC2
  go_wp2_with fail
  refine HC2.out.mono ?_
  rintro e wS3 ⟨rfl, st, fr⟩
  have S3 := hide (st)
  clear hR hP hQ kR kP kQ X fR fP fQ HC2
  try clear x
  try clear st fr
  clear S2
  obtain ⟨hR, hP, hQ, kR, kP, kQ, X⟩ := HF.out _ S3.out.old
  have fR := kR.cell
  have fP := kP.cell
  have fQ := kQ.cell
  clear hR hP hQ kR kP kQ X fR fP fQ
  obtain ⟨xe, kE⟩ := blks1 wS3 #[.int .i64 (0), .int .i64 (0), .int .i64 (0)] 32
  have SE3 := hide (S3.out.ext xe)
  have KE := hide kE
  clear xe kE
  go_wp2_with fail
  have HC3 := hide (fine_ext (fine_any (some ⟨wS3.heap.size, 0, none⟩) 3 3 [0, 0, 0] _ rfl (by omega) (blk_ints KE.out)))
  rw [show allZero [0, 0, 0] = true from rfl] at HC3
  refine HC3.out.mono ?_
  rintro e wS4 ⟨rfl, x⟩
  have S4 := hide (SE3.out.ext x)
  clear x HC3 KE SE3 S3
  obtain ⟨hR, hP, hQ, kR, kP, kQ, X⟩ := HF.out _ S4.out.old
  have fR := kR.cell
  have fP := kP.cell
  have fQ := kQ.cell
  have HC4 := hide (sPut_yes (s := 4) S4.out (HRL.out _ (by rw [putS_len, List.length_replicate])).1 (HRL.out _ (by rw [putS_len, List.length_replicate])).2 hQ HQA.out (by omega) (by omega))
  unfold SPutOk at HC4
  go_wp2_with fail
  refine HC4.out.mono ?_
  rintro e wS5 ⟨rfl, st, fr⟩
  have S5 := hide (st)
  clear hR hP hQ kR kP kQ X fR fP fQ HC4
  try clear x
  try clear st fr
  clear S4
  obtain ⟨hR, hP, hQ, kR, kP, kQ, X⟩ := HF.out _ S5.out.old
  have fR := kR.cell
  have fP := kP.cell
  have fQ := kQ.cell
  have HC5 := hide (sGet_yes (D := a) S5.out (HRL.out _ HLN.out).1 (HRL.out _ HLN.out).2 hP HPA.out HS2.out HB1.out)
  rw [HZZ.out] at HC5
  unfold SGetOk at HC5
  go_wp2_with fail
  refine HC5.out.mono ?_
  rintro e wS6 ⟨rfl, st, fr⟩
  have S6 := hide (st)
  clear hR hP hQ kR kP kQ X fR fP fQ HC5
  try clear x
  try clear st fr
  clear S5
  obtain ⟨hR, hP, hQ, kR, kP, kQ, X⟩ := HF.out _ S6.out.old
  have fR := kR.cell
  have fP := kP.cell
  have fQ := kQ.cell
  have hkP := keyM_bd P
  have hkQ := keyM_bd Q
  generalize slotI P (k + 1) = iP at *
  generalize slotI Q (k + 1) = iQ at *
  generalize keyM P = kyP at *
  generalize keyM Q = kyQ at *
  have tl : ((k : Int) + 1 == 0) = false := by simp; omega
  have HGQ := hide (fun W (h : Ext wS6 W) => sGet_yes (D := b) (S6.out.ext h) (HRL.out _ HLN.out).1 (HRL.out _ HLN.out).2 (hQ.ext h) HQA.out HS2.out HHB.out)
  rw [HSC.out] at HGQ
  unfold SGetOk at HGQ
  go_wp2_with (go_quiet (fail))
  refine (HGQ.out _ (ext_drewN (Below.refl _ _) _)).mono ?_
  rintro e wS7 ⟨rfl, st, fr⟩
  have S7 := hide st
  clear st fr HGQ hR hP hQ kR kP kQ X fR fP fQ S6
  obtain ⟨hR, hP, hQ, kR, kP, kQ, X⟩ := HF.out _ S7.out.old
  have X9 := hide X
  clear hR hP hQ kR kP kQ X
  go_wp2
  all_goals go_ret
  all_goals exact ⟨by first | rfl | simp, X9.out⟩
set_option maxHeartbeats 8000000 in
set_option maxRecDepth 100000 in
theorem storeSlots_gone (R : RulesM) (P Q : PosM) (v u u2 : Value) (a b s : Int) (w : World) (hR : RulesAt w v R) (hP : PosAt w u P) (hQ : PosAt w u2 Q) (k : Nat) (hK : (wrap64 (s.tmod 7 + 7)).tmod 7 = (k : Int)) (k1 : k < 7) (hV : Valid R) (hp : chkE R P a = 0) (hq : chkE R Q b = 0) (hap : slotI P (k + 1) = slotI Q (k + 1)) (hab : a ≤ b) (hb : (hasB ((putS (putS (List.replicate (k + 1) none) P a 3) Q b 4).getD (slotI P (putS (putS (List.replicate (k + 1) none) P a 3) Q b 4).length) none) P a) = false) :
    Calls Try.prog 13 #[v, u, u2, .int .i64 a, .int .i64 b, .int .i64 s] w fun e w' => e = .returned (.bool true) ∧ Ext w w' := by
  have HN := hide (fun W (v1 : Value) (h1 : RulesAt W v1 R) => sNew_yes R v1 (k + 1) W h1 hV (by omega) (by omega))
  rw [show ((k + 1 : Nat) : Int) = (k : Int) + 1 from by omega] at HN
  unfold SNewPost at HN
  have hwk : IntKind.i64.wrap ((k : Int) + 1) = (k : Int) + 1 := by rw [IntKind.wrap_i64]; omega
  have k0 : (0 : Int) ≤ (k : Int) := by omega
  have k2 : (k : Int) < 7 := by omega
  have HL1 : Hid (0 < (List.replicate (k + 1) (none : Option SlotM)).length ∧ (List.replicate (k + 1) (none : Option SlotM)).length ≤ 4096) := hide (by rw [List.length_replicate]; omega)
  have HSS0 := hide (soundS_new R (k + 1))
  have HRL : Hid (∀ L : List (Option SlotM), L.length = k + 1 → 0 < L.length ∧ L.length ≤ 4096) := hide (fun L h => by omega)
  have HPA := hide hp
  obtain ⟨hcP, -, -⟩ := chk_zero hp
  have HCP := hide hcP
  clear hp hcP
  have HQA := hide hq
  obtain ⟨hcQ, -, -⟩ := chk_zero hq
  have HCQ := hide hcQ
  have HSP := hide ((check_iff.1 HCP.out).2)
  have HSQ := hide ((check_iff.1 hcQ).2)
  have HS2 : Hid (SoundS R (putS (putS (List.replicate (k + 1) none) P a 3) Q b 4)) := hide ((HSS0.out.put HSP.out).put HSQ.out)
  have HLN : Hid ((putS (putS (List.replicate (k + 1) none) P a 3) Q b 4).length = k + 1) := hide (by rw [putS_len, putS_len, List.length_replicate])
  have hmP := keyM_mod P (show 0 < k + 1 by omega)
  have hmQ := keyM_mod Q (show 0 < k + 1 by omega)
  rw [show ((k + 1 : Nat) : Int) = (k : Int) + 1 from by omega] at hmP hmQ
  have hwu : IntKind.u64.wrap ((k : Int) + 1) = (k : Int) + 1 := by rw [IntKind.wrap_u64]; omega
  clear hq hcQ
  have hsf := slots_second (n := k + 1) (P := P) (Q := Q) (a := a) (b := b) (by omega) hap hab
  have HHB : Hid (hasB ((putS (putS (List.replicate (k + 1) none) P a 3) Q b 4).getD (slotI Q (putS (putS (List.replicate (k + 1) none) P a 3) Q b 4).length) none) Q b = true) := hide (by rw [HLN.out]; exact hsf.1)
  have HSC : Hid (scoreS ((putS (putS (List.replicate (k + 1) none) P a 3) Q b 4).getD (slotI Q (putS (putS (List.replicate (k + 1) none) P a 3) Q b 4).length) none) = 4) := hide (by rw [HLN.out]; exact hsf.2)
  have ta : (((slotI P (k + 1) : Nat) : Int) != ((slotI Q (k + 1) : Nat) : Int)) = false := by simp; omega
  have tb : decide (b < a) = false := decide_eq_false (by omega)
  have HB1 := hide hb
  clear hb hsf hap hab
  have hR0 := hR
  have hP0 := hP
  have hQ0 := hQ
  obtain ⟨pA, pc, sA, sc, eA, ec, rfl, -⟩ := hR0
  obtain ⟨cA, cc, aA, ac, bA, bc, rfl, -⟩ := hP0
  obtain ⟨dA, dc, xA, xc, yA, yc, rfl, -⟩ := hQ0
  go_enter Try.func13, Try.ntmps13
  go_wp2_with fail
  obtain ⟨xa, kR, kP, kQ⟩ := blks3 w #[.string R.name, .int .i64 R.width, .int .i64 R.height, .slice pA R.pieces.length pc, .slice sA R.start.length sc, .bool R.falls, .bool R.keeps, .slice eA R.ends.length ec, .int .i64 R.blocked, .int .i64 R.quiet, .int .i64 R.rept] 26 #[.slice cA P.cells.length cc, .slice aA P.hand0.length ac, .slice bA P.hand1.length bc, .int .i64 P.turn, .int .i64 P.quiet] 29 #[.slice dA Q.cells.length dc, .slice xA Q.hand0.length xc, .slice yA Q.hand1.length yc, .int .i64 Q.turn, .int .i64 Q.quiet] 29
  replace hR := hR.ext xa
  replace hP := hP.ext xa
  replace hQ := hQ.ext xa
  have X := xa
  clear xa
  generalize (((w.alloc (.cells #[.string R.name, .int .i64 R.width, .int .i64 R.height, .slice pA R.pieces.length pc, .slice sA R.start.length sc, .bool R.falls, .bool R.keeps, .slice eA R.ends.length ec, .int .i64 R.blocked, .int .i64 R.quiet, .int .i64 R.rept] 26)).alloc (.cells #[.slice cA P.cells.length cc, .slice aA P.hand0.length ac, .slice bA P.hand1.length bc, .int .i64 P.turn, .int .i64 P.quiet] 29)).alloc (.cells #[.slice dA Q.cells.length dc, .slice xA Q.hand0.length xc, .slice yA Q.hand1.length yc, .int .i64 Q.turn, .int .i64 Q.quiet] 29)) = w2 at *
  generalize w.heap.size + 1 + 1 = BQ at *
  generalize w.heap.size + 1 = BP at *
  generalize w.heap.size = BR at *
  refine (stored_any _).mono ?_
  rintro e w3 ⟨rfl, x⟩
  replace hR := hR.ext x
  replace hP := hP.ext x
  replace hQ := hQ.ext x
  replace kR := kR.ext x
  replace kP := kP.ext x
  replace kQ := kQ.ext x
  replace X := ext_trans X x
  clear x
  go_wp2_with fail
  refine (keyed_any _).mono ?_
  rintro e w4 ⟨rfl, x⟩
  replace hR := hR.ext x
  replace hP := hP.ext x
  replace hQ := hQ.ext x
  replace kR := kR.ext x
  replace kP := kP.ext x
  replace kQ := kQ.ext x
  replace X := ext_trans X x
  clear x
  have fR := kR.cell
  go_wp2_with fail
  have HF := hide (fun W (h : Ext w4 W) => And.intro (hR.ext h) (And.intro (hP.ext h) (And.intro (hQ.ext h) (And.intro (kR.ext h) (And.intro (kP.ext h) (And.intro (kQ.ext h) (ext_trans X h)))))))
  have HR0 := hide hR
  clear fR
  clear hR hP hQ kR kP kQ X
  have HN2 := hide (HN.out _ _ HR0.out)
  clear HN HR0
  obtain ⟨hR, hP, hQ, kR, kP, kQ, X⟩ := HF.out _ (Below.refl _ _)
  have fR := kR.cell
  go_wp2_with fail
  refine HN2.out.mono ?_
  rintro e wS0 ⟨BS, g, rfl, st⟩
  have S0 := hide st
  clear st HN2 hR hP hQ kR kP kQ X fR
  obtain ⟨hR, hP, hQ, kR, kP, kQ, X⟩ := HF.out _ S0.out.old
  have fR := kR.cell
  have fP := kP.cell
  have fQ := kQ.cell
  have HC0 := hide (Key_any R P _ _ _ hR hP)
  rw [HCP.out, if_pos rfl] at HC0
  go_wp2_with fail
  refine HC0.out.mono ?_
  rintro e wS1 ⟨rfl, x⟩
  have S1 := hide (S0.out.ext x)
  clear hR hP hQ kR kP kQ X fR fP fQ HC0
  try clear x
  try clear st fr
  clear S0
  obtain ⟨hR, hP, hQ, kR, kP, kQ, X⟩ := HF.out _ S1.out.old
  have fR := kR.cell
  have fP := kP.cell
  have fQ := kQ.cell
  have HC1 := hide (Key_any R Q _ _ _ hR hQ)
  rw [HCQ.out, if_pos rfl] at HC1
  go_wp2_with fail
  refine HC1.out.mono ?_
  rintro e wS2 ⟨rfl, x⟩
  have S2 := hide (S1.out.ext x)
  clear hR hP hQ kR kP kQ X fR fP fQ HC1
  try clear x
  try clear st fr
  clear S1
  obtain ⟨hR, hP, hQ, kR, kP, kQ, X⟩ := HF.out _ S2.out.old
  have fR := kR.cell
  have fP := kP.cell
  have fQ := kQ.cell
  have HC2 := hide (sPut_yes (s := 3) S2.out HL1.out.1 HL1.out.2 hP HPA.out (by omega) (by omega))
  unfold SPutOk at HC2
  go_wp2_with fail
  refine HC2.out.mono ?_
  rintro e wS3 ⟨rfl, st, fr⟩
  have S3 := hide (st)
  clear hR hP hQ kR kP kQ X fR fP fQ HC2
  try clear x
  try clear st fr
  clear S2
  obtain ⟨hR, hP, hQ, kR, kP, kQ, X⟩ := HF.out _ S3.out.old
  have fR := kR.cell
  have fP := kP.cell
  have fQ := kQ.cell
  clear hR hP hQ kR kP kQ X fR fP fQ
  obtain ⟨xe, kE⟩ := blks1 wS3 #[.int .i64 (0), .int .i64 (0), .int .i64 (0)] 32
  have SE3 := hide (S3.out.ext xe)
  have KE := hide kE
  clear xe kE
  go_wp2_with fail
  have HC3 := hide (fine_ext (fine_any (some ⟨wS3.heap.size, 0, none⟩) 3 3 [0, 0, 0] _ rfl (by omega) (blk_ints KE.out)))
  rw [show allZero [0, 0, 0] = true from rfl] at HC3
  refine HC3.out.mono ?_
  rintro e wS4 ⟨rfl, x⟩
  have S4 := hide (SE3.out.ext x)
  clear x HC3 KE SE3 S3
  obtain ⟨hR, hP, hQ, kR, kP, kQ, X⟩ := HF.out _ S4.out.old
  have fR := kR.cell
  have fP := kP.cell
  have fQ := kQ.cell
  have HC4 := hide (sPut_yes (s := 4) S4.out (HRL.out _ (by rw [putS_len, List.length_replicate])).1 (HRL.out _ (by rw [putS_len, List.length_replicate])).2 hQ HQA.out (by omega) (by omega))
  unfold SPutOk at HC4
  go_wp2_with fail
  refine HC4.out.mono ?_
  rintro e wS5 ⟨rfl, st, fr⟩
  have S5 := hide (st)
  clear hR hP hQ kR kP kQ X fR fP fQ HC4
  try clear x
  try clear st fr
  clear S4
  obtain ⟨hR, hP, hQ, kR, kP, kQ, X⟩ := HF.out _ S5.out.old
  have fR := kR.cell
  have fP := kP.cell
  have fQ := kQ.cell
  have HC5 := hide (sGet_none (D := a) S5.out (HRL.out _ HLN.out).1 (HRL.out _ HLN.out).2 hP HPA.out HS2.out HB1.out)
  go_wp2_with fail
  refine HC5.out.mono ?_
  rintro e wS6 ⟨rfl, x⟩
  have S6 := hide (S5.out.ext x)
  clear hR hP hQ kR kP kQ X fR fP fQ HC5
  try clear x
  try clear st fr
  clear S5
  obtain ⟨hR, hP, hQ, kR, kP, kQ, X⟩ := HF.out _ S6.out.old
  have fR := kR.cell
  have fP := kP.cell
  have fQ := kQ.cell
  have hkP := keyM_bd P
  have hkQ := keyM_bd Q
  generalize slotI P (k + 1) = iP at *
  generalize slotI Q (k + 1) = iQ at *
  generalize keyM P = kyP at *
  generalize keyM Q = kyQ at *
  have tl : ((k : Int) + 1 == 0) = false := by simp; omega
  have HGQ := hide (fun W (h : Ext wS6 W) => sGet_yes (D := b) (S6.out.ext h) (HRL.out _ HLN.out).1 (HRL.out _ HLN.out).2 (hQ.ext h) HQA.out HS2.out HHB.out)
  rw [HSC.out] at HGQ
  unfold SGetOk at HGQ
  go_wp2_with (go_quiet (fail))
  refine (HGQ.out _ (ext_drewN (Below.refl _ _) _)).mono ?_
  rintro e wS7 ⟨rfl, st, fr⟩
  have S7 := hide st
  clear st fr HGQ hR hP hQ kR kP kQ X fR fP fQ S6
  obtain ⟨hR, hP, hQ, kR, kP, kQ, X⟩ := HF.out _ S7.out.old
  have X9 := hide X
  clear hR hP hQ kR kP kQ X
  go_wp2
  all_goals go_ret
  all_goals exact ⟨by first | rfl | simp, X9.out⟩
theorem storeSlots_law (v : Value) (R : RulesM) (u : Value) (P : PosM) (u2 : Value) (Q : PosM) (a b s : Int) (w : World) (hR : RulesAt w v R) (hP : PosAt w u P) (hQ : PosAt w u2 Q) :
    Calls Try.prog 13 #[v, u, u2, .int .i64 a, .int .i64 b, .int .i64 s] w fun e w' => e = .returned (.bool true) ∧ Ext w w' := by
  obtain ⟨K, hK⟩ : ∃ K, (wrap64 (s.tmod 7 + 7)).tmod 7 = K := ⟨_, rfl⟩
  obtain ⟨q0, q1⟩ := slot_mod 7 (by omega) (by omega) s K hK
  obtain ⟨k, rfl⟩ := Int.eq_ofNat_of_zero_le q0
  have k1 : k < 7 := by omega
  by_cases he : rulesE R = 0
  · have hV := valid_of he
    by_cases hp : chkE R P a = 0
    · by_cases hc : checkE R Q = 0
      · by_cases hq : chkE R Q b = 0
        · by_cases hap : slotI P (k + 1) = slotI Q (k + 1)
          · by_cases hba : b < a
            · exact storeSlots_less R P Q v u u2 a b s w hR hP hQ k hK k1 hV hp hq hap hba
            · cases hb : (hasB ((putS (putS (List.replicate (k + 1) none) P a 3) Q b 4).getD (slotI P (putS (putS (List.replicate (k + 1) none) P a 3) Q b 4).length) none) P a)
              · exact storeSlots_gone R P Q v u u2 a b s w hR hP hQ k hK k1 hV hp hq hap (by omega) hb
              · exact storeSlots_more R P Q v u u2 a b s w hR hP hQ k hK k1 hV hp hq hap (by omega) hb
          · exact storeSlots_apart R P Q v u u2 a b s w hR hP hQ k hK k1 hV hp hq hap
        · exact storeSlots_qput R P Q v u u2 a b s w hR hP hQ k hK k1 hV hp hc hq
      · exact storeSlots_qbad R P Q v u u2 a b s w hR hP hQ k hK k1 hV hp hc
    · exact storeSlots_pbad R P Q v u u2 a b s w hR hP hQ k hK k1 hV hp
  · exact storeSlots_no R P Q v u u2 a b s w hR hP hQ k hK k1 he

end Go.Proofs.Ytfkcigekbgkcmaa
