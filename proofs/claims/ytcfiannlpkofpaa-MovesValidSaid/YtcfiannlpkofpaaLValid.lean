/- Walk: the law MovesValid. -/
import Derived.Test.YtcfiannlpkofpaaPlays
import Derived.Test.YtcfiannlpkofpaaSome
import Derived.Test.YtcfiannlpkofpaaRegionK
import Derived.Deep.DeepCutAuto
namespace Go.Proofs.Ytcfiannlpkofpaa
open Go.ChangeShapes Go.WideShapes Go.ChangeAt Go.RowKit Go.Shelf
set_option linter.unusedVariables false
set_option linter.unusedSimpArgs false
structure From (a b : World) : Prop where
  x : Ext a b
theorem From.ext {a b c : World} (h : From a b) (k : Ext b c) : From a c := ⟨ext_trans h.x k⟩
theorem moves_at {w : World} {b o n c : Nat} {L : List MoveM} (h : MovesAt w (.slice (some ⟨b, o, none⟩) n c) L) {k : Nat} {x : MoveM} (hk : L[k]? = some x) :
    w.cell? ⟨b, o + k * 3, none⟩ = some (.int .i64 x.src) ∧ w.cell? ⟨b, o + k * 3 + 1, none⟩ = some (.int .i64 x.dst) ∧ w.cell? ⟨b, o + k * 3 + 2, none⟩ = some (.int .i64 x.piece) := by
  obtain ⟨A, c', e, h⟩ := h
  simp only [Value.slice.injEq] at e
  obtain ⟨rfl, -, -⟩ := e
  obtain ⟨b', o', e, h0, h1, h2⟩ := moves_get h hk
  simp only [Option.some.injEq, Addr.mk.injEq, and_true] at e
  obtain ⟨rfl, rfl⟩ := e
  exact ⟨h0, h1, h2⟩
theorem strict_ne : ∀ {L : List MoveM} {j k : Nat} {x y : MoveM}, Strict L → L[j]? = some x → L[k]? = some y → j < k → x ≠ y
  | [], j, k, x, y, _, hj, _, _ => by simp at hj
  | a :: l, 0, k + 1, x, y, h, hj, hk, _ => by
    have h' := List.pairwise_cons.1 h
    simp only [List.getElem?_cons_zero, Option.some.injEq] at hj
    subst hj
    have hy := h'.1 y (List.mem_of_getElem? (by simpa using hk))
    rintro rfl
    exact ltM_irrefl _ hy
  | a :: l, j + 1, k + 1, x, y, h, hj, hk, hlt => by
    have h' := List.pairwise_cons.1 h
    exact strict_ne (L := l) h'.2 (by simpa using hj) (by simpa using hk) (by omega)
theorem pcheck_yes (R : RulesM) (P : PosM) (v u : Value) (w : World) (hR : RulesAt w v R) (hP : PosAt w u P) (hV : Valid R) (hS : Sound R P) :
    Calls Try.prog 23 #[v, u] w fun e w' => e = .returned (.int .i64 0) ∧ Ext w w' := by
  have h := PCheck_any R P v u w hR hP
  rw [check_iff.2 ⟨hV, hS⟩] at h
  exact h
set_option maxHeartbeats 4000000 in
set_option maxRecDepth 100000 in
theorem movesValid_no (R : RulesM) (P : PosM) (v u : Value) (m : MoveM) (w : World) (hR : RulesAt w v R) (hP : PosAt w u P) (h : checkE R P ≠ 0) :
    Calls Try.prog 5 #[v, u, .agg #[.int .i64 m.src, .int .i64 m.dst, .int .i64 m.piece]] w fun e w' => e = .returned (.bool true) ∧ Ext w w' := by
  have hR0 := hR
  have hP0 := hP
  obtain ⟨pA, pc, sA, sc, eA, ec, rfl, -⟩ := hR0
  obtain ⟨cA, cc, aA, ac, bA, bc, rfl, -⟩ := hP0
  have HCK := hide (fun W (v1 v2 : Value) (h1 : RulesAt W v1 threeR) (h2 : PosAt W v2 nearP) => PCheck_any threeR nearP v1 v2 W h1 h2)
  rw [check_iff.2 ⟨valid_three, sound_near⟩] at HCK
  go_enter Try.func5, Try.ntmps5
  go_wp2_with fail
  obtain ⟨xa, kR, kP, kM⟩ := blks3 w #[.string R.name, .int .i64 R.width, .int .i64 R.height, .slice pA R.pieces.length pc, .slice sA R.start.length sc, .bool R.falls, .bool R.keeps, .slice eA R.ends.length ec, .int .i64 R.blocked, .int .i64 R.quiet, .int .i64 R.rept] 26 #[.slice cA P.cells.length cc, .slice aA P.hand0.length ac, .slice bA P.hand1.length bc, .int .i64 P.turn, .int .i64 P.quiet] 36 #[.int .i64 m.src, .int .i64 m.dst, .int .i64 m.piece] 45
  replace hR := hR.ext xa
  replace hP := hP.ext xa
  have X := xa
  clear xa
  generalize (((w.alloc (.cells #[.string R.name, .int .i64 R.width, .int .i64 R.height, .slice pA R.pieces.length pc, .slice sA R.start.length sc, .bool R.falls, .bool R.keeps, .slice eA R.ends.length ec, .int .i64 R.blocked, .int .i64 R.quiet, .int .i64 R.rept] 26)).alloc (.cells #[.slice cA P.cells.length cc, .slice aA P.hand0.length ac, .slice bA P.hand1.length bc, .int .i64 P.turn, .int .i64 P.quiet] 36)).alloc (.cells #[.int .i64 m.src, .int .i64 m.dst, .int .i64 m.piece] 45)) = w2 at *
  generalize w.heap.size + 1 + 1 = BM at *
  generalize w.heap.size + 1 = BP at *
  generalize w.heap.size = BR at *
  refine (plays_any _).mono ?_
  rintro e w3 ⟨rfl, x⟩
  replace hR := hR.ext x
  replace hP := hP.ext x
  replace kR := kR.ext x
  replace kP := kP.ext x
  replace kM := kM.ext x
  replace X := ext_trans X x
  clear x
  go_wp2_with fail
  refine (three_any _).mono ?_
  rintro e w4 ⟨v1, rfl, h1, x⟩
  replace hR := hR.ext x
  replace hP := hP.ext x
  replace kR := kR.ext x
  replace kP := kP.ext x
  replace kM := kM.ext x
  replace X := ext_trans X x
  clear x
  go_wp2_with fail
  refine (near_any _).mono ?_
  rintro e w5 ⟨v2, rfl, h2, x⟩
  replace hR := hR.ext x
  replace hP := hP.ext x
  replace kR := kR.ext x
  replace kP := kP.ext x
  replace kM := kM.ext x
  replace h1 := h1.ext x
  replace X := ext_trans X x
  clear x
  replace h2 := h2.at_
  go_wp2_with fail
  refine (HCK.out _ _ _ h1 h2).mono ?_
  rintro e w6 ⟨rfl, x⟩
  replace hR := hR.ext x
  replace hP := hP.ext x
  replace kR := kR.ext x
  replace kP := kP.ext x
  replace kM := kM.ext x
  replace h1 := h1.ext x
  replace h2 := h2.ext x
  replace X := ext_trans X x
  clear x
  clear h1 h2
  clear HCK
  have fR := kR.cell
  have fP := kP.cell
  have fM := kM.cell
  go_wp2_with fail
  have hn : (checkE R P != 0) = true := by simpa using h
  have hn2 : (checkE R P == 0) = false := by simpa using h
  have HN := hide (fun W (v1 v2 : Value) (h1 : RulesAt W v1 R) (h2 : PosAt W v2 P) => All_no R P v1 v2 W h1 h2 h)
  clear h
  generalize checkE R P = E at *
  refine (HN.out _ _ _ hR hP).mono ?_
  rintro e w7 ⟨rfl, x⟩
  replace hR := hR.ext x
  replace hP := hP.ext x
  replace kR := kR.ext x
  replace kP := kP.ext x
  replace kM := kM.ext x
  replace X := ext_trans X x
  replace fR := kR.cell
  replace fP := kP.cell
  replace fM := kM.cell
  clear x
  clear fR fP fM
  go_wp2
  go_ret
  exact ⟨rfl, X⟩
set_option maxHeartbeats 4000000 in
set_option maxRecDepth 100000 in
theorem movesValid_yes (R : RulesM) (P : PosM) (v u : Value) (m : MoveM) (w : World) (hR : RulesAt w v R) (hP : PosAt w u P) (hV : Valid R) (hS : Sound R P) :
    Calls Try.prog 5 #[v, u, .agg #[.int .i64 m.src, .int .i64 m.dst, .int .i64 m.piece]] w fun e w' => e = .returned (.bool true) ∧ Ext w w' := by
  have hR0 := hR
  have hP0 := hP
  obtain ⟨pA, pc, sA, sc, eA, ec, rfl, -⟩ := hR0
  obtain ⟨cA, cc, aA, ac, bA, bc, rfl, -⟩ := hP0
  have HCK := hide (fun W (v1 v2 : Value) (h1 : RulesAt W v1 threeR) (h2 : PosAt W v2 nearP) => PCheck_any threeR nearP v1 v2 W h1 h2)
  rw [check_iff.2 ⟨valid_three, sound_near⟩] at HCK
  go_enter Try.func5, Try.ntmps5
  go_wp2_with fail
  obtain ⟨xa, kR, kP, kM⟩ := blks3 w #[.string R.name, .int .i64 R.width, .int .i64 R.height, .slice pA R.pieces.length pc, .slice sA R.start.length sc, .bool R.falls, .bool R.keeps, .slice eA R.ends.length ec, .int .i64 R.blocked, .int .i64 R.quiet, .int .i64 R.rept] 26 #[.slice cA P.cells.length cc, .slice aA P.hand0.length ac, .slice bA P.hand1.length bc, .int .i64 P.turn, .int .i64 P.quiet] 36 #[.int .i64 m.src, .int .i64 m.dst, .int .i64 m.piece] 45
  replace hR := hR.ext xa
  replace hP := hP.ext xa
  have X := xa
  clear xa
  generalize (((w.alloc (.cells #[.string R.name, .int .i64 R.width, .int .i64 R.height, .slice pA R.pieces.length pc, .slice sA R.start.length sc, .bool R.falls, .bool R.keeps, .slice eA R.ends.length ec, .int .i64 R.blocked, .int .i64 R.quiet, .int .i64 R.rept] 26)).alloc (.cells #[.slice cA P.cells.length cc, .slice aA P.hand0.length ac, .slice bA P.hand1.length bc, .int .i64 P.turn, .int .i64 P.quiet] 36)).alloc (.cells #[.int .i64 m.src, .int .i64 m.dst, .int .i64 m.piece] 45)) = w2 at *
  generalize w.heap.size + 1 + 1 = BM at *
  generalize w.heap.size + 1 = BP at *
  generalize w.heap.size = BR at *
  refine (plays_any _).mono ?_
  rintro e w3 ⟨rfl, x⟩
  replace hR := hR.ext x
  replace hP := hP.ext x
  replace kR := kR.ext x
  replace kP := kP.ext x
  replace kM := kM.ext x
  replace X := ext_trans X x
  clear x
  go_wp2_with fail
  refine (three_any _).mono ?_
  rintro e w4 ⟨v1, rfl, h1, x⟩
  replace hR := hR.ext x
  replace hP := hP.ext x
  replace kR := kR.ext x
  replace kP := kP.ext x
  replace kM := kM.ext x
  replace X := ext_trans X x
  clear x
  go_wp2_with fail
  refine (near_any _).mono ?_
  rintro e w5 ⟨v2, rfl, h2, x⟩
  replace hR := hR.ext x
  replace hP := hP.ext x
  replace kR := kR.ext x
  replace kP := kP.ext x
  replace kM := kM.ext x
  replace h1 := h1.ext x
  replace X := ext_trans X x
  clear x
  replace h2 := h2.at_
  go_wp2_with fail
  refine (HCK.out _ _ _ h1 h2).mono ?_
  rintro e w6 ⟨rfl, x⟩
  replace hR := hR.ext x
  replace hP := hP.ext x
  replace kR := kR.ext x
  replace kP := kP.ext x
  replace kM := kM.ext x
  replace h1 := h1.ext x
  replace h2 := h2.ext x
  replace X := ext_trans X x
  clear x
  clear h1 h2
  clear HCK
  have fR := kR.cell
  have fP := kP.cell
  have fM := kM.cell
  go_wp2_with fail
  have HA := hide (fun (y : MoveM) (hy : y ∈ listM R P) W (v1 v2 : Value) (h1 : RulesAt W v1 R) (h2 : PosAt W v2 P) => After_yes R P y v1 v2 W h1 h2 hV hS hy)
  have HI := hide (fun (y : MoveM) (hy : ¬ y ∈ listM R P) W (v1 v2 : Value) (h1 : RulesAt W v1 R) (h2 : PosAt W v2 P) => After_ill R P y v1 v2 W h1 h2 hV hS hy)
  have HG := hide (fun (y : MoveM) W (v1 v2 : Value) (h1 : RulesAt W v1 R) (h2 : PosAt W v2 P) => Legal_yes R P y v1 v2 W h1 h2 hV hS)
  have HC := hide (fun (y : MoveM) (hy : y ∈ listM R P) W (v1 v2 : Value) (h1 : RulesAt W v1 R) (h2 : PosAt W v2 (makeM R P y)) => pcheck_yes R (makeM R P y) v1 v2 W h1 h2 hV (sound_make hV hS (mem_listM.1 hy)))
  have HTN := hide (fun (y : MoveM) => (show (makeM R P y).turn = 1 - P.turn from rfl))
  have HL := hide (fun W (v1 v2 : Value) (h1 : RulesAt W v1 R) (h2 : PosAt W v2 P) => All_yes R P v1 v2 W h1 h2 hV hS)
  have HLL := hide (listM_len hV hS)
  have hll := HLL.out
  have HST := hide (strict_listOf (rawM R P))
  have HCO := hide (fun (y : MoveM) v W (h : MovesAt W v (listM R P)) => Contains_any (listM R P) y v W h HLL.out)
  rw [show listOf (rawM R P) = listM R P from rfl] at HST
  have ht0 : 0 ≤ P.turn := by have := hS.turn; omega
  have ht1 : P.turn ≤ 1 := by have := hS.turn; omega
  clear hV hS
  generalize listM R P = L at *
  refine (HL.out _ _ _ hR hP).mono ?_
  rintro e w7 ⟨v5, rfl, h5, x⟩
  replace hR := hR.ext x
  replace hP := hP.ext x
  replace kR := kR.ext x
  replace kP := kP.ext x
  replace kM := kM.ext x
  replace X := ext_trans X x
  replace fR := kR.cell
  replace fP := kP.cell
  replace fM := kM.cell
  clear x
  replace h5 := h5.at_
  have h5v := h5
  obtain ⟨A5, c5, rfl, -⟩ := h5v
  clear fR fP fM
  have HF := hide (fun W (h : Ext w7 W) => And.intro (hR.ext h) (And.intro (hP.ext h) (And.intro (kR.ext h) (And.intro (kP.ext h) (And.intro (kM.ext h) (And.intro (h5.ext h) (ext_trans X h)))))))
  clear hR hP kR kP kM h5 X HL
  go_wp2
  go_loopw [38] (fun i wr => ∃ k : Nat, k ≤ L.length ∧ i = .int .i64 k ∧ Ext w7 wr) (fun i _ => L.length - (intOf i).toNat)
  case atStart => exact ⟨0, Nat.zero_le _, rfl, Below.refl _ _⟩
  case round =>
    obtain ⟨k, hk, rfl, x⟩ := hrel
    have XB := hide x
    obtain ⟨hR, hP, kR, kP, kM, h5, X⟩ := HF.out _ x
    clear x
    by_cases hlt : k < L.length
    · obtain ⟨y, hy⟩ : ∃ y, L[k]? = some y := ⟨L[k], List.getElem?_eq_getElem _⟩
      obtain ⟨A5', c5', e5, m5⟩ := id h5
      simp only [Value.slice.injEq] at e5
      obtain ⟨rfl, -, -⟩ := e5
      obtain ⟨b, o, rfl, d0, d1, d2⟩ := moves_get m5 hy
      have HY := hide (List.mem_of_getElem? hy)
      have HK := hide hy
      have j0 : (0 : Int) ≤ (k : Int) := by omega
      have j1 : (k : Int) < (L.length : Int) := by omega
      clear hy m5
      have hZ : From wr wr := ⟨Below.refl _ _⟩
      clear kM
      have fR := kR.cell
      have fP := kP.cell
      obtain ⟨xa, kY⟩ := blks1 wr #[.int .i64 y.src, .int .i64 y.dst, .int .i64 y.piece] 45
      replace hR := hR.ext xa
      replace hP := hP.ext xa
      replace kR := kR.ext xa
      replace kP := kP.ext xa
      replace h5 := h5.ext xa
      replace hZ := hZ.ext xa
      replace X := ext_trans X xa
      have fR' := kR.cell
      have fP' := kP.cell
      clear xa
      go_wp2_with fail
      generalize (wr.alloc (.cells #[.int .i64 y.src, .int .i64 y.dst, .int .i64 y.piece] 45)) = w2 at *
      generalize wr.heap.size = BY at *
      replace fR := kR.cell
      clear fR'
      replace fP := kP.cell
      clear fP'
      clear d0 d1 d2
      have fY := kY.cell
      refine (HA.out y HY.out _ _ _ hR hP).mono ?_
      rintro e w3 ⟨v6, rfl, h6, x⟩
      replace hR := hR.ext x
      replace hP := hP.ext x
      replace kR := kR.ext x
      replace kP := kP.ext x
      replace h5 := h5.ext x
      replace hZ := hZ.ext x
      replace kY := kY.ext x
      replace X := ext_trans X x
      replace fR := kR.cell
      replace fP := kP.cell
      replace fY := kY.cell
      clear x
      replace h6 := h6.at_
      have h6v := h6
      obtain ⟨cA6, cc6, aA6, ac6, bA6, bc6, rfl, -⟩ := h6v
      have HC2 := hide (HC.out y HY.out)
      have tq := HTN.out y
      have HTQ := hide tq
      clear tq
      generalize makeM R P y = Q at *
      have tq : (Q.turn != 1 - P.turn) = false := by rw [HTQ.out]; simp
      have hsw := hide (show IntKind.i64.wrap (1 - P.turn) = 1 - P.turn by rw [IntKind.wrap_i64]; omega)
      obtain ⟨xa, k6⟩ := blks1 w3 #[.slice cA6 Q.cells.length cc6, .slice aA6 Q.hand0.length ac6, .slice bA6 Q.hand1.length bc6, .int .i64 Q.turn, .int .i64 Q.quiet] 36
      replace hR := hR.ext xa
      replace hP := hP.ext xa
      replace kR := kR.ext xa
      replace kP := kP.ext xa
      replace h5 := h5.ext xa
      replace hZ := hZ.ext xa
      replace kY := kY.ext xa
      replace h6 := h6.ext xa
      replace X := ext_trans X xa
      have fR' := kR.cell
      have fP' := kP.cell
      have fY' := kY.cell
      clear xa
      go_wp2_with fail
      generalize (w3.alloc (.cells #[.slice cA6 Q.cells.length cc6, .slice aA6 Q.hand0.length ac6, .slice bA6 Q.hand1.length bc6, .int .i64 Q.turn, .int .i64 Q.quiet] 36)) = w4 at *
      generalize w3.heap.size = B6 at *
      replace fR := kR.cell
      clear fR'
      replace fP := kP.cell
      clear fP'
      replace fY := kY.cell
      clear fY'
      clear fR fP fY
      have KR := hide kR
      have KP := hide kP
      have KY := hide kY
      have K6 := hide k6
      have H5 := hide h5
      have H6 := hide h6
      have HR := hide hR
      have XR := hide hZ.x
      clear kR kP kY k6 h5 h6 hR hP X hZ
      skip
      by_cases hk0 : k = 0
      · have sw := hsw.out
        subst hk0
        have tk : decide ((0 : Int) < (0 : Nat)) = false := by decide
        have keepK := hide (fun W (h : Ext w4 W) => (show (fun W => W.cell? ⟨BR, 0, none⟩ = some (.string R.name) ∧ W.cell? ⟨BR, 1, none⟩ = some (.int .i64 R.width) ∧ W.cell? ⟨BR, 2, none⟩ = some (.int .i64 R.height) ∧ W.cell? ⟨BR, 3, none⟩ = some (.slice pA R.pieces.length pc) ∧ W.cell? ⟨BR, 4, none⟩ = some (.slice sA R.start.length sc) ∧ W.cell? ⟨BR, 5, none⟩ = some (.bool R.falls) ∧ W.cell? ⟨BR, 6, none⟩ = some (.bool R.keeps) ∧ W.cell? ⟨BR, 7, none⟩ = some (.slice eA R.ends.length ec) ∧ W.cell? ⟨BR, 8, none⟩ = some (.int .i64 R.blocked) ∧ W.cell? ⟨BR, 9, none⟩ = some (.int .i64 R.quiet) ∧ W.cell? ⟨BR, 10, none⟩ = some (.int .i64 R.rept) ∧ W.cell? ⟨B6, 0, none⟩ = some (.slice cA6 Q.cells.length cc6) ∧ W.cell? ⟨B6, 1, none⟩ = some (.slice aA6 Q.hand0.length ac6) ∧ W.cell? ⟨B6, 2, none⟩ = some (.slice bA6 Q.hand1.length bc6) ∧ W.cell? ⟨B6, 3, none⟩ = some (.int .i64 Q.turn) ∧ W.cell? ⟨B6, 4, none⟩ = some (.int .i64 Q.quiet) ∧ W.cell? ⟨BP, 3, none⟩ = some (.int .i64 P.turn) ∧ Ext w4 W) W from ⟨(KR.out.ext h).cell 0, (KR.out.ext h).cell 1, (KR.out.ext h).cell 2, (KR.out.ext h).cell 3, (KR.out.ext h).cell 4, (KR.out.ext h).cell 5, (KR.out.ext h).cell 6, (KR.out.ext h).cell 7, (KR.out.ext h).cell 8, (KR.out.ext h).cell 9, (KR.out.ext h).cell 10, (K6.out.ext h).cell 0, (K6.out.ext h).cell 1, (K6.out.ext h).cell 2, (K6.out.ext h).cell 3, (K6.out.ext h).cell 4, (KP.out.ext h).cell 3, h⟩))
        have yy : Ext w4 w4.drew := Below.drew (Below.refl _ _)
        refine region_K (fun W => W.cell? ⟨BR, 0, none⟩ = some (.string R.name) ∧ W.cell? ⟨BR, 1, none⟩ = some (.int .i64 R.width) ∧ W.cell? ⟨BR, 2, none⟩ = some (.int .i64 R.height) ∧ W.cell? ⟨BR, 3, none⟩ = some (.slice pA R.pieces.length pc) ∧ W.cell? ⟨BR, 4, none⟩ = some (.slice sA R.start.length sc) ∧ W.cell? ⟨BR, 5, none⟩ = some (.bool R.falls) ∧ W.cell? ⟨BR, 6, none⟩ = some (.bool R.keeps) ∧ W.cell? ⟨BR, 7, none⟩ = some (.slice eA R.ends.length ec) ∧ W.cell? ⟨BR, 8, none⟩ = some (.int .i64 R.blocked) ∧ W.cell? ⟨BR, 9, none⟩ = some (.int .i64 R.quiet) ∧ W.cell? ⟨BR, 10, none⟩ = some (.int .i64 R.rept) ∧ W.cell? ⟨B6, 0, none⟩ = some (.slice cA6 Q.cells.length cc6) ∧ W.cell? ⟨B6, 1, none⟩ = some (.slice aA6 Q.hand0.length ac6) ∧ W.cell? ⟨B6, 2, none⟩ = some (.slice bA6 Q.hand1.length bc6) ∧ W.cell? ⟨B6, 3, none⟩ = some (.int .i64 Q.turn) ∧ W.cell? ⟨B6, 4, none⟩ = some (.int .i64 Q.quiet) ∧ W.cell? ⟨BP, 3, none⟩ = some (.int .i64 P.turn) ∧ Ext w4 W) (fun _ => True) [] (by kernel_rfl) ?_
        have hT0 := keepK.out _ yy
        refine anyK_take 0 (oi := ?oo1) ?ho1 (by kernel_rfl) (by kernel_rfl) (by kernel_rfl) (by kernel_rfl) ?hq1 ?hw1 hT0 (fun _ => trivial) (v := ?vv1) ?hy1 ?hk1
        case ho1 => (simp only [List.getElem?_toArray, List.getElem?_cons_succ, List.getElem?_cons_zero]; rfl)
        case hq1 => exact fun _ _ _ h => h
        case hw1 => rfl
        case hy1 =>
          intro W hW
          go_simp
          first | done | with_reducible rfl
        case hk1 =>
        try simp only [Act.put, List.setIfInBounds_toArray, List.set_cons_zero, List.set_cons_succ]
        refine anyK_take 1 (oi := ?oo2) ?ho2 (by kernel_rfl) (by kernel_rfl) (by kernel_rfl) (by kernel_rfl) ?hq2 ?hw2 hT0 (fun _ => trivial) (v := ?vv2) ?hy2 ?hk2
        case ho2 => (simp only [List.getElem?_toArray, List.getElem?_cons_succ, List.getElem?_cons_zero]; rfl)
        case hq2 => exact fun _ _ _ h => h
        case hw2 => rfl
        case hy2 =>
          intro W hW
          go_simp
          first | done | with_reducible rfl
        case hk2 =>
        try simp only [Act.put, List.setIfInBounds_toArray, List.set_cons_zero, List.set_cons_succ]
        refine anyK_take 2 (oi := ?oo3) ?ho3 (by kernel_rfl) (by kernel_rfl) (by kernel_rfl) (by kernel_rfl) ?hq3 ?hw3 hT0 (fun _ => trivial) (v := ?vv3) ?hy3 ?hk3
        case ho3 => (simp only [List.getElem?_toArray, List.getElem?_cons_succ, List.getElem?_cons_zero]; rfl)
        case hq3 => exact fun _ _ _ h => h
        case hw3 => rfl
        case hy3 =>
          intro W hW
          go_simp
          first | done | with_reducible rfl
        case hk3 =>
        try simp only [Act.put, List.setIfInBounds_toArray, List.set_cons_zero, List.set_cons_succ]
        refine anyK_take 3 (oi := ?oo4) ?ho4 (by kernel_rfl) (by kernel_rfl) (by kernel_rfl) (by kernel_rfl) ?hq4 ?hw4 hT0 (fun _ => trivial) (v := ?vv4) ?hy4 ?hk4
        case ho4 => (simp only [List.getElem?_toArray, List.getElem?_cons_succ, List.getElem?_cons_zero]; rfl)
        case hq4 => exact fun _ _ _ h => h
        case hw4 => rfl
        case hy4 =>
          intro W hW
          obtain ⟨z0, z1, z2, z3, z4, z5, z6, z7, z8, z9, z10, z11, z12, z13, z14, z15, z16, z17⟩ := hW
          go_simp
          first | done | with_reducible rfl
        case hk4 =>
        try simp only [Act.put, List.setIfInBounds_toArray, List.set_cons_zero, List.set_cons_succ]
        refine anyK_take 4 (oi := ?oo5) ?ho5 (by kernel_rfl) (by kernel_rfl) (by kernel_rfl) (by kernel_rfl) ?hq5 ?hw5 hT0 (fun _ => trivial) (v := ?vv5) ?hy5 ?hk5
        case ho5 => (simp only [List.getElem?_toArray, List.getElem?_cons_succ, List.getElem?_cons_zero]; rfl)
        case hq5 => exact fun _ _ _ h => h
        case hw5 => rfl
        case hy5 =>
          intro W hW
          obtain ⟨z0, z1, z2, z3, z4, z5, z6, z7, z8, z9, z10, z11, z12, z13, z14, z15, z16, z17⟩ := hW
          go_simp
          first | done | with_reducible rfl
        case hk5 =>
        try simp only [Act.put, List.setIfInBounds_toArray, List.set_cons_zero, List.set_cons_succ]
        refine anyK_on1 5 (by kernel_rfl) ?_
        refine anyK_one 5 (o := ?oo6) ?ho6 ?hk6
        case ho6 => (simp only [List.getElem?_toArray, List.getElem?_cons_succ, List.getElem?_cons_zero]; rfl)
        case hk6 =>
        intro K hK
        go_simp
        refine (HC2.out _ _ _ (HR.out.ext yy) (H6.out.ext yy)).mono ?_
        rintro e wz ⟨rfl, xx⟩
        try go_wp2_with fail
        replace yy := ext_trans yy xx
        have hT1 := keepK.out _ yy
        refine hK.out _ _ hT1 (fun _ => trivial) ?_
        clear hK K
        try simp only [Act.put, List.setIfInBounds_toArray, List.set_cons_zero, List.set_cons_succ]
        refine anyK_take 6 (oi := ?oo7) ?ho7 (by kernel_rfl) (by kernel_rfl) (by kernel_rfl) (by kernel_rfl) ?hq7 ?hw7 hT1 (fun _ => trivial) (v := ?vv7) ?hy7 ?hk7
        case ho7 => (simp only [List.getElem?_toArray, List.getElem?_cons_succ, List.getElem?_cons_zero]; rfl)
        case hq7 => exact fun _ _ _ h => h
        case hw7 => rfl
        case hy7 =>
          intro W hW
          go_simp
          first | done | with_reducible rfl
        case hk7 =>
        try simp only [Act.put, List.setIfInBounds_toArray, List.set_cons_zero, List.set_cons_succ]
        refine anyK_take 7 (oi := ?oo8) ?ho8 (by kernel_rfl) (by kernel_rfl) (by kernel_rfl) (by kernel_rfl) ?hq8 ?hw8 hT1 (fun _ => trivial) (v := ?vv8) ?hy8 ?hk8
        case ho8 => (simp only [List.getElem?_toArray, List.getElem?_cons_succ, List.getElem?_cons_zero]; rfl)
        case hq8 => exact fun _ _ _ h => h
        case hw8 => rfl
        case hy8 =>
          intro W hW
          go_simp
          first | done | with_reducible rfl
        case hk8 =>
        try simp only [Act.put, List.setIfInBounds_toArray, List.set_cons_zero, List.set_cons_succ]
        refine anyK_take 8 (oi := ?oo9) ?ho9 (by kernel_rfl) (by kernel_rfl) (by kernel_rfl) (by kernel_rfl) ?hq9 ?hw9 hT1 (fun _ => trivial) (v := ?vv9) ?hy9 ?hk9
        case ho9 => (simp only [List.getElem?_toArray, List.getElem?_cons_succ, List.getElem?_cons_zero]; rfl)
        case hq9 => exact fun _ _ _ h => h
        case hw9 => rfl
        case hy9 =>
          intro W hW
          go_simp
          first | done | with_reducible rfl
        case hk9 =>
        try simp only [Act.put, List.setIfInBounds_toArray, List.set_cons_zero, List.set_cons_succ]
        refine anyK_take 9 (oi := ?oo10) ?ho10 (by kernel_rfl) (by kernel_rfl) (by kernel_rfl) (by kernel_rfl) ?hq10 ?hw10 hT1 (fun _ => trivial) (v := ?vv10) ?hy10 ?hk10
        case ho10 => (simp only [List.getElem?_toArray, List.getElem?_cons_succ, List.getElem?_cons_zero]; rfl)
        case hq10 => exact fun _ _ _ h => h
        case hw10 => rfl
        case hy10 =>
          intro W hW
          go_simp
          first | done | with_reducible rfl
        case hk10 =>
        try simp only [Act.put, List.setIfInBounds_toArray, List.set_cons_zero, List.set_cons_succ]
        refine anyK_take 10 (oi := ?oo11) ?ho11 (by kernel_rfl) (by kernel_rfl) (by kernel_rfl) (by kernel_rfl) ?hq11 ?hw11 hT1 (fun _ => trivial) (v := ?vv11) ?hy11 ?hk11
        case ho11 => (simp only [List.getElem?_toArray, List.getElem?_cons_succ, List.getElem?_cons_zero]; rfl)
        case hq11 => exact fun _ _ _ h => h
        case hw11 => rfl
        case hy11 =>
          intro W hW
          obtain ⟨z0, z1, z2, z3, z4, z5, z6, z7, z8, z9, z10, z11, z12, z13, z14, z15, z16, z17⟩ := hW
          go_simp
          first | done | with_reducible rfl
        case hk11 =>
        try simp only [Act.put, List.setIfInBounds_toArray, List.set_cons_zero, List.set_cons_succ]
        refine anyK_take 11 (oi := ?oo12) ?ho12 (by kernel_rfl) (by kernel_rfl) (by kernel_rfl) (by kernel_rfl) ?hq12 ?hw12 hT1 (fun _ => trivial) (v := ?vv12) ?hy12 ?hk12
        case ho12 => (simp only [List.getElem?_toArray, List.getElem?_cons_succ, List.getElem?_cons_zero]; rfl)
        case hq12 => exact fun _ _ _ h => h
        case hw12 => rfl
        case hy12 =>
          intro W hW
          go_simp
          first | done | with_reducible rfl
        case hk12 =>
        try simp only [Act.put, List.setIfInBounds_toArray, List.set_cons_zero, List.set_cons_succ]
        refine anyK_take 12 (oi := ?oo13) ?ho13 (by kernel_rfl) (by kernel_rfl) (by kernel_rfl) (by kernel_rfl) ?hq13 ?hw13 hT1 (fun _ => trivial) (v := ?vv13) ?hy13 ?hk13
        case ho13 => (simp only [List.getElem?_toArray, List.getElem?_cons_succ, List.getElem?_cons_zero]; rfl)
        case hq13 => exact fun _ _ _ h => h
        case hw13 => rfl
        case hy13 =>
          intro W hW
          obtain ⟨z0, z1, z2, z3, z4, z5, z6, z7, z8, z9, z10, z11, z12, z13, z14, z15, z16, z17⟩ := hW
          go_simp
          first | done | with_reducible rfl
        case hk13 =>
        try simp only [Act.put, List.setIfInBounds_toArray, List.set_cons_zero, List.set_cons_succ]
        refine anyK_take 13 (oi := ?oo14) ?ho14 (by kernel_rfl) (by kernel_rfl) (by kernel_rfl) (by kernel_rfl) ?hq14 ?hw14 hT1 (fun _ => trivial) (v := ?vv14) ?hy14 ?hk14
        case ho14 => (simp only [List.getElem?_toArray, List.getElem?_cons_succ, List.getElem?_cons_zero]; rfl)
        case hq14 => exact fun _ _ _ h => h
        case hw14 => rfl
        case hy14 =>
          intro W hW
          go_simp
          first | done | with_reducible rfl
        case hk14 =>
        try simp only [Act.put, List.setIfInBounds_toArray, List.set_cons_zero, List.set_cons_succ]
        refine anyK_take 14 (oi := ?oo15) ?ho15 (by kernel_rfl) (by kernel_rfl) (by kernel_rfl) (by kernel_rfl) ?hq15 ?hw15 hT1 (fun _ => trivial) (v := ?vv15) ?hy15 ?hk15
        case ho15 => (simp only [List.getElem?_toArray, List.getElem?_cons_succ, List.getElem?_cons_zero]; rfl)
        case hq15 => exact fun _ _ _ h => h
        case hw15 => rfl
        case hy15 =>
          intro W hW
          go_simp
          first | done | with_reducible rfl
        case hk15 =>
        try simp only [Act.put, List.setIfInBounds_toArray, List.set_cons_zero, List.set_cons_succ]
        refine anyK_take 15 (oi := ?oo16) ?ho16 (by kernel_rfl) (by kernel_rfl) (by kernel_rfl) (by kernel_rfl) ?hq16 ?hw16 hT1 (fun _ => trivial) (v := ?vv16) ?hy16 ?hk16
        case ho16 => (simp only [List.getElem?_toArray, List.getElem?_cons_succ, List.getElem?_cons_zero]; rfl)
        case hq16 => exact fun _ _ _ h => h
        case hw16 => rfl
        case hy16 =>
          intro W hW
          go_simp
          first | done | with_reducible rfl
        case hk16 =>
        try simp only [Act.put, List.setIfInBounds_toArray, List.set_cons_zero, List.set_cons_succ]
        refine anyK_take 16 (oi := ?oo17) ?ho17 (by kernel_rfl) (by kernel_rfl) (by kernel_rfl) (by kernel_rfl) ?hq17 ?hw17 hT1 (fun _ => trivial) (v := ?vv17) ?hy17 ?hk17
        case ho17 => (simp only [List.getElem?_toArray, List.getElem?_cons_succ, List.getElem?_cons_zero]; rfl)
        case hq17 => exact fun _ _ _ h => h
        case hw17 => rfl
        case hy17 =>
          intro W hW
          go_simp
          first | done | with_reducible rfl
        case hk17 =>
        try simp only [Act.put, List.setIfInBounds_toArray, List.set_cons_zero, List.set_cons_succ]
        refine anyK_take 17 (oi := ?oo18) ?ho18 (by kernel_rfl) (by kernel_rfl) (by kernel_rfl) (by kernel_rfl) ?hq18 ?hw18 hT1 (fun _ => trivial) (v := ?vv18) ?hy18 ?hk18
        case ho18 => (simp only [List.getElem?_toArray, List.getElem?_cons_succ, List.getElem?_cons_zero]; rfl)
        case hq18 => exact fun _ _ _ h => h
        case hw18 => rfl
        case hy18 =>
          intro W hW
          go_simp
          first | done | with_reducible rfl
        case hk18 =>
        try simp only [Act.put, List.setIfInBounds_toArray, List.set_cons_zero, List.set_cons_succ]
        refine anyK_take 18 (oi := ?oo19) ?ho19 (by kernel_rfl) (by kernel_rfl) (by kernel_rfl) (by kernel_rfl) ?hq19 ?hw19 hT1 (fun _ => trivial) (v := ?vv19) ?hy19 ?hk19
        case ho19 => (simp only [List.getElem?_toArray, List.getElem?_cons_succ, List.getElem?_cons_zero]; rfl)
        case hq19 => exact fun _ _ _ h => h
        case hw19 => rfl
        case hy19 =>
          intro W hW
          go_simp
          first | done | with_reducible rfl
        case hk19 =>
        try simp only [Act.put, List.setIfInBounds_toArray, List.set_cons_zero, List.set_cons_succ]
        refine anyK_take 19 (oi := ?oo20) ?ho20 (by kernel_rfl) (by kernel_rfl) (by kernel_rfl) (by kernel_rfl) ?hq20 ?hw20 hT1 (fun _ => trivial) (v := ?vv20) ?hy20 ?hk20
        case ho20 => (simp only [List.getElem?_toArray, List.getElem?_cons_succ, List.getElem?_cons_zero]; rfl)
        case hq20 => exact fun _ _ _ h => h
        case hw20 => rfl
        case hy20 =>
          intro W hW
          go_simp
          first | done | with_reducible rfl
        case hk20 =>
        try simp only [Act.put, List.setIfInBounds_toArray, List.set_cons_zero, List.set_cons_succ]
        refine anyK_skip 20 (oi := ?oo21) ?ho21 (by kernel_rfl) (by kernel_rfl) (by kernel_rfl) (by kernel_rfl) ?hq21 ?hw21 hT1 (fun _ => trivial) ?hk21
        case ho21 => (simp only [List.getElem?_toArray, List.getElem?_cons_succ, List.getElem?_cons_zero]; rfl)
        case hq21 => exact fun _ _ _ h => h
        case hw21 => rfl
        case hk21 =>
        try simp only [Act.put, List.setIfInBounds_toArray, List.set_cons_zero, List.set_cons_succ]
        refine anyK_skip 21 (oi := ?oo22) ?ho22 (by kernel_rfl) (by kernel_rfl) (by kernel_rfl) (by kernel_rfl) ?hq22 ?hw22 hT1 (fun _ => trivial) ?hk22
        case ho22 => (simp only [List.getElem?_toArray, List.getElem?_cons_succ, List.getElem?_cons_zero]; rfl)
        case hq22 => exact fun _ _ _ h => h
        case hw22 => rfl
        case hk22 =>
        try simp only [Act.put, List.setIfInBounds_toArray, List.set_cons_zero, List.set_cons_succ]
        refine anyK_skip 22 (oi := ?oo23) ?ho23 (by kernel_rfl) (by kernel_rfl) (by kernel_rfl) (by kernel_rfl) ?hq23 ?hw23 hT1 (fun _ => trivial) ?hk23
        case ho23 => (simp only [List.getElem?_toArray, List.getElem?_cons_succ, List.getElem?_cons_zero]; rfl)
        case hq23 => exact fun _ _ _ h => h
        case hw23 => rfl
        case hk23 =>
        try simp only [Act.put, List.setIfInBounds_toArray, List.set_cons_zero, List.set_cons_succ]
        refine anyK_skip 23 (oi := ?oo24) ?ho24 (by kernel_rfl) (by kernel_rfl) (by kernel_rfl) (by kernel_rfl) ?hq24 ?hw24 hT1 (fun _ => trivial) ?hk24
        case ho24 => (simp only [List.getElem?_toArray, List.getElem?_cons_succ, List.getElem?_cons_zero]; rfl)
        case hq24 => exact fun _ _ _ h => h
        case hw24 => rfl
        case hk24 =>
        try simp only [Act.put, List.setIfInBounds_toArray, List.set_cons_zero, List.set_cons_succ]
        refine anyK_skip 24 (oi := ?oo25) ?ho25 (by kernel_rfl) (by kernel_rfl) (by kernel_rfl) (by kernel_rfl) ?hq25 ?hw25 hT1 (fun _ => trivial) ?hk25
        case ho25 => (simp only [List.getElem?_toArray, List.getElem?_cons_succ, List.getElem?_cons_zero]; rfl)
        case hq25 => exact fun _ _ _ h => h
        case hw25 => rfl
        case hk25 =>
        try simp only [Act.put, List.setIfInBounds_toArray, List.set_cons_zero, List.set_cons_succ]
        refine anyK_skip 25 (oi := ?oo26) ?ho26 (by kernel_rfl) (by kernel_rfl) (by kernel_rfl) (by kernel_rfl) ?hq26 ?hw26 hT1 (fun _ => trivial) ?hk26
        case ho26 => (simp only [List.getElem?_toArray, List.getElem?_cons_succ, List.getElem?_cons_zero]; rfl)
        case hq26 => exact fun _ _ _ h => h
        case hw26 => rfl
        case hk26 =>
        try simp only [Act.put, List.setIfInBounds_toArray, List.set_cons_zero, List.set_cons_succ]
        refine anyK_skip 26 (oi := ?oo27) ?ho27 (by kernel_rfl) (by kernel_rfl) (by kernel_rfl) (by kernel_rfl) ?hq27 ?hw27 hT1 (fun _ => trivial) ?hk27
        case ho27 => (simp only [List.getElem?_toArray, List.getElem?_cons_succ, List.getElem?_cons_zero]; rfl)
        case hq27 => exact fun _ _ _ h => h
        case hw27 => rfl
        case hk27 =>
        try simp only [Act.put, List.setIfInBounds_toArray, List.set_cons_zero, List.set_cons_succ]
        refine anyK_take 27 (oi := ?oo28) ?ho28 (by kernel_rfl) (by kernel_rfl) (by kernel_rfl) (by kernel_rfl) ?hq28 ?hw28 hT1 (fun _ => trivial) (v := ?vv28) ?hy28 ?hk28
        case ho28 => (simp only [List.getElem?_toArray, List.getElem?_cons_succ, List.getElem?_cons_zero]; rfl)
        case hq28 => exact fun _ _ _ h => h
        case hw28 => rfl
        case hy28 =>
          intro W hW
          go_simp
          first | done | with_reducible rfl
        case hk28 =>
        try simp only [Act.put, List.setIfInBounds_toArray, List.set_cons_zero, List.set_cons_succ]
        refine anyK_take 28 (oi := ?oo29) ?ho29 (by kernel_rfl) (by kernel_rfl) (by kernel_rfl) (by kernel_rfl) ?hq29 ?hw29 hT1 (fun _ => trivial) (v := ?vv29) ?hy29 ?hk29
        case ho29 => (simp only [List.getElem?_toArray, List.getElem?_cons_succ, List.getElem?_cons_zero]; rfl)
        case hq29 => exact fun _ _ _ h => h
        case hw29 => rfl
        case hy29 =>
          intro W hW
          go_simp
          first | done | with_reducible rfl
        case hk29 =>
        try simp only [Act.put, List.setIfInBounds_toArray, List.set_cons_zero, List.set_cons_succ]
        refine anyK_done (by kernel_rfl) ?_ _
        clear keepK hT0 hT1
        go_wp2
        go_roundw
        case rel => exact ⟨0 + 1, by omega, by go_num, ext_trans XB.out (ext_trans XR.out yy)⟩
        case measure => simp [intOf]; omega
      · obtain ⟨j, hj⟩ : ∃ j, k = j + 1 := ⟨k - 1, by omega⟩
        have hjl : j < L.length := by omega
        obtain ⟨z, hz⟩ : ∃ z, L[j]? = some z := ⟨L[j], List.getElem?_eq_getElem _⟩
        have HZC := hide (moves_at H5.out hz)
        have hzy : z ≠ y := strict_ne HST.out hz HK.out (by omega)
        have tk : decide ((0 : Int) < (k : Int)) = true := by simp; omega
        have kn : 0 < k := by omega
        have tk' : decide (0 < k) = true := by simp; omega
        have ik : IntKind.i64.wrap ((k : Int) - 1) = (j : Int) := by rw [IntKind.wrap_i64]; omega
        have i0 : (0 : Int) ≤ (j : Int) := by omega
        have i1 : (j : Int) < (L.length : Int) := by omega
        have hk1 : (1 : Int) ≤ (k : Int) := by omega
        clear hj hz hjl hk0
        have sw := hsw.out
        have hcases := move_ne hzy
        clear hzy
        rcases hcases with h1 | ⟨e1, h1⟩ | ⟨e1, e2, h1⟩
        · have t1 : (z.src == y.src) = false := by simpa using h1
          clear h1
          have keepK := hide (fun W (h : Ext w4 W) => (show (fun W => W.cell? ⟨BR, 0, none⟩ = some (.string R.name) ∧ W.cell? ⟨BR, 1, none⟩ = some (.int .i64 R.width) ∧ W.cell? ⟨BR, 2, none⟩ = some (.int .i64 R.height) ∧ W.cell? ⟨BR, 3, none⟩ = some (.slice pA R.pieces.length pc) ∧ W.cell? ⟨BR, 4, none⟩ = some (.slice sA R.start.length sc) ∧ W.cell? ⟨BR, 5, none⟩ = some (.bool R.falls) ∧ W.cell? ⟨BR, 6, none⟩ = some (.bool R.keeps) ∧ W.cell? ⟨BR, 7, none⟩ = some (.slice eA R.ends.length ec) ∧ W.cell? ⟨BR, 8, none⟩ = some (.int .i64 R.blocked) ∧ W.cell? ⟨BR, 9, none⟩ = some (.int .i64 R.quiet) ∧ W.cell? ⟨BR, 10, none⟩ = some (.int .i64 R.rept) ∧ W.cell? ⟨B6, 0, none⟩ = some (.slice cA6 Q.cells.length cc6) ∧ W.cell? ⟨B6, 1, none⟩ = some (.slice aA6 Q.hand0.length ac6) ∧ W.cell? ⟨B6, 2, none⟩ = some (.slice bA6 Q.hand1.length bc6) ∧ W.cell? ⟨B6, 3, none⟩ = some (.int .i64 Q.turn) ∧ W.cell? ⟨B6, 4, none⟩ = some (.int .i64 Q.quiet) ∧ W.cell? ⟨BP, 3, none⟩ = some (.int .i64 P.turn) ∧ W.cell? ⟨b, o + j * 3, none⟩ = some (.int .i64 z.src) ∧ W.cell? ⟨b, o + j * 3 + 1, none⟩ = some (.int .i64 z.dst) ∧ W.cell? ⟨b, o + j * 3 + 2, none⟩ = some (.int .i64 z.piece) ∧ W.cell? ⟨BY, 0, none⟩ = some (.int .i64 y.src) ∧ W.cell? ⟨BY, 1, none⟩ = some (.int .i64 y.dst) ∧ W.cell? ⟨BY, 2, none⟩ = some (.int .i64 y.piece) ∧ Ext w4 W) W from ⟨(KR.out.ext h).cell 0, (KR.out.ext h).cell 1, (KR.out.ext h).cell 2, (KR.out.ext h).cell 3, (KR.out.ext h).cell 4, (KR.out.ext h).cell 5, (KR.out.ext h).cell 6, (KR.out.ext h).cell 7, (KR.out.ext h).cell 8, (KR.out.ext h).cell 9, (KR.out.ext h).cell 10, (K6.out.ext h).cell 0, (K6.out.ext h).cell 1, (K6.out.ext h).cell 2, (K6.out.ext h).cell 3, (K6.out.ext h).cell 4, (KP.out.ext h).cell 3, h.cell HZC.out.1, h.cell HZC.out.2.1, h.cell HZC.out.2.2, (KY.out.ext h).cell 0, (KY.out.ext h).cell 1, (KY.out.ext h).cell 2, h⟩))
          have yy : Ext w4 w4.drew := Below.drew (Below.refl _ _)
          refine region_K (fun W => W.cell? ⟨BR, 0, none⟩ = some (.string R.name) ∧ W.cell? ⟨BR, 1, none⟩ = some (.int .i64 R.width) ∧ W.cell? ⟨BR, 2, none⟩ = some (.int .i64 R.height) ∧ W.cell? ⟨BR, 3, none⟩ = some (.slice pA R.pieces.length pc) ∧ W.cell? ⟨BR, 4, none⟩ = some (.slice sA R.start.length sc) ∧ W.cell? ⟨BR, 5, none⟩ = some (.bool R.falls) ∧ W.cell? ⟨BR, 6, none⟩ = some (.bool R.keeps) ∧ W.cell? ⟨BR, 7, none⟩ = some (.slice eA R.ends.length ec) ∧ W.cell? ⟨BR, 8, none⟩ = some (.int .i64 R.blocked) ∧ W.cell? ⟨BR, 9, none⟩ = some (.int .i64 R.quiet) ∧ W.cell? ⟨BR, 10, none⟩ = some (.int .i64 R.rept) ∧ W.cell? ⟨B6, 0, none⟩ = some (.slice cA6 Q.cells.length cc6) ∧ W.cell? ⟨B6, 1, none⟩ = some (.slice aA6 Q.hand0.length ac6) ∧ W.cell? ⟨B6, 2, none⟩ = some (.slice bA6 Q.hand1.length bc6) ∧ W.cell? ⟨B6, 3, none⟩ = some (.int .i64 Q.turn) ∧ W.cell? ⟨B6, 4, none⟩ = some (.int .i64 Q.quiet) ∧ W.cell? ⟨BP, 3, none⟩ = some (.int .i64 P.turn) ∧ W.cell? ⟨b, o + j * 3, none⟩ = some (.int .i64 z.src) ∧ W.cell? ⟨b, o + j * 3 + 1, none⟩ = some (.int .i64 z.dst) ∧ W.cell? ⟨b, o + j * 3 + 2, none⟩ = some (.int .i64 z.piece) ∧ W.cell? ⟨BY, 0, none⟩ = some (.int .i64 y.src) ∧ W.cell? ⟨BY, 1, none⟩ = some (.int .i64 y.dst) ∧ W.cell? ⟨BY, 2, none⟩ = some (.int .i64 y.piece) ∧ Ext w4 W) (fun _ => True) [] (by kernel_rfl) ?_
          have hT0 := keepK.out _ yy
          refine anyK_take 0 (oi := ?oo30) ?ho30 (by kernel_rfl) (by kernel_rfl) (by kernel_rfl) (by kernel_rfl) ?hq30 ?hw30 hT0 (fun _ => trivial) (v := ?vv30) ?hy30 ?hk30
          case ho30 => (simp only [List.getElem?_toArray, List.getElem?_cons_succ, List.getElem?_cons_zero]; rfl)
          case hq30 => exact fun _ _ _ h => h
          case hw30 => rfl
          case hy30 =>
            intro W hW
            go_simp
            first | done | with_reducible rfl
          case hk30 =>
          try simp only [Act.put, List.setIfInBounds_toArray, List.set_cons_zero, List.set_cons_succ]
          refine anyK_take 1 (oi := ?oo31) ?ho31 (by kernel_rfl) (by kernel_rfl) (by kernel_rfl) (by kernel_rfl) ?hq31 ?hw31 hT0 (fun _ => trivial) (v := ?vv31) ?hy31 ?hk31
          case ho31 => (simp only [List.getElem?_toArray, List.getElem?_cons_succ, List.getElem?_cons_zero]; rfl)
          case hq31 => exact fun _ _ _ h => h
          case hw31 => rfl
          case hy31 =>
            intro W hW
            go_simp
            first | done | with_reducible rfl
          case hk31 =>
          try simp only [Act.put, List.setIfInBounds_toArray, List.set_cons_zero, List.set_cons_succ]
          refine anyK_take 2 (oi := ?oo32) ?ho32 (by kernel_rfl) (by kernel_rfl) (by kernel_rfl) (by kernel_rfl) ?hq32 ?hw32 hT0 (fun _ => trivial) (v := ?vv32) ?hy32 ?hk32
          case ho32 => (simp only [List.getElem?_toArray, List.getElem?_cons_succ, List.getElem?_cons_zero]; rfl)
          case hq32 => exact fun _ _ _ h => h
          case hw32 => rfl
          case hy32 =>
            intro W hW
            go_simp
            first | done | with_reducible rfl
          case hk32 =>
          try simp only [Act.put, List.setIfInBounds_toArray, List.set_cons_zero, List.set_cons_succ]
          refine anyK_take 3 (oi := ?oo33) ?ho33 (by kernel_rfl) (by kernel_rfl) (by kernel_rfl) (by kernel_rfl) ?hq33 ?hw33 hT0 (fun _ => trivial) (v := ?vv33) ?hy33 ?hk33
          case ho33 => (simp only [List.getElem?_toArray, List.getElem?_cons_succ, List.getElem?_cons_zero]; rfl)
          case hq33 => exact fun _ _ _ h => h
          case hw33 => rfl
          case hy33 =>
            intro W hW
            obtain ⟨z0, z1, z2, z3, z4, z5, z6, z7, z8, z9, z10, z11, z12, z13, z14, z15, z16, z17, z18, z19, z20, z21, z22, z23⟩ := hW
            go_simp
            first | done | with_reducible rfl
          case hk33 =>
          try simp only [Act.put, List.setIfInBounds_toArray, List.set_cons_zero, List.set_cons_succ]
          refine anyK_take 4 (oi := ?oo34) ?ho34 (by kernel_rfl) (by kernel_rfl) (by kernel_rfl) (by kernel_rfl) ?hq34 ?hw34 hT0 (fun _ => trivial) (v := ?vv34) ?hy34 ?hk34
          case ho34 => (simp only [List.getElem?_toArray, List.getElem?_cons_succ, List.getElem?_cons_zero]; rfl)
          case hq34 => exact fun _ _ _ h => h
          case hw34 => rfl
          case hy34 =>
            intro W hW
            obtain ⟨z0, z1, z2, z3, z4, z5, z6, z7, z8, z9, z10, z11, z12, z13, z14, z15, z16, z17, z18, z19, z20, z21, z22, z23⟩ := hW
            go_simp
            first | done | with_reducible rfl
          case hk34 =>
          try simp only [Act.put, List.setIfInBounds_toArray, List.set_cons_zero, List.set_cons_succ]
          refine anyK_on1 5 (by kernel_rfl) ?_
          refine anyK_one 5 (o := ?oo35) ?ho35 ?hk35
          case ho35 => (simp only [List.getElem?_toArray, List.getElem?_cons_succ, List.getElem?_cons_zero]; rfl)
          case hk35 =>
          intro K hK
          go_simp
          refine (HC2.out _ _ _ (HR.out.ext yy) (H6.out.ext yy)).mono ?_
          rintro e wz ⟨rfl, xx⟩
          try go_wp2_with fail
          replace yy := ext_trans yy xx
          have hT1 := keepK.out _ yy
          refine hK.out _ _ hT1 (fun _ => trivial) ?_
          clear hK K
          try simp only [Act.put, List.setIfInBounds_toArray, List.set_cons_zero, List.set_cons_succ]
          refine anyK_take 6 (oi := ?oo36) ?ho36 (by kernel_rfl) (by kernel_rfl) (by kernel_rfl) (by kernel_rfl) ?hq36 ?hw36 hT1 (fun _ => trivial) (v := ?vv36) ?hy36 ?hk36
          case ho36 => (simp only [List.getElem?_toArray, List.getElem?_cons_succ, List.getElem?_cons_zero]; rfl)
          case hq36 => exact fun _ _ _ h => h
          case hw36 => rfl
          case hy36 =>
            intro W hW
            go_simp
            first | done | with_reducible rfl
          case hk36 =>
          try simp only [Act.put, List.setIfInBounds_toArray, List.set_cons_zero, List.set_cons_succ]
          refine anyK_take 7 (oi := ?oo37) ?ho37 (by kernel_rfl) (by kernel_rfl) (by kernel_rfl) (by kernel_rfl) ?hq37 ?hw37 hT1 (fun _ => trivial) (v := ?vv37) ?hy37 ?hk37
          case ho37 => (simp only [List.getElem?_toArray, List.getElem?_cons_succ, List.getElem?_cons_zero]; rfl)
          case hq37 => exact fun _ _ _ h => h
          case hw37 => rfl
          case hy37 =>
            intro W hW
            go_simp
            first | done | with_reducible rfl
          case hk37 =>
          try simp only [Act.put, List.setIfInBounds_toArray, List.set_cons_zero, List.set_cons_succ]
          refine anyK_take 8 (oi := ?oo38) ?ho38 (by kernel_rfl) (by kernel_rfl) (by kernel_rfl) (by kernel_rfl) ?hq38 ?hw38 hT1 (fun _ => trivial) (v := ?vv38) ?hy38 ?hk38
          case ho38 => (simp only [List.getElem?_toArray, List.getElem?_cons_succ, List.getElem?_cons_zero]; rfl)
          case hq38 => exact fun _ _ _ h => h
          case hw38 => rfl
          case hy38 =>
            intro W hW
            go_simp
            first | done | with_reducible rfl
          case hk38 =>
          try simp only [Act.put, List.setIfInBounds_toArray, List.set_cons_zero, List.set_cons_succ]
          refine anyK_take 9 (oi := ?oo39) ?ho39 (by kernel_rfl) (by kernel_rfl) (by kernel_rfl) (by kernel_rfl) ?hq39 ?hw39 hT1 (fun _ => trivial) (v := ?vv39) ?hy39 ?hk39
          case ho39 => (simp only [List.getElem?_toArray, List.getElem?_cons_succ, List.getElem?_cons_zero]; rfl)
          case hq39 => exact fun _ _ _ h => h
          case hw39 => rfl
          case hy39 =>
            intro W hW
            go_simp
            first | done | with_reducible rfl
          case hk39 =>
          try simp only [Act.put, List.setIfInBounds_toArray, List.set_cons_zero, List.set_cons_succ]
          refine anyK_take 10 (oi := ?oo40) ?ho40 (by kernel_rfl) (by kernel_rfl) (by kernel_rfl) (by kernel_rfl) ?hq40 ?hw40 hT1 (fun _ => trivial) (v := ?vv40) ?hy40 ?hk40
          case ho40 => (simp only [List.getElem?_toArray, List.getElem?_cons_succ, List.getElem?_cons_zero]; rfl)
          case hq40 => exact fun _ _ _ h => h
          case hw40 => rfl
          case hy40 =>
            intro W hW
            obtain ⟨z0, z1, z2, z3, z4, z5, z6, z7, z8, z9, z10, z11, z12, z13, z14, z15, z16, z17, z18, z19, z20, z21, z22, z23⟩ := hW
            go_simp
            first | done | with_reducible rfl
          case hk40 =>
          try simp only [Act.put, List.setIfInBounds_toArray, List.set_cons_zero, List.set_cons_succ]
          refine anyK_take 11 (oi := ?oo41) ?ho41 (by kernel_rfl) (by kernel_rfl) (by kernel_rfl) (by kernel_rfl) ?hq41 ?hw41 hT1 (fun _ => trivial) (v := ?vv41) ?hy41 ?hk41
          case ho41 => (simp only [List.getElem?_toArray, List.getElem?_cons_succ, List.getElem?_cons_zero]; rfl)
          case hq41 => exact fun _ _ _ h => h
          case hw41 => rfl
          case hy41 =>
            intro W hW
            go_simp
            first | done | with_reducible rfl
          case hk41 =>
          try simp only [Act.put, List.setIfInBounds_toArray, List.set_cons_zero, List.set_cons_succ]
          refine anyK_take 12 (oi := ?oo42) ?ho42 (by kernel_rfl) (by kernel_rfl) (by kernel_rfl) (by kernel_rfl) ?hq42 ?hw42 hT1 (fun _ => trivial) (v := ?vv42) ?hy42 ?hk42
          case ho42 => (simp only [List.getElem?_toArray, List.getElem?_cons_succ, List.getElem?_cons_zero]; rfl)
          case hq42 => exact fun _ _ _ h => h
          case hw42 => rfl
          case hy42 =>
            intro W hW
            obtain ⟨z0, z1, z2, z3, z4, z5, z6, z7, z8, z9, z10, z11, z12, z13, z14, z15, z16, z17, z18, z19, z20, z21, z22, z23⟩ := hW
            go_simp
            first | done | with_reducible rfl
          case hk42 =>
          try simp only [Act.put, List.setIfInBounds_toArray, List.set_cons_zero, List.set_cons_succ]
          refine anyK_take 13 (oi := ?oo43) ?ho43 (by kernel_rfl) (by kernel_rfl) (by kernel_rfl) (by kernel_rfl) ?hq43 ?hw43 hT1 (fun _ => trivial) (v := ?vv43) ?hy43 ?hk43
          case ho43 => (simp only [List.getElem?_toArray, List.getElem?_cons_succ, List.getElem?_cons_zero]; rfl)
          case hq43 => exact fun _ _ _ h => h
          case hw43 => rfl
          case hy43 =>
            intro W hW
            go_simp
            first | done | with_reducible rfl
          case hk43 =>
          try simp only [Act.put, List.setIfInBounds_toArray, List.set_cons_zero, List.set_cons_succ]
          refine anyK_take 14 (oi := ?oo44) ?ho44 (by kernel_rfl) (by kernel_rfl) (by kernel_rfl) (by kernel_rfl) ?hq44 ?hw44 hT1 (fun _ => trivial) (v := ?vv44) ?hy44 ?hk44
          case ho44 => (simp only [List.getElem?_toArray, List.getElem?_cons_succ, List.getElem?_cons_zero]; rfl)
          case hq44 => exact fun _ _ _ h => h
          case hw44 => rfl
          case hy44 =>
            intro W hW
            go_simp
            first | done | with_reducible rfl
          case hk44 =>
          try simp only [Act.put, List.setIfInBounds_toArray, List.set_cons_zero, List.set_cons_succ]
          refine anyK_take 15 (oi := ?oo45) ?ho45 (by kernel_rfl) (by kernel_rfl) (by kernel_rfl) (by kernel_rfl) ?hq45 ?hw45 hT1 (fun _ => trivial) (v := ?vv45) ?hy45 ?hk45
          case ho45 => (simp only [List.getElem?_toArray, List.getElem?_cons_succ, List.getElem?_cons_zero]; rfl)
          case hq45 => exact fun _ _ _ h => h
          case hw45 => rfl
          case hy45 =>
            intro W hW
            go_simp
            first | done | with_reducible rfl
          case hk45 =>
          try simp only [Act.put, List.setIfInBounds_toArray, List.set_cons_zero, List.set_cons_succ]
          refine anyK_take 16 (oi := ?oo46) ?ho46 (by kernel_rfl) (by kernel_rfl) (by kernel_rfl) (by kernel_rfl) ?hq46 ?hw46 hT1 (fun _ => trivial) (v := ?vv46) ?hy46 ?hk46
          case ho46 => (simp only [List.getElem?_toArray, List.getElem?_cons_succ, List.getElem?_cons_zero]; rfl)
          case hq46 => exact fun _ _ _ h => h
          case hw46 => rfl
          case hy46 =>
            intro W hW
            go_simp
            first | done | with_reducible rfl
          case hk46 =>
          try simp only [Act.put, List.setIfInBounds_toArray, List.set_cons_zero, List.set_cons_succ]
          refine anyK_take 17 (oi := ?oo47) ?ho47 (by kernel_rfl) (by kernel_rfl) (by kernel_rfl) (by kernel_rfl) ?hq47 ?hw47 hT1 (fun _ => trivial) (v := ?vv47) ?hy47 ?hk47
          case ho47 => (simp only [List.getElem?_toArray, List.getElem?_cons_succ, List.getElem?_cons_zero]; rfl)
          case hq47 => exact fun _ _ _ h => h
          case hw47 => rfl
          case hy47 =>
            intro W hW
            go_simp
            first | done | with_reducible rfl
          case hk47 =>
          try simp only [Act.put, List.setIfInBounds_toArray, List.set_cons_zero, List.set_cons_succ]
          refine anyK_take 18 (oi := ?oo48) ?ho48 (by kernel_rfl) (by kernel_rfl) (by kernel_rfl) (by kernel_rfl) ?hq48 ?hw48 hT1 (fun _ => trivial) (v := ?vv48) ?hy48 ?hk48
          case ho48 => (simp only [List.getElem?_toArray, List.getElem?_cons_succ, List.getElem?_cons_zero]; rfl)
          case hq48 => exact fun _ _ _ h => h
          case hw48 => rfl
          case hy48 =>
            intro W hW
            go_simp
            first | done | with_reducible rfl
          case hk48 =>
          try simp only [Act.put, List.setIfInBounds_toArray, List.set_cons_zero, List.set_cons_succ]
          refine anyK_take 19 (oi := ?oo49) ?ho49 (by kernel_rfl) (by kernel_rfl) (by kernel_rfl) (by kernel_rfl) ?hq49 ?hw49 hT1 (fun _ => trivial) (v := ?vv49) ?hy49 ?hk49
          case ho49 => (simp only [List.getElem?_toArray, List.getElem?_cons_succ, List.getElem?_cons_zero]; rfl)
          case hq49 => exact fun _ _ _ h => h
          case hw49 => rfl
          case hy49 =>
            intro W hW
            go_simp
            first | done | with_reducible rfl
          case hk49 =>
          try simp only [Act.put, List.setIfInBounds_toArray, List.set_cons_zero, List.set_cons_succ]
          refine anyK_take 20 (oi := ?oo50) ?ho50 (by kernel_rfl) (by kernel_rfl) (by kernel_rfl) (by kernel_rfl) ?hq50 ?hw50 hT1 (fun _ => trivial) (v := ?vv50) ?hy50 ?hk50
          case ho50 => (simp only [List.getElem?_toArray, List.getElem?_cons_succ, List.getElem?_cons_zero]; rfl)
          case hq50 => exact fun _ _ _ h => h
          case hw50 => rfl
          case hy50 =>
            intro W hW
            go_simp
            first | done | with_reducible rfl
          case hk50 =>
          try simp only [Act.put, List.setIfInBounds_toArray, List.set_cons_zero, List.set_cons_succ]
          refine anyK_take 21 (oi := ?oo51) ?ho51 (by kernel_rfl) (by kernel_rfl) (by kernel_rfl) (by kernel_rfl) ?hq51 ?hw51 hT1 (fun _ => trivial) (v := ?vv51) ?hy51 ?hk51
          case ho51 => (simp only [List.getElem?_toArray, List.getElem?_cons_succ, List.getElem?_cons_zero]; rfl)
          case hq51 => exact fun _ _ _ h => h
          case hw51 => rfl
          case hy51 =>
            intro W hW
            go_simp
            first | done | with_reducible rfl
          case hk51 =>
          try simp only [Act.put, List.setIfInBounds_toArray, List.set_cons_zero, List.set_cons_succ]
          refine anyK_take 22 (oi := ?oo52) ?ho52 (by kernel_rfl) (by kernel_rfl) (by kernel_rfl) (by kernel_rfl) ?hq52 ?hw52 hT1 (fun _ => trivial) (v := ?vv52) ?hy52 ?hk52
          case ho52 => (simp only [List.getElem?_toArray, List.getElem?_cons_succ, List.getElem?_cons_zero]; rfl)
          case hq52 => exact fun _ _ _ h => h
          case hw52 => rfl
          case hy52 =>
            intro W hW
            go_simp
            first | done | with_reducible rfl
          case hk52 =>
          try simp only [Act.put, List.setIfInBounds_toArray, List.set_cons_zero, List.set_cons_succ]
          refine anyK_take 23 (oi := ?oo53) ?ho53 (by kernel_rfl) (by kernel_rfl) (by kernel_rfl) (by kernel_rfl) ?hq53 ?hw53 hT1 (fun _ => trivial) (v := ?vv53) ?hy53 ?hk53
          case ho53 => (simp only [List.getElem?_toArray, List.getElem?_cons_succ, List.getElem?_cons_zero]; rfl)
          case hq53 => exact fun _ _ _ h => h
          case hw53 => rfl
          case hy53 =>
            intro W hW
            go_simp
            first | done | with_reducible rfl
          case hk53 =>
          try simp only [Act.put, List.setIfInBounds_toArray, List.set_cons_zero, List.set_cons_succ]
          refine anyK_take 24 (oi := ?oo54) ?ho54 (by kernel_rfl) (by kernel_rfl) (by kernel_rfl) (by kernel_rfl) ?hq54 ?hw54 hT1 (fun _ => trivial) (v := ?vv54) ?hy54 ?hk54
          case ho54 => (simp only [List.getElem?_toArray, List.getElem?_cons_succ, List.getElem?_cons_zero]; rfl)
          case hq54 => exact fun _ _ _ h => h
          case hw54 => rfl
          case hy54 =>
            intro W hW
            obtain ⟨z0, z1, z2, z3, z4, z5, z6, z7, z8, z9, z10, z11, z12, z13, z14, z15, z16, z17, z18, z19, z20, z21, z22, z23⟩ := hW
            go_simp
            first | done | with_reducible rfl
          case hk54 =>
          try simp only [Act.put, List.setIfInBounds_toArray, List.set_cons_zero, List.set_cons_succ]
          refine anyK_take 25 (oi := ?oo55) ?ho55 (by kernel_rfl) (by kernel_rfl) (by kernel_rfl) (by kernel_rfl) ?hq55 ?hw55 hT1 (fun _ => trivial) (v := ?vv55) ?hy55 ?hk55
          case ho55 => (simp only [List.getElem?_toArray, List.getElem?_cons_succ, List.getElem?_cons_zero]; rfl)
          case hq55 => exact fun _ _ _ h => h
          case hw55 => rfl
          case hy55 =>
            intro W hW
            obtain ⟨z0, z1, z2, z3, z4, z5, z6, z7, z8, z9, z10, z11, z12, z13, z14, z15, z16, z17, z18, z19, z20, z21, z22, z23⟩ := hW
            go_simp
            first | done | with_reducible rfl
          case hk55 =>
          try simp only [Act.put, List.setIfInBounds_toArray, List.set_cons_zero, List.set_cons_succ]
          refine anyK_take 26 (oi := ?oo56) ?ho56 (by kernel_rfl) (by kernel_rfl) (by kernel_rfl) (by kernel_rfl) ?hq56 ?hw56 hT1 (fun _ => trivial) (v := ?vv56) ?hy56 ?hk56
          case ho56 => (simp only [List.getElem?_toArray, List.getElem?_cons_succ, List.getElem?_cons_zero]; rfl)
          case hq56 => exact fun _ _ _ h => h
          case hw56 => rfl
          case hy56 =>
            intro W hW
            go_simp
            first | done | with_reducible rfl
          case hk56 =>
          try simp only [Act.put, List.setIfInBounds_toArray, List.set_cons_zero, List.set_cons_succ]
          refine anyK_take 27 (oi := ?oo57) ?ho57 (by kernel_rfl) (by kernel_rfl) (by kernel_rfl) (by kernel_rfl) ?hq57 ?hw57 hT1 (fun _ => trivial) (v := ?vv57) ?hy57 ?hk57
          case ho57 => (simp only [List.getElem?_toArray, List.getElem?_cons_succ, List.getElem?_cons_zero]; rfl)
          case hq57 => exact fun _ _ _ h => h
          case hw57 => rfl
          case hy57 =>
            intro W hW
            go_simp
            first | done | with_reducible rfl
          case hk57 =>
          try simp only [Act.put, List.setIfInBounds_toArray, List.set_cons_zero, List.set_cons_succ]
          refine anyK_take 28 (oi := ?oo58) ?ho58 (by kernel_rfl) (by kernel_rfl) (by kernel_rfl) (by kernel_rfl) ?hq58 ?hw58 hT1 (fun _ => trivial) (v := ?vv58) ?hy58 ?hk58
          case ho58 => (simp only [List.getElem?_toArray, List.getElem?_cons_succ, List.getElem?_cons_zero]; rfl)
          case hq58 => exact fun _ _ _ h => h
          case hw58 => rfl
          case hy58 =>
            intro W hW
            go_simp
            first | done | with_reducible rfl
          case hk58 =>
          try simp only [Act.put, List.setIfInBounds_toArray, List.set_cons_zero, List.set_cons_succ]
          refine anyK_done (by kernel_rfl) ?_ _
          clear keepK hT0 hT1
          go_wp2
          go_roundw
          case rel => exact ⟨k + 1, by omega, by go_num, ext_trans XB.out (ext_trans XR.out yy)⟩
          case measure => simp [intOf]; omega
        · have t1 : (z.src == y.src) = true := by simpa using e1
          have t2 : (z.dst == y.dst) = false := by simpa using h1
          clear h1 e1
          have keepK := hide (fun W (h : Ext w4 W) => (show (fun W => W.cell? ⟨BR, 0, none⟩ = some (.string R.name) ∧ W.cell? ⟨BR, 1, none⟩ = some (.int .i64 R.width) ∧ W.cell? ⟨BR, 2, none⟩ = some (.int .i64 R.height) ∧ W.cell? ⟨BR, 3, none⟩ = some (.slice pA R.pieces.length pc) ∧ W.cell? ⟨BR, 4, none⟩ = some (.slice sA R.start.length sc) ∧ W.cell? ⟨BR, 5, none⟩ = some (.bool R.falls) ∧ W.cell? ⟨BR, 6, none⟩ = some (.bool R.keeps) ∧ W.cell? ⟨BR, 7, none⟩ = some (.slice eA R.ends.length ec) ∧ W.cell? ⟨BR, 8, none⟩ = some (.int .i64 R.blocked) ∧ W.cell? ⟨BR, 9, none⟩ = some (.int .i64 R.quiet) ∧ W.cell? ⟨BR, 10, none⟩ = some (.int .i64 R.rept) ∧ W.cell? ⟨B6, 0, none⟩ = some (.slice cA6 Q.cells.length cc6) ∧ W.cell? ⟨B6, 1, none⟩ = some (.slice aA6 Q.hand0.length ac6) ∧ W.cell? ⟨B6, 2, none⟩ = some (.slice bA6 Q.hand1.length bc6) ∧ W.cell? ⟨B6, 3, none⟩ = some (.int .i64 Q.turn) ∧ W.cell? ⟨B6, 4, none⟩ = some (.int .i64 Q.quiet) ∧ W.cell? ⟨BP, 3, none⟩ = some (.int .i64 P.turn) ∧ W.cell? ⟨b, o + j * 3, none⟩ = some (.int .i64 z.src) ∧ W.cell? ⟨b, o + j * 3 + 1, none⟩ = some (.int .i64 z.dst) ∧ W.cell? ⟨b, o + j * 3 + 2, none⟩ = some (.int .i64 z.piece) ∧ W.cell? ⟨BY, 0, none⟩ = some (.int .i64 y.src) ∧ W.cell? ⟨BY, 1, none⟩ = some (.int .i64 y.dst) ∧ W.cell? ⟨BY, 2, none⟩ = some (.int .i64 y.piece) ∧ Ext w4 W) W from ⟨(KR.out.ext h).cell 0, (KR.out.ext h).cell 1, (KR.out.ext h).cell 2, (KR.out.ext h).cell 3, (KR.out.ext h).cell 4, (KR.out.ext h).cell 5, (KR.out.ext h).cell 6, (KR.out.ext h).cell 7, (KR.out.ext h).cell 8, (KR.out.ext h).cell 9, (KR.out.ext h).cell 10, (K6.out.ext h).cell 0, (K6.out.ext h).cell 1, (K6.out.ext h).cell 2, (K6.out.ext h).cell 3, (K6.out.ext h).cell 4, (KP.out.ext h).cell 3, h.cell HZC.out.1, h.cell HZC.out.2.1, h.cell HZC.out.2.2, (KY.out.ext h).cell 0, (KY.out.ext h).cell 1, (KY.out.ext h).cell 2, h⟩))
          have yy : Ext w4 w4.drew := Below.drew (Below.refl _ _)
          refine region_K (fun W => W.cell? ⟨BR, 0, none⟩ = some (.string R.name) ∧ W.cell? ⟨BR, 1, none⟩ = some (.int .i64 R.width) ∧ W.cell? ⟨BR, 2, none⟩ = some (.int .i64 R.height) ∧ W.cell? ⟨BR, 3, none⟩ = some (.slice pA R.pieces.length pc) ∧ W.cell? ⟨BR, 4, none⟩ = some (.slice sA R.start.length sc) ∧ W.cell? ⟨BR, 5, none⟩ = some (.bool R.falls) ∧ W.cell? ⟨BR, 6, none⟩ = some (.bool R.keeps) ∧ W.cell? ⟨BR, 7, none⟩ = some (.slice eA R.ends.length ec) ∧ W.cell? ⟨BR, 8, none⟩ = some (.int .i64 R.blocked) ∧ W.cell? ⟨BR, 9, none⟩ = some (.int .i64 R.quiet) ∧ W.cell? ⟨BR, 10, none⟩ = some (.int .i64 R.rept) ∧ W.cell? ⟨B6, 0, none⟩ = some (.slice cA6 Q.cells.length cc6) ∧ W.cell? ⟨B6, 1, none⟩ = some (.slice aA6 Q.hand0.length ac6) ∧ W.cell? ⟨B6, 2, none⟩ = some (.slice bA6 Q.hand1.length bc6) ∧ W.cell? ⟨B6, 3, none⟩ = some (.int .i64 Q.turn) ∧ W.cell? ⟨B6, 4, none⟩ = some (.int .i64 Q.quiet) ∧ W.cell? ⟨BP, 3, none⟩ = some (.int .i64 P.turn) ∧ W.cell? ⟨b, o + j * 3, none⟩ = some (.int .i64 z.src) ∧ W.cell? ⟨b, o + j * 3 + 1, none⟩ = some (.int .i64 z.dst) ∧ W.cell? ⟨b, o + j * 3 + 2, none⟩ = some (.int .i64 z.piece) ∧ W.cell? ⟨BY, 0, none⟩ = some (.int .i64 y.src) ∧ W.cell? ⟨BY, 1, none⟩ = some (.int .i64 y.dst) ∧ W.cell? ⟨BY, 2, none⟩ = some (.int .i64 y.piece) ∧ Ext w4 W) (fun _ => True) [] (by kernel_rfl) ?_
          have hT0 := keepK.out _ yy
          refine anyK_take 0 (oi := ?oo59) ?ho59 (by kernel_rfl) (by kernel_rfl) (by kernel_rfl) (by kernel_rfl) ?hq59 ?hw59 hT0 (fun _ => trivial) (v := ?vv59) ?hy59 ?hk59
          case ho59 => (simp only [List.getElem?_toArray, List.getElem?_cons_succ, List.getElem?_cons_zero]; rfl)
          case hq59 => exact fun _ _ _ h => h
          case hw59 => rfl
          case hy59 =>
            intro W hW
            go_simp
            first | done | with_reducible rfl
          case hk59 =>
          try simp only [Act.put, List.setIfInBounds_toArray, List.set_cons_zero, List.set_cons_succ]
          refine anyK_take 1 (oi := ?oo60) ?ho60 (by kernel_rfl) (by kernel_rfl) (by kernel_rfl) (by kernel_rfl) ?hq60 ?hw60 hT0 (fun _ => trivial) (v := ?vv60) ?hy60 ?hk60
          case ho60 => (simp only [List.getElem?_toArray, List.getElem?_cons_succ, List.getElem?_cons_zero]; rfl)
          case hq60 => exact fun _ _ _ h => h
          case hw60 => rfl
          case hy60 =>
            intro W hW
            go_simp
            first | done | with_reducible rfl
          case hk60 =>
          try simp only [Act.put, List.setIfInBounds_toArray, List.set_cons_zero, List.set_cons_succ]
          refine anyK_take 2 (oi := ?oo61) ?ho61 (by kernel_rfl) (by kernel_rfl) (by kernel_rfl) (by kernel_rfl) ?hq61 ?hw61 hT0 (fun _ => trivial) (v := ?vv61) ?hy61 ?hk61
          case ho61 => (simp only [List.getElem?_toArray, List.getElem?_cons_succ, List.getElem?_cons_zero]; rfl)
          case hq61 => exact fun _ _ _ h => h
          case hw61 => rfl
          case hy61 =>
            intro W hW
            go_simp
            first | done | with_reducible rfl
          case hk61 =>
          try simp only [Act.put, List.setIfInBounds_toArray, List.set_cons_zero, List.set_cons_succ]
          refine anyK_take 3 (oi := ?oo62) ?ho62 (by kernel_rfl) (by kernel_rfl) (by kernel_rfl) (by kernel_rfl) ?hq62 ?hw62 hT0 (fun _ => trivial) (v := ?vv62) ?hy62 ?hk62
          case ho62 => (simp only [List.getElem?_toArray, List.getElem?_cons_succ, List.getElem?_cons_zero]; rfl)
          case hq62 => exact fun _ _ _ h => h
          case hw62 => rfl
          case hy62 =>
            intro W hW
            obtain ⟨z0, z1, z2, z3, z4, z5, z6, z7, z8, z9, z10, z11, z12, z13, z14, z15, z16, z17, z18, z19, z20, z21, z22, z23⟩ := hW
            go_simp
            first | done | with_reducible rfl
          case hk62 =>
          try simp only [Act.put, List.setIfInBounds_toArray, List.set_cons_zero, List.set_cons_succ]
          refine anyK_take 4 (oi := ?oo63) ?ho63 (by kernel_rfl) (by kernel_rfl) (by kernel_rfl) (by kernel_rfl) ?hq63 ?hw63 hT0 (fun _ => trivial) (v := ?vv63) ?hy63 ?hk63
          case ho63 => (simp only [List.getElem?_toArray, List.getElem?_cons_succ, List.getElem?_cons_zero]; rfl)
          case hq63 => exact fun _ _ _ h => h
          case hw63 => rfl
          case hy63 =>
            intro W hW
            obtain ⟨z0, z1, z2, z3, z4, z5, z6, z7, z8, z9, z10, z11, z12, z13, z14, z15, z16, z17, z18, z19, z20, z21, z22, z23⟩ := hW
            go_simp
            first | done | with_reducible rfl
          case hk63 =>
          try simp only [Act.put, List.setIfInBounds_toArray, List.set_cons_zero, List.set_cons_succ]
          refine anyK_on1 5 (by kernel_rfl) ?_
          refine anyK_one 5 (o := ?oo64) ?ho64 ?hk64
          case ho64 => (simp only [List.getElem?_toArray, List.getElem?_cons_succ, List.getElem?_cons_zero]; rfl)
          case hk64 =>
          intro K hK
          go_simp
          refine (HC2.out _ _ _ (HR.out.ext yy) (H6.out.ext yy)).mono ?_
          rintro e wz ⟨rfl, xx⟩
          try go_wp2_with fail
          replace yy := ext_trans yy xx
          have hT1 := keepK.out _ yy
          refine hK.out _ _ hT1 (fun _ => trivial) ?_
          clear hK K
          try simp only [Act.put, List.setIfInBounds_toArray, List.set_cons_zero, List.set_cons_succ]
          refine anyK_take 6 (oi := ?oo65) ?ho65 (by kernel_rfl) (by kernel_rfl) (by kernel_rfl) (by kernel_rfl) ?hq65 ?hw65 hT1 (fun _ => trivial) (v := ?vv65) ?hy65 ?hk65
          case ho65 => (simp only [List.getElem?_toArray, List.getElem?_cons_succ, List.getElem?_cons_zero]; rfl)
          case hq65 => exact fun _ _ _ h => h
          case hw65 => rfl
          case hy65 =>
            intro W hW
            go_simp
            first | done | with_reducible rfl
          case hk65 =>
          try simp only [Act.put, List.setIfInBounds_toArray, List.set_cons_zero, List.set_cons_succ]
          refine anyK_take 7 (oi := ?oo66) ?ho66 (by kernel_rfl) (by kernel_rfl) (by kernel_rfl) (by kernel_rfl) ?hq66 ?hw66 hT1 (fun _ => trivial) (v := ?vv66) ?hy66 ?hk66
          case ho66 => (simp only [List.getElem?_toArray, List.getElem?_cons_succ, List.getElem?_cons_zero]; rfl)
          case hq66 => exact fun _ _ _ h => h
          case hw66 => rfl
          case hy66 =>
            intro W hW
            go_simp
            first | done | with_reducible rfl
          case hk66 =>
          try simp only [Act.put, List.setIfInBounds_toArray, List.set_cons_zero, List.set_cons_succ]
          refine anyK_take 8 (oi := ?oo67) ?ho67 (by kernel_rfl) (by kernel_rfl) (by kernel_rfl) (by kernel_rfl) ?hq67 ?hw67 hT1 (fun _ => trivial) (v := ?vv67) ?hy67 ?hk67
          case ho67 => (simp only [List.getElem?_toArray, List.getElem?_cons_succ, List.getElem?_cons_zero]; rfl)
          case hq67 => exact fun _ _ _ h => h
          case hw67 => rfl
          case hy67 =>
            intro W hW
            go_simp
            first | done | with_reducible rfl
          case hk67 =>
          try simp only [Act.put, List.setIfInBounds_toArray, List.set_cons_zero, List.set_cons_succ]
          refine anyK_take 9 (oi := ?oo68) ?ho68 (by kernel_rfl) (by kernel_rfl) (by kernel_rfl) (by kernel_rfl) ?hq68 ?hw68 hT1 (fun _ => trivial) (v := ?vv68) ?hy68 ?hk68
          case ho68 => (simp only [List.getElem?_toArray, List.getElem?_cons_succ, List.getElem?_cons_zero]; rfl)
          case hq68 => exact fun _ _ _ h => h
          case hw68 => rfl
          case hy68 =>
            intro W hW
            go_simp
            first | done | with_reducible rfl
          case hk68 =>
          try simp only [Act.put, List.setIfInBounds_toArray, List.set_cons_zero, List.set_cons_succ]
          refine anyK_take 10 (oi := ?oo69) ?ho69 (by kernel_rfl) (by kernel_rfl) (by kernel_rfl) (by kernel_rfl) ?hq69 ?hw69 hT1 (fun _ => trivial) (v := ?vv69) ?hy69 ?hk69
          case ho69 => (simp only [List.getElem?_toArray, List.getElem?_cons_succ, List.getElem?_cons_zero]; rfl)
          case hq69 => exact fun _ _ _ h => h
          case hw69 => rfl
          case hy69 =>
            intro W hW
            obtain ⟨z0, z1, z2, z3, z4, z5, z6, z7, z8, z9, z10, z11, z12, z13, z14, z15, z16, z17, z18, z19, z20, z21, z22, z23⟩ := hW
            go_simp
            first | done | with_reducible rfl
          case hk69 =>
          try simp only [Act.put, List.setIfInBounds_toArray, List.set_cons_zero, List.set_cons_succ]
          refine anyK_take 11 (oi := ?oo70) ?ho70 (by kernel_rfl) (by kernel_rfl) (by kernel_rfl) (by kernel_rfl) ?hq70 ?hw70 hT1 (fun _ => trivial) (v := ?vv70) ?hy70 ?hk70
          case ho70 => (simp only [List.getElem?_toArray, List.getElem?_cons_succ, List.getElem?_cons_zero]; rfl)
          case hq70 => exact fun _ _ _ h => h
          case hw70 => rfl
          case hy70 =>
            intro W hW
            go_simp
            first | done | with_reducible rfl
          case hk70 =>
          try simp only [Act.put, List.setIfInBounds_toArray, List.set_cons_zero, List.set_cons_succ]
          refine anyK_take 12 (oi := ?oo71) ?ho71 (by kernel_rfl) (by kernel_rfl) (by kernel_rfl) (by kernel_rfl) ?hq71 ?hw71 hT1 (fun _ => trivial) (v := ?vv71) ?hy71 ?hk71
          case ho71 => (simp only [List.getElem?_toArray, List.getElem?_cons_succ, List.getElem?_cons_zero]; rfl)
          case hq71 => exact fun _ _ _ h => h
          case hw71 => rfl
          case hy71 =>
            intro W hW
            obtain ⟨z0, z1, z2, z3, z4, z5, z6, z7, z8, z9, z10, z11, z12, z13, z14, z15, z16, z17, z18, z19, z20, z21, z22, z23⟩ := hW
            go_simp
            first | done | with_reducible rfl
          case hk71 =>
          try simp only [Act.put, List.setIfInBounds_toArray, List.set_cons_zero, List.set_cons_succ]
          refine anyK_take 13 (oi := ?oo72) ?ho72 (by kernel_rfl) (by kernel_rfl) (by kernel_rfl) (by kernel_rfl) ?hq72 ?hw72 hT1 (fun _ => trivial) (v := ?vv72) ?hy72 ?hk72
          case ho72 => (simp only [List.getElem?_toArray, List.getElem?_cons_succ, List.getElem?_cons_zero]; rfl)
          case hq72 => exact fun _ _ _ h => h
          case hw72 => rfl
          case hy72 =>
            intro W hW
            go_simp
            first | done | with_reducible rfl
          case hk72 =>
          try simp only [Act.put, List.setIfInBounds_toArray, List.set_cons_zero, List.set_cons_succ]
          refine anyK_take 14 (oi := ?oo73) ?ho73 (by kernel_rfl) (by kernel_rfl) (by kernel_rfl) (by kernel_rfl) ?hq73 ?hw73 hT1 (fun _ => trivial) (v := ?vv73) ?hy73 ?hk73
          case ho73 => (simp only [List.getElem?_toArray, List.getElem?_cons_succ, List.getElem?_cons_zero]; rfl)
          case hq73 => exact fun _ _ _ h => h
          case hw73 => rfl
          case hy73 =>
            intro W hW
            go_simp
            first | done | with_reducible rfl
          case hk73 =>
          try simp only [Act.put, List.setIfInBounds_toArray, List.set_cons_zero, List.set_cons_succ]
          refine anyK_take 15 (oi := ?oo74) ?ho74 (by kernel_rfl) (by kernel_rfl) (by kernel_rfl) (by kernel_rfl) ?hq74 ?hw74 hT1 (fun _ => trivial) (v := ?vv74) ?hy74 ?hk74
          case ho74 => (simp only [List.getElem?_toArray, List.getElem?_cons_succ, List.getElem?_cons_zero]; rfl)
          case hq74 => exact fun _ _ _ h => h
          case hw74 => rfl
          case hy74 =>
            intro W hW
            go_simp
            first | done | with_reducible rfl
          case hk74 =>
          try simp only [Act.put, List.setIfInBounds_toArray, List.set_cons_zero, List.set_cons_succ]
          refine anyK_take 16 (oi := ?oo75) ?ho75 (by kernel_rfl) (by kernel_rfl) (by kernel_rfl) (by kernel_rfl) ?hq75 ?hw75 hT1 (fun _ => trivial) (v := ?vv75) ?hy75 ?hk75
          case ho75 => (simp only [List.getElem?_toArray, List.getElem?_cons_succ, List.getElem?_cons_zero]; rfl)
          case hq75 => exact fun _ _ _ h => h
          case hw75 => rfl
          case hy75 =>
            intro W hW
            go_simp
            first | done | with_reducible rfl
          case hk75 =>
          try simp only [Act.put, List.setIfInBounds_toArray, List.set_cons_zero, List.set_cons_succ]
          refine anyK_take 17 (oi := ?oo76) ?ho76 (by kernel_rfl) (by kernel_rfl) (by kernel_rfl) (by kernel_rfl) ?hq76 ?hw76 hT1 (fun _ => trivial) (v := ?vv76) ?hy76 ?hk76
          case ho76 => (simp only [List.getElem?_toArray, List.getElem?_cons_succ, List.getElem?_cons_zero]; rfl)
          case hq76 => exact fun _ _ _ h => h
          case hw76 => rfl
          case hy76 =>
            intro W hW
            go_simp
            first | done | with_reducible rfl
          case hk76 =>
          try simp only [Act.put, List.setIfInBounds_toArray, List.set_cons_zero, List.set_cons_succ]
          refine anyK_take 18 (oi := ?oo77) ?ho77 (by kernel_rfl) (by kernel_rfl) (by kernel_rfl) (by kernel_rfl) ?hq77 ?hw77 hT1 (fun _ => trivial) (v := ?vv77) ?hy77 ?hk77
          case ho77 => (simp only [List.getElem?_toArray, List.getElem?_cons_succ, List.getElem?_cons_zero]; rfl)
          case hq77 => exact fun _ _ _ h => h
          case hw77 => rfl
          case hy77 =>
            intro W hW
            go_simp
            first | done | with_reducible rfl
          case hk77 =>
          try simp only [Act.put, List.setIfInBounds_toArray, List.set_cons_zero, List.set_cons_succ]
          refine anyK_take 19 (oi := ?oo78) ?ho78 (by kernel_rfl) (by kernel_rfl) (by kernel_rfl) (by kernel_rfl) ?hq78 ?hw78 hT1 (fun _ => trivial) (v := ?vv78) ?hy78 ?hk78
          case ho78 => (simp only [List.getElem?_toArray, List.getElem?_cons_succ, List.getElem?_cons_zero]; rfl)
          case hq78 => exact fun _ _ _ h => h
          case hw78 => rfl
          case hy78 =>
            intro W hW
            go_simp
            first | done | with_reducible rfl
          case hk78 =>
          try simp only [Act.put, List.setIfInBounds_toArray, List.set_cons_zero, List.set_cons_succ]
          refine anyK_take 20 (oi := ?oo79) ?ho79 (by kernel_rfl) (by kernel_rfl) (by kernel_rfl) (by kernel_rfl) ?hq79 ?hw79 hT1 (fun _ => trivial) (v := ?vv79) ?hy79 ?hk79
          case ho79 => (simp only [List.getElem?_toArray, List.getElem?_cons_succ, List.getElem?_cons_zero]; rfl)
          case hq79 => exact fun _ _ _ h => h
          case hw79 => rfl
          case hy79 =>
            intro W hW
            go_simp
            first | done | with_reducible rfl
          case hk79 =>
          try simp only [Act.put, List.setIfInBounds_toArray, List.set_cons_zero, List.set_cons_succ]
          refine anyK_take 21 (oi := ?oo80) ?ho80 (by kernel_rfl) (by kernel_rfl) (by kernel_rfl) (by kernel_rfl) ?hq80 ?hw80 hT1 (fun _ => trivial) (v := ?vv80) ?hy80 ?hk80
          case ho80 => (simp only [List.getElem?_toArray, List.getElem?_cons_succ, List.getElem?_cons_zero]; rfl)
          case hq80 => exact fun _ _ _ h => h
          case hw80 => rfl
          case hy80 =>
            intro W hW
            go_simp
            first | done | with_reducible rfl
          case hk80 =>
          try simp only [Act.put, List.setIfInBounds_toArray, List.set_cons_zero, List.set_cons_succ]
          refine anyK_take 22 (oi := ?oo81) ?ho81 (by kernel_rfl) (by kernel_rfl) (by kernel_rfl) (by kernel_rfl) ?hq81 ?hw81 hT1 (fun _ => trivial) (v := ?vv81) ?hy81 ?hk81
          case ho81 => (simp only [List.getElem?_toArray, List.getElem?_cons_succ, List.getElem?_cons_zero]; rfl)
          case hq81 => exact fun _ _ _ h => h
          case hw81 => rfl
          case hy81 =>
            intro W hW
            go_simp
            first | done | with_reducible rfl
          case hk81 =>
          try simp only [Act.put, List.setIfInBounds_toArray, List.set_cons_zero, List.set_cons_succ]
          refine anyK_take 23 (oi := ?oo82) ?ho82 (by kernel_rfl) (by kernel_rfl) (by kernel_rfl) (by kernel_rfl) ?hq82 ?hw82 hT1 (fun _ => trivial) (v := ?vv82) ?hy82 ?hk82
          case ho82 => (simp only [List.getElem?_toArray, List.getElem?_cons_succ, List.getElem?_cons_zero]; rfl)
          case hq82 => exact fun _ _ _ h => h
          case hw82 => rfl
          case hy82 =>
            intro W hW
            go_simp
            first | done | with_reducible rfl
          case hk82 =>
          try simp only [Act.put, List.setIfInBounds_toArray, List.set_cons_zero, List.set_cons_succ]
          refine anyK_take 24 (oi := ?oo83) ?ho83 (by kernel_rfl) (by kernel_rfl) (by kernel_rfl) (by kernel_rfl) ?hq83 ?hw83 hT1 (fun _ => trivial) (v := ?vv83) ?hy83 ?hk83
          case ho83 => (simp only [List.getElem?_toArray, List.getElem?_cons_succ, List.getElem?_cons_zero]; rfl)
          case hq83 => exact fun _ _ _ h => h
          case hw83 => rfl
          case hy83 =>
            intro W hW
            obtain ⟨z0, z1, z2, z3, z4, z5, z6, z7, z8, z9, z10, z11, z12, z13, z14, z15, z16, z17, z18, z19, z20, z21, z22, z23⟩ := hW
            go_simp
            first | done | with_reducible rfl
          case hk83 =>
          try simp only [Act.put, List.setIfInBounds_toArray, List.set_cons_zero, List.set_cons_succ]
          refine anyK_take 25 (oi := ?oo84) ?ho84 (by kernel_rfl) (by kernel_rfl) (by kernel_rfl) (by kernel_rfl) ?hq84 ?hw84 hT1 (fun _ => trivial) (v := ?vv84) ?hy84 ?hk84
          case ho84 => (simp only [List.getElem?_toArray, List.getElem?_cons_succ, List.getElem?_cons_zero]; rfl)
          case hq84 => exact fun _ _ _ h => h
          case hw84 => rfl
          case hy84 =>
            intro W hW
            obtain ⟨z0, z1, z2, z3, z4, z5, z6, z7, z8, z9, z10, z11, z12, z13, z14, z15, z16, z17, z18, z19, z20, z21, z22, z23⟩ := hW
            go_simp
            first | done | with_reducible rfl
          case hk84 =>
          try simp only [Act.put, List.setIfInBounds_toArray, List.set_cons_zero, List.set_cons_succ]
          refine anyK_take 26 (oi := ?oo85) ?ho85 (by kernel_rfl) (by kernel_rfl) (by kernel_rfl) (by kernel_rfl) ?hq85 ?hw85 hT1 (fun _ => trivial) (v := ?vv85) ?hy85 ?hk85
          case ho85 => (simp only [List.getElem?_toArray, List.getElem?_cons_succ, List.getElem?_cons_zero]; rfl)
          case hq85 => exact fun _ _ _ h => h
          case hw85 => rfl
          case hy85 =>
            intro W hW
            go_simp
            first | done | with_reducible rfl
          case hk85 =>
          try simp only [Act.put, List.setIfInBounds_toArray, List.set_cons_zero, List.set_cons_succ]
          refine anyK_take 27 (oi := ?oo86) ?ho86 (by kernel_rfl) (by kernel_rfl) (by kernel_rfl) (by kernel_rfl) ?hq86 ?hw86 hT1 (fun _ => trivial) (v := ?vv86) ?hy86 ?hk86
          case ho86 => (simp only [List.getElem?_toArray, List.getElem?_cons_succ, List.getElem?_cons_zero]; rfl)
          case hq86 => exact fun _ _ _ h => h
          case hw86 => rfl
          case hy86 =>
            intro W hW
            go_simp
            first | done | with_reducible rfl
          case hk86 =>
          try simp only [Act.put, List.setIfInBounds_toArray, List.set_cons_zero, List.set_cons_succ]
          refine anyK_take 28 (oi := ?oo87) ?ho87 (by kernel_rfl) (by kernel_rfl) (by kernel_rfl) (by kernel_rfl) ?hq87 ?hw87 hT1 (fun _ => trivial) (v := ?vv87) ?hy87 ?hk87
          case ho87 => (simp only [List.getElem?_toArray, List.getElem?_cons_succ, List.getElem?_cons_zero]; rfl)
          case hq87 => exact fun _ _ _ h => h
          case hw87 => rfl
          case hy87 =>
            intro W hW
            go_simp
            first | done | with_reducible rfl
          case hk87 =>
          try simp only [Act.put, List.setIfInBounds_toArray, List.set_cons_zero, List.set_cons_succ]
          refine anyK_done (by kernel_rfl) ?_ _
          clear keepK hT0 hT1
          go_wp2
          go_roundw
          case rel => exact ⟨k + 1, by omega, by go_num, ext_trans XB.out (ext_trans XR.out yy)⟩
          case measure => simp [intOf]; omega
        · have t1 : (z.src == y.src) = true := by simpa using e1
          have t2 : (z.dst == y.dst) = true := by simpa using e2
          have t3 : (z.piece == y.piece) = false := by simpa using h1
          clear h1 e1 e2
          have keepK := hide (fun W (h : Ext w4 W) => (show (fun W => W.cell? ⟨BR, 0, none⟩ = some (.string R.name) ∧ W.cell? ⟨BR, 1, none⟩ = some (.int .i64 R.width) ∧ W.cell? ⟨BR, 2, none⟩ = some (.int .i64 R.height) ∧ W.cell? ⟨BR, 3, none⟩ = some (.slice pA R.pieces.length pc) ∧ W.cell? ⟨BR, 4, none⟩ = some (.slice sA R.start.length sc) ∧ W.cell? ⟨BR, 5, none⟩ = some (.bool R.falls) ∧ W.cell? ⟨BR, 6, none⟩ = some (.bool R.keeps) ∧ W.cell? ⟨BR, 7, none⟩ = some (.slice eA R.ends.length ec) ∧ W.cell? ⟨BR, 8, none⟩ = some (.int .i64 R.blocked) ∧ W.cell? ⟨BR, 9, none⟩ = some (.int .i64 R.quiet) ∧ W.cell? ⟨BR, 10, none⟩ = some (.int .i64 R.rept) ∧ W.cell? ⟨B6, 0, none⟩ = some (.slice cA6 Q.cells.length cc6) ∧ W.cell? ⟨B6, 1, none⟩ = some (.slice aA6 Q.hand0.length ac6) ∧ W.cell? ⟨B6, 2, none⟩ = some (.slice bA6 Q.hand1.length bc6) ∧ W.cell? ⟨B6, 3, none⟩ = some (.int .i64 Q.turn) ∧ W.cell? ⟨B6, 4, none⟩ = some (.int .i64 Q.quiet) ∧ W.cell? ⟨BP, 3, none⟩ = some (.int .i64 P.turn) ∧ W.cell? ⟨b, o + j * 3, none⟩ = some (.int .i64 z.src) ∧ W.cell? ⟨b, o + j * 3 + 1, none⟩ = some (.int .i64 z.dst) ∧ W.cell? ⟨b, o + j * 3 + 2, none⟩ = some (.int .i64 z.piece) ∧ W.cell? ⟨BY, 0, none⟩ = some (.int .i64 y.src) ∧ W.cell? ⟨BY, 1, none⟩ = some (.int .i64 y.dst) ∧ W.cell? ⟨BY, 2, none⟩ = some (.int .i64 y.piece) ∧ Ext w4 W) W from ⟨(KR.out.ext h).cell 0, (KR.out.ext h).cell 1, (KR.out.ext h).cell 2, (KR.out.ext h).cell 3, (KR.out.ext h).cell 4, (KR.out.ext h).cell 5, (KR.out.ext h).cell 6, (KR.out.ext h).cell 7, (KR.out.ext h).cell 8, (KR.out.ext h).cell 9, (KR.out.ext h).cell 10, (K6.out.ext h).cell 0, (K6.out.ext h).cell 1, (K6.out.ext h).cell 2, (K6.out.ext h).cell 3, (K6.out.ext h).cell 4, (KP.out.ext h).cell 3, h.cell HZC.out.1, h.cell HZC.out.2.1, h.cell HZC.out.2.2, (KY.out.ext h).cell 0, (KY.out.ext h).cell 1, (KY.out.ext h).cell 2, h⟩))
          have yy : Ext w4 w4.drew := Below.drew (Below.refl _ _)
          refine region_K (fun W => W.cell? ⟨BR, 0, none⟩ = some (.string R.name) ∧ W.cell? ⟨BR, 1, none⟩ = some (.int .i64 R.width) ∧ W.cell? ⟨BR, 2, none⟩ = some (.int .i64 R.height) ∧ W.cell? ⟨BR, 3, none⟩ = some (.slice pA R.pieces.length pc) ∧ W.cell? ⟨BR, 4, none⟩ = some (.slice sA R.start.length sc) ∧ W.cell? ⟨BR, 5, none⟩ = some (.bool R.falls) ∧ W.cell? ⟨BR, 6, none⟩ = some (.bool R.keeps) ∧ W.cell? ⟨BR, 7, none⟩ = some (.slice eA R.ends.length ec) ∧ W.cell? ⟨BR, 8, none⟩ = some (.int .i64 R.blocked) ∧ W.cell? ⟨BR, 9, none⟩ = some (.int .i64 R.quiet) ∧ W.cell? ⟨BR, 10, none⟩ = some (.int .i64 R.rept) ∧ W.cell? ⟨B6, 0, none⟩ = some (.slice cA6 Q.cells.length cc6) ∧ W.cell? ⟨B6, 1, none⟩ = some (.slice aA6 Q.hand0.length ac6) ∧ W.cell? ⟨B6, 2, none⟩ = some (.slice bA6 Q.hand1.length bc6) ∧ W.cell? ⟨B6, 3, none⟩ = some (.int .i64 Q.turn) ∧ W.cell? ⟨B6, 4, none⟩ = some (.int .i64 Q.quiet) ∧ W.cell? ⟨BP, 3, none⟩ = some (.int .i64 P.turn) ∧ W.cell? ⟨b, o + j * 3, none⟩ = some (.int .i64 z.src) ∧ W.cell? ⟨b, o + j * 3 + 1, none⟩ = some (.int .i64 z.dst) ∧ W.cell? ⟨b, o + j * 3 + 2, none⟩ = some (.int .i64 z.piece) ∧ W.cell? ⟨BY, 0, none⟩ = some (.int .i64 y.src) ∧ W.cell? ⟨BY, 1, none⟩ = some (.int .i64 y.dst) ∧ W.cell? ⟨BY, 2, none⟩ = some (.int .i64 y.piece) ∧ Ext w4 W) (fun _ => True) [] (by kernel_rfl) ?_
          have hT0 := keepK.out _ yy
          refine anyK_take 0 (oi := ?oo88) ?ho88 (by kernel_rfl) (by kernel_rfl) (by kernel_rfl) (by kernel_rfl) ?hq88 ?hw88 hT0 (fun _ => trivial) (v := ?vv88) ?hy88 ?hk88
          case ho88 => (simp only [List.getElem?_toArray, List.getElem?_cons_succ, List.getElem?_cons_zero]; rfl)
          case hq88 => exact fun _ _ _ h => h
          case hw88 => rfl
          case hy88 =>
            intro W hW
            go_simp
            first | done | with_reducible rfl
          case hk88 =>
          try simp only [Act.put, List.setIfInBounds_toArray, List.set_cons_zero, List.set_cons_succ]
          refine anyK_take 1 (oi := ?oo89) ?ho89 (by kernel_rfl) (by kernel_rfl) (by kernel_rfl) (by kernel_rfl) ?hq89 ?hw89 hT0 (fun _ => trivial) (v := ?vv89) ?hy89 ?hk89
          case ho89 => (simp only [List.getElem?_toArray, List.getElem?_cons_succ, List.getElem?_cons_zero]; rfl)
          case hq89 => exact fun _ _ _ h => h
          case hw89 => rfl
          case hy89 =>
            intro W hW
            go_simp
            first | done | with_reducible rfl
          case hk89 =>
          try simp only [Act.put, List.setIfInBounds_toArray, List.set_cons_zero, List.set_cons_succ]
          refine anyK_take 2 (oi := ?oo90) ?ho90 (by kernel_rfl) (by kernel_rfl) (by kernel_rfl) (by kernel_rfl) ?hq90 ?hw90 hT0 (fun _ => trivial) (v := ?vv90) ?hy90 ?hk90
          case ho90 => (simp only [List.getElem?_toArray, List.getElem?_cons_succ, List.getElem?_cons_zero]; rfl)
          case hq90 => exact fun _ _ _ h => h
          case hw90 => rfl
          case hy90 =>
            intro W hW
            go_simp
            first | done | with_reducible rfl
          case hk90 =>
          try simp only [Act.put, List.setIfInBounds_toArray, List.set_cons_zero, List.set_cons_succ]
          refine anyK_take 3 (oi := ?oo91) ?ho91 (by kernel_rfl) (by kernel_rfl) (by kernel_rfl) (by kernel_rfl) ?hq91 ?hw91 hT0 (fun _ => trivial) (v := ?vv91) ?hy91 ?hk91
          case ho91 => (simp only [List.getElem?_toArray, List.getElem?_cons_succ, List.getElem?_cons_zero]; rfl)
          case hq91 => exact fun _ _ _ h => h
          case hw91 => rfl
          case hy91 =>
            intro W hW
            obtain ⟨z0, z1, z2, z3, z4, z5, z6, z7, z8, z9, z10, z11, z12, z13, z14, z15, z16, z17, z18, z19, z20, z21, z22, z23⟩ := hW
            go_simp
            first | done | with_reducible rfl
          case hk91 =>
          try simp only [Act.put, List.setIfInBounds_toArray, List.set_cons_zero, List.set_cons_succ]
          refine anyK_take 4 (oi := ?oo92) ?ho92 (by kernel_rfl) (by kernel_rfl) (by kernel_rfl) (by kernel_rfl) ?hq92 ?hw92 hT0 (fun _ => trivial) (v := ?vv92) ?hy92 ?hk92
          case ho92 => (simp only [List.getElem?_toArray, List.getElem?_cons_succ, List.getElem?_cons_zero]; rfl)
          case hq92 => exact fun _ _ _ h => h
          case hw92 => rfl
          case hy92 =>
            intro W hW
            obtain ⟨z0, z1, z2, z3, z4, z5, z6, z7, z8, z9, z10, z11, z12, z13, z14, z15, z16, z17, z18, z19, z20, z21, z22, z23⟩ := hW
            go_simp
            first | done | with_reducible rfl
          case hk92 =>
          try simp only [Act.put, List.setIfInBounds_toArray, List.set_cons_zero, List.set_cons_succ]
          refine anyK_on1 5 (by kernel_rfl) ?_
          refine anyK_one 5 (o := ?oo93) ?ho93 ?hk93
          case ho93 => (simp only [List.getElem?_toArray, List.getElem?_cons_succ, List.getElem?_cons_zero]; rfl)
          case hk93 =>
          intro K hK
          go_simp
          refine (HC2.out _ _ _ (HR.out.ext yy) (H6.out.ext yy)).mono ?_
          rintro e wz ⟨rfl, xx⟩
          try go_wp2_with fail
          replace yy := ext_trans yy xx
          have hT1 := keepK.out _ yy
          refine hK.out _ _ hT1 (fun _ => trivial) ?_
          clear hK K
          try simp only [Act.put, List.setIfInBounds_toArray, List.set_cons_zero, List.set_cons_succ]
          refine anyK_take 6 (oi := ?oo94) ?ho94 (by kernel_rfl) (by kernel_rfl) (by kernel_rfl) (by kernel_rfl) ?hq94 ?hw94 hT1 (fun _ => trivial) (v := ?vv94) ?hy94 ?hk94
          case ho94 => (simp only [List.getElem?_toArray, List.getElem?_cons_succ, List.getElem?_cons_zero]; rfl)
          case hq94 => exact fun _ _ _ h => h
          case hw94 => rfl
          case hy94 =>
            intro W hW
            go_simp
            first | done | with_reducible rfl
          case hk94 =>
          try simp only [Act.put, List.setIfInBounds_toArray, List.set_cons_zero, List.set_cons_succ]
          refine anyK_take 7 (oi := ?oo95) ?ho95 (by kernel_rfl) (by kernel_rfl) (by kernel_rfl) (by kernel_rfl) ?hq95 ?hw95 hT1 (fun _ => trivial) (v := ?vv95) ?hy95 ?hk95
          case ho95 => (simp only [List.getElem?_toArray, List.getElem?_cons_succ, List.getElem?_cons_zero]; rfl)
          case hq95 => exact fun _ _ _ h => h
          case hw95 => rfl
          case hy95 =>
            intro W hW
            go_simp
            first | done | with_reducible rfl
          case hk95 =>
          try simp only [Act.put, List.setIfInBounds_toArray, List.set_cons_zero, List.set_cons_succ]
          refine anyK_take 8 (oi := ?oo96) ?ho96 (by kernel_rfl) (by kernel_rfl) (by kernel_rfl) (by kernel_rfl) ?hq96 ?hw96 hT1 (fun _ => trivial) (v := ?vv96) ?hy96 ?hk96
          case ho96 => (simp only [List.getElem?_toArray, List.getElem?_cons_succ, List.getElem?_cons_zero]; rfl)
          case hq96 => exact fun _ _ _ h => h
          case hw96 => rfl
          case hy96 =>
            intro W hW
            go_simp
            first | done | with_reducible rfl
          case hk96 =>
          try simp only [Act.put, List.setIfInBounds_toArray, List.set_cons_zero, List.set_cons_succ]
          refine anyK_take 9 (oi := ?oo97) ?ho97 (by kernel_rfl) (by kernel_rfl) (by kernel_rfl) (by kernel_rfl) ?hq97 ?hw97 hT1 (fun _ => trivial) (v := ?vv97) ?hy97 ?hk97
          case ho97 => (simp only [List.getElem?_toArray, List.getElem?_cons_succ, List.getElem?_cons_zero]; rfl)
          case hq97 => exact fun _ _ _ h => h
          case hw97 => rfl
          case hy97 =>
            intro W hW
            go_simp
            first | done | with_reducible rfl
          case hk97 =>
          try simp only [Act.put, List.setIfInBounds_toArray, List.set_cons_zero, List.set_cons_succ]
          refine anyK_take 10 (oi := ?oo98) ?ho98 (by kernel_rfl) (by kernel_rfl) (by kernel_rfl) (by kernel_rfl) ?hq98 ?hw98 hT1 (fun _ => trivial) (v := ?vv98) ?hy98 ?hk98
          case ho98 => (simp only [List.getElem?_toArray, List.getElem?_cons_succ, List.getElem?_cons_zero]; rfl)
          case hq98 => exact fun _ _ _ h => h
          case hw98 => rfl
          case hy98 =>
            intro W hW
            obtain ⟨z0, z1, z2, z3, z4, z5, z6, z7, z8, z9, z10, z11, z12, z13, z14, z15, z16, z17, z18, z19, z20, z21, z22, z23⟩ := hW
            go_simp
            first | done | with_reducible rfl
          case hk98 =>
          try simp only [Act.put, List.setIfInBounds_toArray, List.set_cons_zero, List.set_cons_succ]
          refine anyK_take 11 (oi := ?oo99) ?ho99 (by kernel_rfl) (by kernel_rfl) (by kernel_rfl) (by kernel_rfl) ?hq99 ?hw99 hT1 (fun _ => trivial) (v := ?vv99) ?hy99 ?hk99
          case ho99 => (simp only [List.getElem?_toArray, List.getElem?_cons_succ, List.getElem?_cons_zero]; rfl)
          case hq99 => exact fun _ _ _ h => h
          case hw99 => rfl
          case hy99 =>
            intro W hW
            go_simp
            first | done | with_reducible rfl
          case hk99 =>
          try simp only [Act.put, List.setIfInBounds_toArray, List.set_cons_zero, List.set_cons_succ]
          refine anyK_take 12 (oi := ?oo100) ?ho100 (by kernel_rfl) (by kernel_rfl) (by kernel_rfl) (by kernel_rfl) ?hq100 ?hw100 hT1 (fun _ => trivial) (v := ?vv100) ?hy100 ?hk100
          case ho100 => (simp only [List.getElem?_toArray, List.getElem?_cons_succ, List.getElem?_cons_zero]; rfl)
          case hq100 => exact fun _ _ _ h => h
          case hw100 => rfl
          case hy100 =>
            intro W hW
            obtain ⟨z0, z1, z2, z3, z4, z5, z6, z7, z8, z9, z10, z11, z12, z13, z14, z15, z16, z17, z18, z19, z20, z21, z22, z23⟩ := hW
            go_simp
            first | done | with_reducible rfl
          case hk100 =>
          try simp only [Act.put, List.setIfInBounds_toArray, List.set_cons_zero, List.set_cons_succ]
          refine anyK_take 13 (oi := ?oo101) ?ho101 (by kernel_rfl) (by kernel_rfl) (by kernel_rfl) (by kernel_rfl) ?hq101 ?hw101 hT1 (fun _ => trivial) (v := ?vv101) ?hy101 ?hk101
          case ho101 => (simp only [List.getElem?_toArray, List.getElem?_cons_succ, List.getElem?_cons_zero]; rfl)
          case hq101 => exact fun _ _ _ h => h
          case hw101 => rfl
          case hy101 =>
            intro W hW
            go_simp
            first | done | with_reducible rfl
          case hk101 =>
          try simp only [Act.put, List.setIfInBounds_toArray, List.set_cons_zero, List.set_cons_succ]
          refine anyK_take 14 (oi := ?oo102) ?ho102 (by kernel_rfl) (by kernel_rfl) (by kernel_rfl) (by kernel_rfl) ?hq102 ?hw102 hT1 (fun _ => trivial) (v := ?vv102) ?hy102 ?hk102
          case ho102 => (simp only [List.getElem?_toArray, List.getElem?_cons_succ, List.getElem?_cons_zero]; rfl)
          case hq102 => exact fun _ _ _ h => h
          case hw102 => rfl
          case hy102 =>
            intro W hW
            go_simp
            first | done | with_reducible rfl
          case hk102 =>
          try simp only [Act.put, List.setIfInBounds_toArray, List.set_cons_zero, List.set_cons_succ]
          refine anyK_take 15 (oi := ?oo103) ?ho103 (by kernel_rfl) (by kernel_rfl) (by kernel_rfl) (by kernel_rfl) ?hq103 ?hw103 hT1 (fun _ => trivial) (v := ?vv103) ?hy103 ?hk103
          case ho103 => (simp only [List.getElem?_toArray, List.getElem?_cons_succ, List.getElem?_cons_zero]; rfl)
          case hq103 => exact fun _ _ _ h => h
          case hw103 => rfl
          case hy103 =>
            intro W hW
            go_simp
            first | done | with_reducible rfl
          case hk103 =>
          try simp only [Act.put, List.setIfInBounds_toArray, List.set_cons_zero, List.set_cons_succ]
          refine anyK_take 16 (oi := ?oo104) ?ho104 (by kernel_rfl) (by kernel_rfl) (by kernel_rfl) (by kernel_rfl) ?hq104 ?hw104 hT1 (fun _ => trivial) (v := ?vv104) ?hy104 ?hk104
          case ho104 => (simp only [List.getElem?_toArray, List.getElem?_cons_succ, List.getElem?_cons_zero]; rfl)
          case hq104 => exact fun _ _ _ h => h
          case hw104 => rfl
          case hy104 =>
            intro W hW
            go_simp
            first | done | with_reducible rfl
          case hk104 =>
          try simp only [Act.put, List.setIfInBounds_toArray, List.set_cons_zero, List.set_cons_succ]
          refine anyK_take 17 (oi := ?oo105) ?ho105 (by kernel_rfl) (by kernel_rfl) (by kernel_rfl) (by kernel_rfl) ?hq105 ?hw105 hT1 (fun _ => trivial) (v := ?vv105) ?hy105 ?hk105
          case ho105 => (simp only [List.getElem?_toArray, List.getElem?_cons_succ, List.getElem?_cons_zero]; rfl)
          case hq105 => exact fun _ _ _ h => h
          case hw105 => rfl
          case hy105 =>
            intro W hW
            go_simp
            first | done | with_reducible rfl
          case hk105 =>
          try simp only [Act.put, List.setIfInBounds_toArray, List.set_cons_zero, List.set_cons_succ]
          refine anyK_take 18 (oi := ?oo106) ?ho106 (by kernel_rfl) (by kernel_rfl) (by kernel_rfl) (by kernel_rfl) ?hq106 ?hw106 hT1 (fun _ => trivial) (v := ?vv106) ?hy106 ?hk106
          case ho106 => (simp only [List.getElem?_toArray, List.getElem?_cons_succ, List.getElem?_cons_zero]; rfl)
          case hq106 => exact fun _ _ _ h => h
          case hw106 => rfl
          case hy106 =>
            intro W hW
            go_simp
            first | done | with_reducible rfl
          case hk106 =>
          try simp only [Act.put, List.setIfInBounds_toArray, List.set_cons_zero, List.set_cons_succ]
          refine anyK_take 19 (oi := ?oo107) ?ho107 (by kernel_rfl) (by kernel_rfl) (by kernel_rfl) (by kernel_rfl) ?hq107 ?hw107 hT1 (fun _ => trivial) (v := ?vv107) ?hy107 ?hk107
          case ho107 => (simp only [List.getElem?_toArray, List.getElem?_cons_succ, List.getElem?_cons_zero]; rfl)
          case hq107 => exact fun _ _ _ h => h
          case hw107 => rfl
          case hy107 =>
            intro W hW
            go_simp
            first | done | with_reducible rfl
          case hk107 =>
          try simp only [Act.put, List.setIfInBounds_toArray, List.set_cons_zero, List.set_cons_succ]
          refine anyK_take 20 (oi := ?oo108) ?ho108 (by kernel_rfl) (by kernel_rfl) (by kernel_rfl) (by kernel_rfl) ?hq108 ?hw108 hT1 (fun _ => trivial) (v := ?vv108) ?hy108 ?hk108
          case ho108 => (simp only [List.getElem?_toArray, List.getElem?_cons_succ, List.getElem?_cons_zero]; rfl)
          case hq108 => exact fun _ _ _ h => h
          case hw108 => rfl
          case hy108 =>
            intro W hW
            go_simp
            first | done | with_reducible rfl
          case hk108 =>
          try simp only [Act.put, List.setIfInBounds_toArray, List.set_cons_zero, List.set_cons_succ]
          refine anyK_take 21 (oi := ?oo109) ?ho109 (by kernel_rfl) (by kernel_rfl) (by kernel_rfl) (by kernel_rfl) ?hq109 ?hw109 hT1 (fun _ => trivial) (v := ?vv109) ?hy109 ?hk109
          case ho109 => (simp only [List.getElem?_toArray, List.getElem?_cons_succ, List.getElem?_cons_zero]; rfl)
          case hq109 => exact fun _ _ _ h => h
          case hw109 => rfl
          case hy109 =>
            intro W hW
            go_simp
            first | done | with_reducible rfl
          case hk109 =>
          try simp only [Act.put, List.setIfInBounds_toArray, List.set_cons_zero, List.set_cons_succ]
          refine anyK_take 22 (oi := ?oo110) ?ho110 (by kernel_rfl) (by kernel_rfl) (by kernel_rfl) (by kernel_rfl) ?hq110 ?hw110 hT1 (fun _ => trivial) (v := ?vv110) ?hy110 ?hk110
          case ho110 => (simp only [List.getElem?_toArray, List.getElem?_cons_succ, List.getElem?_cons_zero]; rfl)
          case hq110 => exact fun _ _ _ h => h
          case hw110 => rfl
          case hy110 =>
            intro W hW
            go_simp
            first | done | with_reducible rfl
          case hk110 =>
          try simp only [Act.put, List.setIfInBounds_toArray, List.set_cons_zero, List.set_cons_succ]
          refine anyK_take 23 (oi := ?oo111) ?ho111 (by kernel_rfl) (by kernel_rfl) (by kernel_rfl) (by kernel_rfl) ?hq111 ?hw111 hT1 (fun _ => trivial) (v := ?vv111) ?hy111 ?hk111
          case ho111 => (simp only [List.getElem?_toArray, List.getElem?_cons_succ, List.getElem?_cons_zero]; rfl)
          case hq111 => exact fun _ _ _ h => h
          case hw111 => rfl
          case hy111 =>
            intro W hW
            go_simp
            first | done | with_reducible rfl
          case hk111 =>
          try simp only [Act.put, List.setIfInBounds_toArray, List.set_cons_zero, List.set_cons_succ]
          refine anyK_take 24 (oi := ?oo112) ?ho112 (by kernel_rfl) (by kernel_rfl) (by kernel_rfl) (by kernel_rfl) ?hq112 ?hw112 hT1 (fun _ => trivial) (v := ?vv112) ?hy112 ?hk112
          case ho112 => (simp only [List.getElem?_toArray, List.getElem?_cons_succ, List.getElem?_cons_zero]; rfl)
          case hq112 => exact fun _ _ _ h => h
          case hw112 => rfl
          case hy112 =>
            intro W hW
            obtain ⟨z0, z1, z2, z3, z4, z5, z6, z7, z8, z9, z10, z11, z12, z13, z14, z15, z16, z17, z18, z19, z20, z21, z22, z23⟩ := hW
            go_simp
            first | done | with_reducible rfl
          case hk112 =>
          try simp only [Act.put, List.setIfInBounds_toArray, List.set_cons_zero, List.set_cons_succ]
          refine anyK_take 25 (oi := ?oo113) ?ho113 (by kernel_rfl) (by kernel_rfl) (by kernel_rfl) (by kernel_rfl) ?hq113 ?hw113 hT1 (fun _ => trivial) (v := ?vv113) ?hy113 ?hk113
          case ho113 => (simp only [List.getElem?_toArray, List.getElem?_cons_succ, List.getElem?_cons_zero]; rfl)
          case hq113 => exact fun _ _ _ h => h
          case hw113 => rfl
          case hy113 =>
            intro W hW
            obtain ⟨z0, z1, z2, z3, z4, z5, z6, z7, z8, z9, z10, z11, z12, z13, z14, z15, z16, z17, z18, z19, z20, z21, z22, z23⟩ := hW
            go_simp
            first | done | with_reducible rfl
          case hk113 =>
          try simp only [Act.put, List.setIfInBounds_toArray, List.set_cons_zero, List.set_cons_succ]
          refine anyK_take 26 (oi := ?oo114) ?ho114 (by kernel_rfl) (by kernel_rfl) (by kernel_rfl) (by kernel_rfl) ?hq114 ?hw114 hT1 (fun _ => trivial) (v := ?vv114) ?hy114 ?hk114
          case ho114 => (simp only [List.getElem?_toArray, List.getElem?_cons_succ, List.getElem?_cons_zero]; rfl)
          case hq114 => exact fun _ _ _ h => h
          case hw114 => rfl
          case hy114 =>
            intro W hW
            go_simp
            first | done | with_reducible rfl
          case hk114 =>
          try simp only [Act.put, List.setIfInBounds_toArray, List.set_cons_zero, List.set_cons_succ]
          refine anyK_take 27 (oi := ?oo115) ?ho115 (by kernel_rfl) (by kernel_rfl) (by kernel_rfl) (by kernel_rfl) ?hq115 ?hw115 hT1 (fun _ => trivial) (v := ?vv115) ?hy115 ?hk115
          case ho115 => (simp only [List.getElem?_toArray, List.getElem?_cons_succ, List.getElem?_cons_zero]; rfl)
          case hq115 => exact fun _ _ _ h => h
          case hw115 => rfl
          case hy115 =>
            intro W hW
            go_simp
            first | done | with_reducible rfl
          case hk115 =>
          try simp only [Act.put, List.setIfInBounds_toArray, List.set_cons_zero, List.set_cons_succ]
          refine anyK_take 28 (oi := ?oo116) ?ho116 (by kernel_rfl) (by kernel_rfl) (by kernel_rfl) (by kernel_rfl) ?hq116 ?hw116 hT1 (fun _ => trivial) (v := ?vv116) ?hy116 ?hk116
          case ho116 => (simp only [List.getElem?_toArray, List.getElem?_cons_succ, List.getElem?_cons_zero]; rfl)
          case hq116 => exact fun _ _ _ h => h
          case hw116 => rfl
          case hy116 =>
            intro W hW
            go_simp
            first | done | with_reducible rfl
          case hk116 =>
          try simp only [Act.put, List.setIfInBounds_toArray, List.set_cons_zero, List.set_cons_succ]
          refine anyK_done (by kernel_rfl) ?_ _
          clear keepK hT0 hT1
          go_wp2
          go_roundw
          case rel => exact ⟨k + 1, by omega, by go_num, ext_trans XB.out (ext_trans XR.out yy)⟩
          case measure => simp [intOf]; omega
    · obtain rfl : k = L.length := by omega
      clear hk hlt
      have fR := kR.cell
      have fP := kP.cell
      have fM := kM.cell
      have h5v := h5
      obtain ⟨A6, c6, e6, -⟩ := h5v
      by_cases hm : m ∈ L
      · skip
        have HCO2 := hide (fun W (h : MovesAt W (.slice A5 L.length c5) L) => HCO.out m _ W h)
        rw [decide_eq_true hm] at HCO2
        have HG2 := hide (HG.out m)
        rw [decide_eq_true hm] at HG2
        have HA2 := hide (HA.out m hm)
        clear HA HI HG HCO HC HTN HST hm
        go_wp2_with fail
        generalize makeM R P m = Q at *
        refine (HA2.out _ _ _ hR hP).mono ?_
        rintro e w2 ⟨v6, rfl, h6, x⟩
        replace hR := hR.ext x
        replace hP := hP.ext x
        replace kR := kR.ext x
        replace kP := kP.ext x
        replace kM := kM.ext x
        replace h5 := h5.ext x
        replace X := ext_trans X x
        replace fR := kR.cell
        replace fP := kP.cell
        replace fM := kM.cell
        clear x
        replace h6 := h6.at_
        have h6v := h6
        obtain ⟨cA6, cc6, aA6, ac6, bA6, bc6, rfl, -⟩ := h6v
        clear h6
        obtain ⟨xa, -⟩ := blks1 w2 #[.slice cA6 Q.cells.length cc6, .slice aA6 Q.hand0.length ac6, .slice bA6 Q.hand1.length bc6, .int .i64 Q.turn, .int .i64 Q.quiet] 36
        replace hR := hR.ext xa
        replace hP := hP.ext xa
        replace kR := kR.ext xa
        replace kP := kP.ext xa
        replace kM := kM.ext xa
        replace h5 := h5.ext xa
        replace X := ext_trans X xa
        have fR' := kR.cell
        have fP' := kP.cell
        have fM' := kM.cell
        clear xa
        go_wp2_with fail
        generalize (w2.alloc (.cells #[.slice cA6 Q.cells.length cc6, .slice aA6 Q.hand0.length ac6, .slice bA6 Q.hand1.length bc6, .int .i64 Q.turn, .int .i64 Q.quiet] 36)) = w3 at *
        generalize w2.heap.size = B6 at *
        replace fR := kR.cell
        clear fR'
        replace fP := kP.cell
        clear fP'
        replace fM := kM.cell
        clear fM'
        refine (HG2.out _ _ _ hR hP).mono ?_
        rintro e w4 ⟨rfl, x⟩
        replace hR := hR.ext x
        replace hP := hP.ext x
        replace kR := kR.ext x
        replace kP := kP.ext x
        replace kM := kM.ext x
        replace h5 := h5.ext x
        replace X := ext_trans X x
        replace fR := kR.cell
        replace fP := kP.cell
        replace fM := kM.cell
        clear x
        clear fR fP
        go_wp2_with fail
        refine (HCO2.out _ h5).mono ?_
        rintro e w5 ⟨rfl, x⟩
        replace hR := hR.ext x
        replace hP := hP.ext x
        replace kR := kR.ext x
        replace kP := kP.ext x
        replace kM := kM.ext x
        replace h5 := h5.ext x
        replace X := ext_trans X x
        replace fM := kM.cell
        clear x
        clear fM
        go_wp2
        go_ret
        exact ⟨rfl, X⟩
      · skip
        have HCO2 := hide (fun W (h : MovesAt W (.slice A5 L.length c5) L) => HCO.out m _ W h)
        rw [decide_eq_false hm] at HCO2
        have HG2 := hide (HG.out m)
        rw [decide_eq_false hm] at HG2
        have HA2 := hide (HI.out m hm)
        clear HA HI HG HCO HC HTN HST hm
        go_wp2_with fail
        refine (HA2.out _ _ _ hR hP).mono ?_
        rintro e w2 ⟨rfl, x⟩
        replace hR := hR.ext x
        replace hP := hP.ext x
        replace kR := kR.ext x
        replace kP := kP.ext x
        replace kM := kM.ext x
        replace h5 := h5.ext x
        replace X := ext_trans X x
        replace fR := kR.cell
        replace fP := kP.cell
        replace fM := kM.cell
        clear x
        obtain ⟨xa, -⟩ := blks1 w2 #[.slice none 0 0, .slice none 0 0, .slice none 0 0, .int .i64 0, .int .i64 0] 36
        replace hR := hR.ext xa
        replace hP := hP.ext xa
        replace kR := kR.ext xa
        replace kP := kP.ext xa
        replace kM := kM.ext xa
        replace h5 := h5.ext xa
        replace X := ext_trans X xa
        have fR' := kR.cell
        have fP' := kP.cell
        have fM' := kM.cell
        clear xa
        go_wp2_with fail
        generalize (w2.alloc (.cells #[.slice none 0 0, .slice none 0 0, .slice none 0 0, .int .i64 0, .int .i64 0] 36)) = w3 at *
        generalize w2.heap.size = B6 at *
        replace fR := kR.cell
        clear fR'
        replace fP := kP.cell
        clear fP'
        replace fM := kM.cell
        clear fM'
        refine (HG2.out _ _ _ hR hP).mono ?_
        rintro e w4 ⟨rfl, x⟩
        replace hR := hR.ext x
        replace hP := hP.ext x
        replace kR := kR.ext x
        replace kP := kP.ext x
        replace kM := kM.ext x
        replace h5 := h5.ext x
        replace X := ext_trans X x
        replace fR := kR.cell
        replace fP := kP.cell
        replace fM := kM.cell
        clear x
        clear fR fP
        go_wp2_with fail
        refine (HCO2.out _ h5).mono ?_
        rintro e w5 ⟨rfl, x⟩
        replace hR := hR.ext x
        replace hP := hP.ext x
        replace kR := kR.ext x
        replace kP := kP.ext x
        replace kM := kM.ext x
        replace h5 := h5.ext x
        replace X := ext_trans X x
        replace fM := kM.cell
        clear x
        clear fM
        go_wp2
        go_ret
        exact ⟨rfl, X⟩
theorem movesValid_law (v : Value) (R : RulesM) (u : Value) (P : PosM) (m : MoveM) (w : World) (hR : RulesAt w v R) (hP : PosAt w u P) :
    Calls Try.prog 5 #[v, u, .agg #[.int .i64 m.src, .int .i64 m.dst, .int .i64 m.piece]] w fun e w' => e = .returned (.bool true) ∧ Ext w w' := by
  by_cases h : checkE R P = 0
  · obtain ⟨hV, hS⟩ := check_iff.1 h
    exact movesValid_yes R P v u m w hR hP hV hS
  · exact movesValid_no R P v u m w hR hP h

end Go.Proofs.Ytcfiannlpkofpaa
