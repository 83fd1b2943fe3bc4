/- Walk: the law MovesPieces. -/
import Derived.Test.YtcfiannlpkofpaaPlays
import Derived.Test.YtcfiannlpkofpaaPieces
import Derived.Test.YtcfiannlpkofpaaRegionK
namespace Go.Proofs.Ytcfiannlpkofpaa
open Go.ChangeShapes Go.WideShapes Go.ChangeAt Go.RowKit Go.Shelf
set_option linter.unusedVariables false
set_option linter.unusedSimpArgs false
structure From (a b : World) : Prop where
  x : Ext a b
theorem From.ext {a b c : World} (h : From a b) (k : Ext b c) : From a c := ⟨ext_trans h.x k⟩
theorem move_sq {R : RulesM} {P : PosM} {m : MoveM} (hV : Valid R) (hS : Sound R P) (h : m ∈ listM R P) : 0 ≤ m.dst ∧ m.dst < P.cells.length ∧ -1 ≤ m.src := by
  rcases rawM_cases hV hS (mem_listM.1 h) with ⟨d, q, rfl, hc, -⟩ | ⟨s, d, q, rfl, hc, -, -⟩
  · have := hc.dst
    refine ⟨?_, ?_, ?_⟩ <;> simp <;> omega
  · have := hc.dst
    refine ⟨?_, ?_, ?_⟩ <;> simp <;> omega
set_option maxHeartbeats 4000000 in
set_option maxRecDepth 100000 in
theorem movesPieces_no (R : RulesM) (P : PosM) (v u : Value) (w : World) (hR : RulesAt w v R) (hP : PosAt w u P) (h : checkE R P ≠ 0) :
    Calls Try.prog 6 #[v, u] w fun e w' => e = .returned (.bool true) ∧ Ext w w' := by
  have hR0 := hR
  have hP0 := hP
  obtain ⟨pA, pc, sA, sc, eA, ec, rfl, -⟩ := hR0
  obtain ⟨cA, cc, aA, ac, bA, bc, rfl, -⟩ := hP0
  go_enter Try.func6, Try.ntmps6
  go_wp2_with fail
  obtain ⟨xa, kR, kP⟩ := blks2 w #[.string R.name, .int .i64 R.width, .int .i64 R.height, .slice pA R.pieces.length pc, .slice sA R.start.length sc, .bool R.falls, .bool R.keeps, .slice eA R.ends.length ec, .int .i64 R.blocked, .int .i64 R.quiet, .int .i64 R.rept] 26 #[.slice cA P.cells.length cc, .slice aA P.hand0.length ac, .slice bA P.hand1.length bc, .int .i64 P.turn, .int .i64 P.quiet] 36
  replace hR := hR.ext xa
  replace hP := hP.ext xa
  have X := xa
  clear xa
  generalize ((w.alloc (.cells #[.string R.name, .int .i64 R.width, .int .i64 R.height, .slice pA R.pieces.length pc, .slice sA R.start.length sc, .bool R.falls, .bool R.keeps, .slice eA R.ends.length ec, .int .i64 R.blocked, .int .i64 R.quiet, .int .i64 R.rept] 26)).alloc (.cells #[.slice cA P.cells.length cc, .slice aA P.hand0.length ac, .slice bA P.hand1.length bc, .int .i64 P.turn, .int .i64 P.quiet] 36)) = w2 at *
  generalize w.heap.size + 1 = BP at *
  generalize w.heap.size = BR at *
  refine (plays_any _).mono ?_
  rintro e w3 ⟨rfl, x⟩
  replace hR := hR.ext x
  replace hP := hP.ext x
  replace kR := kR.ext x
  replace kP := kP.ext x
  replace X := ext_trans X x
  clear x
  have fR := kR.cell
  have fP := kP.cell
  go_wp2_with fail
  have hn : (checkE R P != 0) = true := by simpa using h
  have hn2 : (checkE R P == 0) = false := by simpa using h
  have HN := hide (fun W (v1 v2 : Value) (h1 : RulesAt W v1 R) (h2 : PosAt W v2 P) => All_no R P v1 v2 W h1 h2 h)
  clear h
  generalize checkE R P = E at *
  refine (HN.out _ _ _ hR hP).mono ?_
  rintro e w4 ⟨rfl, x⟩
  replace hR := hR.ext x
  replace hP := hP.ext x
  replace kR := kR.ext x
  replace kP := kP.ext x
  replace X := ext_trans X x
  replace fR := kR.cell
  replace fP := kP.cell
  clear x
  clear fR fP
  go_wp2
  go_ret
  exact ⟨rfl, X⟩
set_option maxHeartbeats 4000000 in
set_option maxRecDepth 100000 in
theorem movesPieces_yes0 (R : RulesM) (P : PosM) (v u : Value) (w : World) (hR : RulesAt w v R) (hP : PosAt w u P) (hV : Valid R) (hS : Sound R P) (hT : P.turn = 0) :
    Calls Try.prog 6 #[v, u] w fun e w' => e = .returned (.bool true) ∧ Ext w w' := by
  have hR0 := hR
  have hP0 := hP
  obtain ⟨pA, pc, sA, sc, eA, ec, rfl, -⟩ := hR0
  obtain ⟨cA, cc, aA, ac, bA, bc, rfl, hcc, haa, hbb, -⟩ := hP0
  rw [hT] at hP ⊢
  have HA := hide (fun (y : MoveM) (hy : y ∈ listM R P) W (v1 v2 : Value) (h1 : RulesAt W v1 R) (h2 : PosAt W v2 P) => After_yes R P y v1 v2 W h1 h2 hV hS hy)
  have HPC := hide (fun W (v2 : Value) (h2 : PosAt W v2 P) => allPieces_any R P v2 W h2 hV hS)
  have HPQ := hide (fun (y : MoveM) (hy : y ∈ listM R P) W (v2 : Value) (h2 : PosAt W v2 (makeM R P y)) => allPieces_any R (makeM R P y) v2 W h2 hV (sound_make hV hS (mem_listM.1 hy)))
  have HLO := hide (fun (y : MoveM) (hy : y ∈ listM R P) => lost_law hV hS hy)
  have HBD := hide (fun (y : MoveM) (hy : y ∈ listM R P) => And.intro (pieces_bd hV hS) (pieces_bd hV (sound_make hV hS (mem_listM.1 hy))))
  have HDS := hide (fun (y : MoveM) (hy : y ∈ listM R P) => move_sq hV hS hy)
  have HCB := hide hS.cells
  have HHE : Hid (P.hand = P.hand0) := hide (by unfold PosM.hand; rw [hT]; rfl)
  have HMX := hide (fun W (h : IntsAt W aA P.hand0) => Max_any aA P.hand0.length ac P.hand0 W rfl (by have := hS.len0; have := hV.pieces0; omega) (by have := hS.len0; have := hV.pieces6; omega) h)
  have HHB := hide (show ∀ c ∈ P.hand0, c ≤ 1000 from fun c hc => (hS.held0 c hc).2)
  have HL := hide (fun W (v1 v2 : Value) (h1 : RulesAt W v1 R) (h2 : PosAt W v2 P) => All_yes R P v1 v2 W h1 h2 hV hS)
  have HLL := hide (listM_len hV hS)
  have hll := HLL.out
  clear hV hS hT
  generalize listM R P = L at *
  go_enter Try.func6, Try.ntmps6
  clear hbb
  go_wp2_with fail
  obtain ⟨xa, kR, kP⟩ := blks2 w #[.string R.name, .int .i64 R.width, .int .i64 R.height, .slice pA R.pieces.length pc, .slice sA R.start.length sc, .bool R.falls, .bool R.keeps, .slice eA R.ends.length ec, .int .i64 R.blocked, .int .i64 R.quiet, .int .i64 R.rept] 26 #[.slice cA P.cells.length cc, .slice aA P.hand0.length ac, .slice bA P.hand1.length bc, .int .i64 0, .int .i64 P.quiet] 36
  replace hR := hR.ext xa
  replace hP := hP.ext xa
  replace hcc := hcc.ext xa
  replace haa := haa.ext xa
  have X := xa
  clear xa
  generalize ((w.alloc (.cells #[.string R.name, .int .i64 R.width, .int .i64 R.height, .slice pA R.pieces.length pc, .slice sA R.start.length sc, .bool R.falls, .bool R.keeps, .slice eA R.ends.length ec, .int .i64 R.blocked, .int .i64 R.quiet, .int .i64 R.rept] 26)).alloc (.cells #[.slice cA P.cells.length cc, .slice aA P.hand0.length ac, .slice bA P.hand1.length bc, .int .i64 0, .int .i64 P.quiet] 36)) = w2 at *
  generalize w.heap.size + 1 = BP at *
  generalize w.heap.size = BR at *
  refine (plays_any _).mono ?_
  rintro e w3 ⟨rfl, x⟩
  replace hR := hR.ext x
  replace hP := hP.ext x
  replace hcc := hcc.ext x
  replace haa := haa.ext x
  replace kR := kR.ext x
  replace kP := kP.ext x
  replace X := ext_trans X x
  clear x
  have fR := kR.cell
  have fP := kP.cell
  go_wp2_with fail
  refine (HL.out _ _ _ hR hP).mono ?_
  rintro e w4 ⟨v5, rfl, h5, x⟩
  replace hR := hR.ext x
  replace hP := hP.ext x
  replace hcc := hcc.ext x
  replace haa := haa.ext x
  replace kR := kR.ext x
  replace kP := kP.ext x
  replace X := ext_trans X x
  replace fR := kR.cell
  replace fP := kP.cell
  clear x
  replace h5 := h5.at_
  have h5v := h5
  obtain ⟨A5, c5, rfl, -⟩ := h5v
  clear fR fP
  have HF := hide (fun W (h : Ext w4 W) => And.intro (hR.ext h) (And.intro (hP.ext h) (And.intro (kR.ext h) (And.intro (kP.ext h) (And.intro (hcc.ext h) (And.intro (haa.ext h) (And.intro (h5.ext h) (ext_trans X h))))))))
  clear hR hP kR kP hcc haa h5 X HL
  go_wp2
  go_loopw [29] (fun i wr => ∃ k : Nat, k ≤ L.length ∧ i = .int .i64 k ∧ Ext w4 wr) (fun i _ => L.length - (intOf i).toNat)
  case atStart => exact ⟨0, Nat.zero_le _, rfl, Below.refl _ _⟩
  case round =>
    obtain ⟨k, hk, rfl, x⟩ := hrel
    have XB := hide x
    obtain ⟨hR, hP, kR, kP, hcc, haa, h5, X⟩ := HF.out _ x
    clear x
    by_cases hlt : k < L.length
    · obtain ⟨y, hy⟩ : ∃ y, L[k]? = some y := ⟨L[k], List.getElem?_eq_getElem _⟩
      obtain ⟨A5', c5', e5, m5⟩ := id h5
      simp only [Value.slice.injEq] at e5
      obtain ⟨rfl, -, -⟩ := e5
      obtain ⟨b, o, rfl, d0, d1, d2⟩ := moves_get m5 hy
      have HY := hide (List.mem_of_getElem? hy)
      have j0 : (0 : Int) ≤ (k : Int) := by omega
      have j1 : (k : Int) < (L.length : Int) := by omega
      clear hy m5 h5
      have hZ : From wr wr := ⟨Below.refl _ _⟩
      have fR := kR.cell
      have fP := kP.cell
      obtain ⟨xa, kY⟩ := blks1 wr #[.int .i64 y.src, .int .i64 y.dst, .int .i64 y.piece] 45
      replace hR := hR.ext xa
      replace hP := hP.ext xa
      replace kR := kR.ext xa
      replace kP := kP.ext xa
      replace hcc := hcc.ext xa
      replace haa := haa.ext xa
      replace hZ := hZ.ext xa
      replace X := ext_trans X xa
      have fR' := kR.cell
      have fP' := kP.cell
      clear xa
      go_wp2_with fail
      generalize (wr.alloc (.cells #[.int .i64 y.src, .int .i64 y.dst, .int .i64 y.piece] 45)) = w2 at *
      generalize wr.heap.size = BY at *
      replace fR := kR.cell
      clear fR'
      replace fP := kP.cell
      clear fP'
      clear d0 d1 d2
      have fY := kY.cell
      refine (HA.out y HY.out _ _ _ hR hP).mono ?_
      rintro e w3 ⟨v6, rfl, h6, x⟩
      replace hR := hR.ext x
      replace hP := hP.ext x
      replace kR := kR.ext x
      replace kP := kP.ext x
      replace hcc := hcc.ext x
      replace haa := haa.ext x
      replace hZ := hZ.ext x
      replace kY := kY.ext x
      replace X := ext_trans X x
      replace fR := kR.cell
      replace fP := kP.cell
      replace fY := kY.cell
      clear x
      replace h6 := h6.at_
      have h6v := h6
      obtain ⟨cA6, cc6, aA6, ac6, bA6, bc6, rfl, -⟩ := h6v
      have HPQ2 := hide (HPQ.out y HY.out)
      have HLO2 := hide (HLO.out y HY.out)
      have HDS2 := hide (HDS.out y HY.out)
      obtain ⟨b0, b1⟩ := HBD.out y HY.out
      generalize makeM R P y = Q at *
      have sw : IntKind.i64.wrap (piecesM P - piecesM Q) = piecesM P - piecesM Q := by rw [IntKind.wrap_i64]; omega
      clear b0 b1
      have hsw := hide sw
      clear sw
      obtain ⟨xa, k6⟩ := blks1 w3 #[.slice cA6 Q.cells.length cc6, .slice aA6 Q.hand0.length ac6, .slice bA6 Q.hand1.length bc6, .int .i64 Q.turn, .int .i64 Q.quiet] 36
      replace hR := hR.ext xa
      replace hP := hP.ext xa
      replace kR := kR.ext xa
      replace kP := kP.ext xa
      replace hcc := hcc.ext xa
      replace haa := haa.ext xa
      replace hZ := hZ.ext xa
      replace kY := kY.ext xa
      replace h6 := h6.ext xa
      replace X := ext_trans X xa
      have fR' := kR.cell
      have fP' := kP.cell
      have fY' := kY.cell
      clear xa
      go_wp2_with fail
      generalize (w3.alloc (.cells #[.slice cA6 Q.cells.length cc6, .slice aA6 Q.hand0.length ac6, .slice bA6 Q.hand1.length bc6, .int .i64 Q.turn, .int .i64 Q.quiet] 36)) = w4 at *
      generalize w3.heap.size = B6 at *
      replace fR := kR.cell
      clear fR'
      replace fP := kP.cell
      clear fP'
      replace fY := kY.cell
      clear fY'
      clear fR fP fY
      have HKR := hide kR
      have KP := hide kP
      have KY := hide kY
      have K6 := hide k6
      have H6 := hide h6
      have HHP := hide hP
      have HCC := hide hcc
      have HHH := hide haa
      have XR := hide hZ.x
      clear kR kP kY k6 h6 hR hP hcc haa X hZ
      have sw := hsw.out
      have keepK := hide (fun W (h : Ext w4 W) => (show (fun W => W.cell? ⟨BP, 0, none⟩ = some (.slice cA P.cells.length cc) ∧ W.cell? ⟨BP, 1, none⟩ = some (.slice aA P.hand0.length ac) ∧ W.cell? ⟨BP, 2, none⟩ = some (.slice bA P.hand1.length bc) ∧ W.cell? ⟨BP, 3, none⟩ = some (.int .i64 0) ∧ W.cell? ⟨BP, 4, none⟩ = some (.int .i64 P.quiet) ∧ W.cell? ⟨B6, 0, none⟩ = some (.slice cA6 Q.cells.length cc6) ∧ W.cell? ⟨B6, 1, none⟩ = some (.slice aA6 Q.hand0.length ac6) ∧ W.cell? ⟨B6, 2, none⟩ = some (.slice bA6 Q.hand1.length bc6) ∧ W.cell? ⟨B6, 3, none⟩ = some (.int .i64 Q.turn) ∧ W.cell? ⟨B6, 4, none⟩ = some (.int .i64 Q.quiet) ∧ Ext w4 W) W from ⟨(KP.out.ext h).cell 0, (KP.out.ext h).cell 1, (KP.out.ext h).cell 2, (KP.out.ext h).cell 3, (KP.out.ext h).cell 4, (K6.out.ext h).cell 0, (K6.out.ext h).cell 1, (K6.out.ext h).cell 2, (K6.out.ext h).cell 3, (K6.out.ext h).cell 4, h⟩))
      have yy : Ext w4 w4.drew := Below.drew (Below.refl _ _)
      refine region_K (fun W => W.cell? ⟨BP, 0, none⟩ = some (.slice cA P.cells.length cc) ∧ W.cell? ⟨BP, 1, none⟩ = some (.slice aA P.hand0.length ac) ∧ W.cell? ⟨BP, 2, none⟩ = some (.slice bA P.hand1.length bc) ∧ W.cell? ⟨BP, 3, none⟩ = some (.int .i64 0) ∧ W.cell? ⟨BP, 4, none⟩ = some (.int .i64 P.quiet) ∧ W.cell? ⟨B6, 0, none⟩ = some (.slice cA6 Q.cells.length cc6) ∧ W.cell? ⟨B6, 1, none⟩ = some (.slice aA6 Q.hand0.length ac6) ∧ W.cell? ⟨B6, 2, none⟩ = some (.slice bA6 Q.hand1.length bc6) ∧ W.cell? ⟨B6, 3, none⟩ = some (.int .i64 Q.turn) ∧ W.cell? ⟨B6, 4, none⟩ = some (.int .i64 Q.quiet) ∧ Ext w4 W) (fun _ => True) [] (by kernel_rfl) ?_
      have hT0 := keepK.out _ yy
      refine anyK_take 0 (oi := ?oo117) ?ho117 (by kernel_rfl) (by kernel_rfl) (by kernel_rfl) (by kernel_rfl) ?hq117 ?hw117 hT0 (fun _ => trivial) (v := ?vv117) ?hy117 ?hk117
      case ho117 => (simp only [List.getElem?_toArray, List.getElem?_cons_succ, List.getElem?_cons_zero]; rfl)
      case hq117 => exact fun _ _ _ h => h
      case hw117 => rfl
      case hy117 =>
        intro W hW
        obtain ⟨z0, z1, z2, z3, z4, z5, z6, z7, z8, z9, z10⟩ := hW
        go_simp
        first | done | with_reducible rfl
      case hk117 =>
      try simp only [Act.put, List.setIfInBounds_toArray, List.set_cons_zero, List.set_cons_succ]
      refine anyK_take 2 (oi := ?oo118) ?ho118 (by kernel_rfl) (by kernel_rfl) (by kernel_rfl) (by kernel_rfl) ?hq118 ?hw118 hT0 (fun _ => trivial) (v := ?vv118) ?hy118 ?hk118
      case ho118 => (simp only [List.getElem?_toArray, List.getElem?_cons_succ, List.getElem?_cons_zero]; rfl)
      case hq118 => exact fun _ _ _ h => h
      case hw118 => rfl
      case hy118 =>
        intro W hW
        obtain ⟨z0, z1, z2, z3, z4, z5, z6, z7, z8, z9, z10⟩ := hW
        go_simp
        first | done | with_reducible rfl
      case hk118 =>
      try simp only [Act.put, List.setIfInBounds_toArray, List.set_cons_zero, List.set_cons_succ]
      refine anyK_on1 1 (by kernel_rfl) ?_
      refine anyK_one 1 (o := ?oo119) ?ho119 ?hk119
      case ho119 => (simp only [List.getElem?_toArray, List.getElem?_cons_succ, List.getElem?_cons_zero]; rfl)
      case hk119 =>
      intro K hK
      go_simp
      refine (HPC.out _ _ (HHP.out.ext yy)).mono ?_
      rintro e wz ⟨rfl, xx⟩
      try go_wp2_with fail
      replace yy := ext_trans yy xx
      have hT1 := keepK.out _ yy
      refine hK.out _ _ hT1 (fun _ => trivial) ?_
      clear hK K
      try simp only [Act.put, List.setIfInBounds_toArray, List.set_cons_zero, List.set_cons_succ]
      refine anyK_on1 3 (by kernel_rfl) ?_
      refine anyK_one 3 (o := ?oo120) ?ho120 ?hk120
      case ho120 => (simp only [List.getElem?_toArray, List.getElem?_cons_succ, List.getElem?_cons_zero]; rfl)
      case hk120 =>
      intro K hK
      go_simp
      refine (HPQ2.out _ _ (H6.out.ext yy)).mono ?_
      rintro e wy ⟨rfl, xx⟩
      try go_wp2_with fail
      replace yy := ext_trans yy xx
      have hT2 := keepK.out _ yy
      refine hK.out _ _ hT2 (fun _ => trivial) ?_
      clear hK K
      try simp only [Act.put, List.setIfInBounds_toArray, List.set_cons_zero, List.set_cons_succ]
      refine anyK_take 4 (oi := ?oo121) ?ho121 (by kernel_rfl) (by kernel_rfl) (by kernel_rfl) (by kernel_rfl) ?hq121 ?hw121 hT2 (fun _ => trivial) (v := ?vv121) ?hy121 ?hk121
      case ho121 => (simp only [List.getElem?_toArray, List.getElem?_cons_succ, List.getElem?_cons_zero]; rfl)
      case hq121 => exact fun _ _ _ h => h
      case hw121 => rfl
      case hy121 =>
        intro W hW
        go_simp
        first | done | with_reducible rfl
      case hk121 =>
      try simp only [Act.put, List.setIfInBounds_toArray, List.set_cons_zero, List.set_cons_succ]
      refine anyK_take 5 (oi := ?oo122) ?ho122 (by kernel_rfl) (by kernel_rfl) (by kernel_rfl) (by kernel_rfl) ?hq122 ?hw122 hT2 (fun _ => trivial) (v := ?vv122) ?hy122 ?hk122
      case ho122 => (simp only [List.getElem?_toArray, List.getElem?_cons_succ, List.getElem?_cons_zero]; rfl)
      case hq122 => exact fun _ _ _ h => h
      case hw122 => rfl
      case hy122 =>
        intro W hW
        go_simp
        first | done | with_reducible rfl
      case hk122 =>
      try simp only [Act.put, List.setIfInBounds_toArray, List.set_cons_zero, List.set_cons_succ]
      refine anyK_done (by kernel_rfl) ?_ _
      clear keepK hT0 hT1 hT2
      clear sw
      have kP := (KP.out.ext yy).cell
      have X2 := hide (ext_trans XR.out yy)
      have H2 := hide yy
      clear yy xx
      go_wp2_with fail
      refine (HMX.out _ (HHH.out.ext H2.out)).mono ?_
      rintro e wv ⟨mx, hmx, rfl, x⟩
      have X3 := hide (ext_trans X2.out x)
      have y3 := ext_trans H2.out x
      obtain ⟨hda, hdb, hdc⟩ := HDS2.out
      obtain ⟨d, hd⟩ := Int.eq_ofNat_of_zero_le hda
      have hd' : y.dst = (d : Int) := hd
      have hdl : d < P.cells.length := by omega
      obtain ⟨bC, oC, rfl, hz⟩ := (HCC.out.ext y3) d hdl
      have hlo := HLO2.out
      rw [hd'] at hlo
      simp only [Int.toNat_natCast] at hlo
      have hz0 := (HCB.out (P.cells.getD d 0) (by simp [hdl])).1
      generalize P.cells.getD d 0 = z at *
      generalize piecesM P - piecesM Q = lost at *
      have i0 : (0 : Int) ≤ (d : Int) := by omega
      have i1 : (d : Int) < (P.cells.length : Int) := by omega
      replace kP := (KP.out.ext y3).cell
      have kY := (KY.out.ext y3).cell
      have k6 := (K6.out.ext y3).cell
      have g6 := (HKR.out.ext y3).cell 6
      have HMM := hide (hmx)
      clear y3 x X2 H2 hda hdb hdc hd hdl hmx HLO2 HDS2 HPQ2
      obtain ⟨hlo, hq⟩ := hlo
      rcases hlo with ⟨hzp, ⟨hkp, hl⟩ | ⟨hkp, hl | ⟨hl, hfull⟩⟩⟩ | ⟨hzz, hl⟩
      · rw [hkp] at g6
        have t0 : (z != 0) = true := by simp; omega
        have hq0 : Q.quiet = 0 := hq.2 (.inl hzp)
        have tq : (Q.quiet == 0) = true := by simp [hq0]
        clear hq hq0 hzp hz0
        clear hkp HMM
        subst hl
        go_wp2
        go_roundw
        case rel => exact ⟨k + 1, by omega, by go_num, ext_trans XB.out X3.out⟩
        case measure => simp [intOf]; omega
      · rw [hkp] at g6
        have t0 : (z != 0) = true := by simp; omega
        have hq0 : Q.quiet = 0 := hq.2 (.inl hzp)
        have tq : (Q.quiet == 0) = true := by simp [hq0]
        clear hq hq0 hzp hz0
        clear hkp HMM
        subst hl
        go_wp2
        go_roundw
        case rel => exact ⟨k + 1, by omega, by go_num, ext_trans XB.out X3.out⟩
        case measure => simp [intOf]; omega
      · have hm : mx = 1000 := by
          rw [HHE.out] at hfull
          have a := HMM.out.2 1000 hfull
          have b := HHB.out mx HMM.out.1
          omega
        rw [hkp] at g6
        have t0 : (z != 0) = true := by simp; omega
        have hq0 : Q.quiet = 0 := hq.2 (.inl hzp)
        have tq : (Q.quiet == 0) = true := by simp [hq0]
        clear hq hq0 hzp hz0
        clear hkp HMM hfull
        subst hl hm
        go_wp2
        go_roundw
        case rel => exact ⟨k + 1, by omega, by go_num, ext_trans XB.out X3.out⟩
        case measure => simp [intOf]; omega
      · by_cases hs : y.src < 0
        · have t0 : (z != 0) = false := by simpa using hzz
          have ts : decide (y.src < 0) = true := by simpa using hs
          have hq0 : Q.quiet = 0 := hq.2 (.inr hs)
          have tq : (Q.quiet == 0) = true := by simp [hq0]
          clear hq hq0 hzz hz0 HMM
          subst hl
          go_wp2
          go_roundw
          case rel => exact ⟨k + 1, by omega, by go_num, ext_trans XB.out X3.out⟩
          case measure => simp [intOf]; omega
        · have t0 : (z != 0) = false := by simpa using hzz
          have ts : decide (y.src < 0) = false := by simpa using hs
          have tq : (Q.quiet == 0) = false := by
            have : ¬ Q.quiet = 0 := fun h => by rcases hq.1 h with h1 | h1 <;> omega
            simpa using this
          clear hq hzz hz0 HMM
          subst hl
          go_wp2
          go_roundw
          case rel => exact ⟨k + 1, by omega, by go_num, ext_trans XB.out X3.out⟩
          case measure => simp [intOf]; omega
    · obtain rfl : k = L.length := by omega
      go_wp2
      go_ret
      exact ⟨rfl, X⟩
set_option maxHeartbeats 4000000 in
set_option maxRecDepth 100000 in
theorem movesPieces_yes1 (R : RulesM) (P : PosM) (v u : Value) (w : World) (hR : RulesAt w v R) (hP : PosAt w u P) (hV : Valid R) (hS : Sound R P) (hT : P.turn = 1) :
    Calls Try.prog 6 #[v, u] w fun e w' => e = .returned (.bool true) ∧ Ext w w' := by
  have hR0 := hR
  have hP0 := hP
  obtain ⟨pA, pc, sA, sc, eA, ec, rfl, -⟩ := hR0
  obtain ⟨cA, cc, aA, ac, bA, bc, rfl, hcc, haa, hbb, -⟩ := hP0
  rw [hT] at hP ⊢
  have HA := hide (fun (y : MoveM) (hy : y ∈ listM R P) W (v1 v2 : Value) (h1 : RulesAt W v1 R) (h2 : PosAt W v2 P) => After_yes R P y v1 v2 W h1 h2 hV hS hy)
  have HPC := hide (fun W (v2 : Value) (h2 : PosAt W v2 P) => allPieces_any R P v2 W h2 hV hS)
  have HPQ := hide (fun (y : MoveM) (hy : y ∈ listM R P) W (v2 : Value) (h2 : PosAt W v2 (makeM R P y)) => allPieces_any R (makeM R P y) v2 W h2 hV (sound_make hV hS (mem_listM.1 hy)))
  have HLO := hide (fun (y : MoveM) (hy : y ∈ listM R P) => lost_law hV hS hy)
  have HBD := hide (fun (y : MoveM) (hy : y ∈ listM R P) => And.intro (pieces_bd hV hS) (pieces_bd hV (sound_make hV hS (mem_listM.1 hy))))
  have HDS := hide (fun (y : MoveM) (hy : y ∈ listM R P) => move_sq hV hS hy)
  have HCB := hide hS.cells
  have HHE : Hid (P.hand = P.hand1) := hide (by unfold PosM.hand; rw [hT]; rfl)
  have HMX := hide (fun W (h : IntsAt W bA P.hand1) => Max_any bA P.hand1.length bc P.hand1 W rfl (by have := hS.len1; have := hV.pieces0; omega) (by have := hS.len1; have := hV.pieces6; omega) h)
  have HHB := hide (show ∀ c ∈ P.hand1, c ≤ 1000 from fun c hc => (hS.held1 c hc).2)
  have HL := hide (fun W (v1 v2 : Value) (h1 : RulesAt W v1 R) (h2 : PosAt W v2 P) => All_yes R P v1 v2 W h1 h2 hV hS)
  have HLL := hide (listM_len hV hS)
  have hll := HLL.out
  clear hV hS hT
  generalize listM R P = L at *
  go_enter Try.func6, Try.ntmps6
  clear haa
  go_wp2_with fail
  obtain ⟨xa, kR, kP⟩ := blks2 w #[.string R.name, .int .i64 R.width, .int .i64 R.height, .slice pA R.pieces.length pc, .slice sA R.start.length sc, .bool R.falls, .bool R.keeps, .slice eA R.ends.length ec, .int .i64 R.blocked, .int .i64 R.quiet, .int .i64 R.rept] 26 #[.slice cA P.cells.length cc, .slice aA P.hand0.length ac, .slice bA P.hand1.length bc, .int .i64 1, .int .i64 P.quiet] 36
  replace hR := hR.ext xa
  replace hP := hP.ext xa
  replace hcc := hcc.ext xa
  replace hbb := hbb.ext xa
  have X := xa
  clear xa
  generalize ((w.alloc (.cells #[.string R.name, .int .i64 R.width, .int .i64 R.height, .slice pA R.pieces.length pc, .slice sA R.start.length sc, .bool R.falls, .bool R.keeps, .slice eA R.ends.length ec, .int .i64 R.blocked, .int .i64 R.quiet, .int .i64 R.rept] 26)).alloc (.cells #[.slice cA P.cells.length cc, .slice aA P.hand0.length ac, .slice bA P.hand1.length bc, .int .i64 1, .int .i64 P.quiet] 36)) = w2 at *
  generalize w.heap.size + 1 = BP at *
  generalize w.heap.size = BR at *
  refine (plays_any _).mono ?_
  rintro e w3 ⟨rfl, x⟩
  replace hR := hR.ext x
  replace hP := hP.ext x
  replace hcc := hcc.ext x
  replace hbb := hbb.ext x
  replace kR := kR.ext x
  replace kP := kP.ext x
  replace X := ext_trans X x
  clear x
  have fR := kR.cell
  have fP := kP.cell
  go_wp2_with fail
  refine (HL.out _ _ _ hR hP).mono ?_
  rintro e w4 ⟨v5, rfl, h5, x⟩
  replace hR := hR.ext x
  replace hP := hP.ext x
  replace hcc := hcc.ext x
  replace hbb := hbb.ext x
  replace kR := kR.ext x
  replace kP := kP.ext x
  replace X := ext_trans X x
  replace fR := kR.cell
  replace fP := kP.cell
  clear x
  replace h5 := h5.at_
  have h5v := h5
  obtain ⟨A5, c5, rfl, -⟩ := h5v
  clear fR fP
  have HF := hide (fun W (h : Ext w4 W) => And.intro (hR.ext h) (And.intro (hP.ext h) (And.intro (kR.ext h) (And.intro (kP.ext h) (And.intro (hcc.ext h) (And.intro (hbb.ext h) (And.intro (h5.ext h) (ext_trans X h))))))))
  clear hR hP kR kP hcc hbb h5 X HL
  go_wp2
  go_loopw [29] (fun i wr => ∃ k : Nat, k ≤ L.length ∧ i = .int .i64 k ∧ Ext w4 wr) (fun i _ => L.length - (intOf i).toNat)
  case atStart => exact ⟨0, Nat.zero_le _, rfl, Below.refl _ _⟩
  case round =>
    obtain ⟨k, hk, rfl, x⟩ := hrel
    have XB := hide x
    obtain ⟨hR, hP, kR, kP, hcc, hbb, h5, X⟩ := HF.out _ x
    clear x
    by_cases hlt : k < L.length
    · obtain ⟨y, hy⟩ : ∃ y, L[k]? = some y := ⟨L[k], List.getElem?_eq_getElem _⟩
      obtain ⟨A5', c5', e5, m5⟩ := id h5
      simp only [Value.slice.injEq] at e5
      obtain ⟨rfl, -, -⟩ := e5
      obtain ⟨b, o, rfl, d0, d1, d2⟩ := moves_get m5 hy
      have HY := hide (List.mem_of_getElem? hy)
      have j0 : (0 : Int) ≤ (k : Int) := by omega
      have j1 : (k : Int) < (L.length : Int) := by omega
      clear hy m5 h5
      have hZ : From wr wr := ⟨Below.refl _ _⟩
      have fR := kR.cell
      have fP := kP.cell
      obtain ⟨xa, kY⟩ := blks1 wr #[.int .i64 y.src, .int .i64 y.dst, .int .i64 y.piece] 45
      replace hR := hR.ext xa
      replace hP := hP.ext xa
      replace kR := kR.ext xa
      replace kP := kP.ext xa
      replace hcc := hcc.ext xa
      replace hbb := hbb.ext xa
      replace hZ := hZ.ext xa
      replace X := ext_trans X xa
      have fR' := kR.cell
      have fP' := kP.cell
      clear xa
      go_wp2_with fail
      generalize (wr.alloc (.cells #[.int .i64 y.src, .int .i64 y.dst, .int .i64 y.piece] 45)) = w2 at *
      generalize wr.heap.size = BY at *
      replace fR := kR.cell
      clear fR'
      replace fP := kP.cell
      clear fP'
      clear d0 d1 d2
      have fY := kY.cell
      refine (HA.out y HY.out _ _ _ hR hP).mono ?_
      rintro e w3 ⟨v6, rfl, h6, x⟩
      replace hR := hR.ext x
      replace hP := hP.ext x
      replace kR := kR.ext x
      replace kP := kP.ext x
      replace hcc := hcc.ext x
      replace hbb := hbb.ext x
      replace hZ := hZ.ext x
      replace kY := kY.ext x
      replace X := ext_trans X x
      replace fR := kR.cell
      replace fP := kP.cell
      replace fY := kY.cell
      clear x
      replace h6 := h6.at_
      have h6v := h6
      obtain ⟨cA6, cc6, aA6, ac6, bA6, bc6, rfl, -⟩ := h6v
      have HPQ2 := hide (HPQ.out y HY.out)
      have HLO2 := hide (HLO.out y HY.out)
      have HDS2 := hide (HDS.out y HY.out)
      obtain ⟨b0, b1⟩ := HBD.out y HY.out
      generalize makeM R P y = Q at *
      have sw : IntKind.i64.wrap (piecesM P - piecesM Q) = piecesM P - piecesM Q := by rw [IntKind.wrap_i64]; omega
      clear b0 b1
      have hsw := hide sw
      clear sw
      obtain ⟨xa, k6⟩ := blks1 w3 #[.slice cA6 Q.cells.length cc6, .slice aA6 Q.hand0.length ac6, .slice bA6 Q.hand1.length bc6, .int .i64 Q.turn, .int .i64 Q.quiet] 36
      replace hR := hR.ext xa
      replace hP := hP.ext xa
      replace kR := kR.ext xa
      replace kP := kP.ext xa
      replace hcc := hcc.ext xa
      replace hbb := hbb.ext xa
      replace hZ := hZ.ext xa
      replace kY := kY.ext xa
      replace h6 := h6.ext xa
      replace X := ext_trans X xa
      have fR' := kR.cell
      have fP' := kP.cell
      have fY' := kY.cell
      clear xa
      go_wp2_with fail
      generalize (w3.alloc (.cells #[.slice cA6 Q.cells.length cc6, .slice aA6 Q.hand0.length ac6, .slice bA6 Q.hand1.length bc6, .int .i64 Q.turn, .int .i64 Q.quiet] 36)) = w4 at *
      generalize w3.heap.size = B6 at *
      replace fR := kR.cell
      clear fR'
      replace fP := kP.cell
      clear fP'
      replace fY := kY.cell
      clear fY'
      clear fR fP fY
      have HKR := hide kR
      have KP := hide kP
      have KY := hide kY
      have K6 := hide k6
      have H6 := hide h6
      have HHP := hide hP
      have HCC := hide hcc
      have HHH := hide hbb
      have XR := hide hZ.x
      clear kR kP kY k6 h6 hR hP hcc hbb X hZ
      have sw := hsw.out
      have keepK := hide (fun W (h : Ext w4 W) => (show (fun W => W.cell? ⟨BP, 0, none⟩ = some (.slice cA P.cells.length cc) ∧ W.cell? ⟨BP, 1, none⟩ = some (.slice aA P.hand0.length ac) ∧ W.cell? ⟨BP, 2, none⟩ = some (.slice bA P.hand1.length bc) ∧ W.cell? ⟨BP, 3, none⟩ = some (.int .i64 1) ∧ W.cell? ⟨BP, 4, none⟩ = some (.int .i64 P.quiet) ∧ W.cell? ⟨B6, 0, none⟩ = some (.slice cA6 Q.cells.length cc6) ∧ W.cell? ⟨B6, 1, none⟩ = some (.slice aA6 Q.hand0.length ac6) ∧ W.cell? ⟨B6, 2, none⟩ = some (.slice bA6 Q.hand1.length bc6) ∧ W.cell? ⟨B6, 3, none⟩ = some (.int .i64 Q.turn) ∧ W.cell? ⟨B6, 4, none⟩ = some (.int .i64 Q.quiet) ∧ Ext w4 W) W from ⟨(KP.out.ext h).cell 0, (KP.out.ext h).cell 1, (KP.out.ext h).cell 2, (KP.out.ext h).cell 3, (KP.out.ext h).cell 4, (K6.out.ext h).cell 0, (K6.out.ext h).cell 1, (K6.out.ext h).cell 2, (K6.out.ext h).cell 3, (K6.out.ext h).cell 4, h⟩))
      have yy : Ext w4 w4.drew := Below.drew (Below.refl _ _)
      refine region_K (fun W => W.cell? ⟨BP, 0, none⟩ = some (.slice cA P.cells.length cc) ∧ W.cell? ⟨BP, 1, none⟩ = some (.slice aA P.hand0.length ac) ∧ W.cell? ⟨BP, 2, none⟩ = some (.slice bA P.hand1.length bc) ∧ W.cell? ⟨BP, 3, none⟩ = some (.int .i64 1) ∧ W.cell? ⟨BP, 4, none⟩ = some (.int .i64 P.quiet) ∧ W.cell? ⟨B6, 0, none⟩ = some (.slice cA6 Q.cells.length cc6) ∧ W.cell? ⟨B6, 1, none⟩ = some (.slice aA6 Q.hand0.length ac6) ∧ W.cell? ⟨B6, 2, none⟩ = some (.slice bA6 Q.hand1.length bc6) ∧ W.cell? ⟨B6, 3, none⟩ = some (.int .i64 Q.turn) ∧ W.cell? ⟨B6, 4, none⟩ = some (.int .i64 Q.quiet) ∧ Ext w4 W) (fun _ => True) [] (by kernel_rfl) ?_
      have hT0 := keepK.out _ yy
      refine anyK_take 0 (oi := ?oo123) ?ho123 (by kernel_rfl) (by kernel_rfl) (by kernel_rfl) (by kernel_rfl) ?hq123 ?hw123 hT0 (fun _ => trivial) (v := ?vv123) ?hy123 ?hk123
      case ho123 => (simp only [List.getElem?_toArray, List.getElem?_cons_succ, List.getElem?_cons_zero]; rfl)
      case hq123 => exact fun _ _ _ h => h
      case hw123 => rfl
      case hy123 =>
        intro W hW
        obtain ⟨z0, z1, z2, z3, z4, z5, z6, z7, z8, z9, z10⟩ := hW
        go_simp
        first | done | with_reducible rfl
      case hk123 =>
      try simp only [Act.put, List.setIfInBounds_toArray, List.set_cons_zero, List.set_cons_succ]
      refine anyK_take 2 (oi := ?oo124) ?ho124 (by kernel_rfl) (by kernel_rfl) (by kernel_rfl) (by kernel_rfl) ?hq124 ?hw124 hT0 (fun _ => trivial) (v := ?vv124) ?hy124 ?hk124
      case ho124 => (simp only [List.getElem?_toArray, List.getElem?_cons_succ, List.getElem?_cons_zero]; rfl)
      case hq124 => exact fun _ _ _ h => h
      case hw124 => rfl
      case hy124 =>
        intro W hW
        obtain ⟨z0, z1, z2, z3, z4, z5, z6, z7, z8, z9, z10⟩ := hW
        go_simp
        first | done | with_reducible rfl
      case hk124 =>
      try simp only [Act.put, List.setIfInBounds_toArray, List.set_cons_zero, List.set_cons_succ]
      refine anyK_on1 1 (by kernel_rfl) ?_
      refine anyK_one 1 (o := ?oo125) ?ho125 ?hk125
      case ho125 => (simp only [List.getElem?_toArray, List.getElem?_cons_succ, List.getElem?_cons_zero]; rfl)
      case hk125 =>
      intro K hK
      go_simp
      refine (HPC.out _ _ (HHP.out.ext yy)).mono ?_
      rintro e wz ⟨rfl, xx⟩
      try go_wp2_with fail
      replace yy := ext_trans yy xx
      have hT1 := keepK.out _ yy
      refine hK.out _ _ hT1 (fun _ => trivial) ?_
      clear hK K
      try simp only [Act.put, List.setIfInBounds_toArray, List.set_cons_zero, List.set_cons_succ]
      refine anyK_on1 3 (by kernel_rfl) ?_
      refine anyK_one 3 (o := ?oo126) ?ho126 ?hk126
      case ho126 => (simp only [List.getElem?_toArray, List.getElem?_cons_succ, List.getElem?_cons_zero]; rfl)
      case hk126 =>
      intro K hK
      go_simp
      refine (HPQ2.out _ _ (H6.out.ext yy)).mono ?_
      rintro e wy ⟨rfl, xx⟩
      try go_wp2_with fail
      replace yy := ext_trans yy xx
      have hT2 := keepK.out _ yy
      refine hK.out _ _ hT2 (fun _ => trivial) ?_
      clear hK K
      try simp only [Act.put, List.setIfInBounds_toArray, List.set_cons_zero, List.set_cons_succ]
      refine anyK_take 4 (oi := ?oo127) ?ho127 (by kernel_rfl) (by kernel_rfl) (by kernel_rfl) (by kernel_rfl) ?hq127 ?hw127 hT2 (fun _ => trivial) (v := ?vv127) ?hy127 ?hk127
      case ho127 => (simp only [List.getElem?_toArray, List.getElem?_cons_succ, List.getElem?_cons_zero]; rfl)
      case hq127 => exact fun _ _ _ h => h
      case hw127 => rfl
      case hy127 =>
        intro W hW
        go_simp
        first | done | with_reducible rfl
      case hk127 =>
      try simp only [Act.put, List.setIfInBounds_toArray, List.set_cons_zero, List.set_cons_succ]
      refine anyK_take 5 (oi := ?oo128) ?ho128 (by kernel_rfl) (by kernel_rfl) (by kernel_rfl) (by kernel_rfl) ?hq128 ?hw128 hT2 (fun _ => trivial) (v := ?vv128) ?hy128 ?hk128
      case ho128 => (simp only [List.getElem?_toArray, List.getElem?_cons_succ, List.getElem?_cons_zero]; rfl)
      case hq128 => exact fun _ _ _ h => h
      case hw128 => rfl
      case hy128 =>
        intro W hW
        go_simp
        first | done | with_reducible rfl
      case hk128 =>
      try simp only [Act.put, List.setIfInBounds_toArray, List.set_cons_zero, List.set_cons_succ]
      refine anyK_done (by kernel_rfl) ?_ _
      clear keepK hT0 hT1 hT2
      clear sw
      have kP := (KP.out.ext yy).cell
      have X2 := hide (ext_trans XR.out yy)
      have H2 := hide yy
      clear yy xx
      go_wp2_with fail
      refine (HMX.out _ (HHH.out.ext H2.out)).mono ?_
      rintro e wv ⟨mx, hmx, rfl, x⟩
      have X3 := hide (ext_trans X2.out x)
      have y3 := ext_trans H2.out x
      obtain ⟨hda, hdb, hdc⟩ := HDS2.out
      obtain ⟨d, hd⟩ := Int.eq_ofNat_of_zero_le hda
      have hd' : y.dst = (d : Int) := hd
      have hdl : d < P.cells.length := by omega
      obtain ⟨bC, oC, rfl, hz⟩ := (HCC.out.ext y3) d hdl
      have hlo := HLO2.out
      rw [hd'] at hlo
      simp only [Int.toNat_natCast] at hlo
      have hz0 := (HCB.out (P.cells.getD d 0) (by simp [hdl])).1
      generalize P.cells.getD d 0 = z at *
      generalize piecesM P - piecesM Q = lost at *
      have i0 : (0 : Int) ≤ (d : Int) := by omega
      have i1 : (d : Int) < (P.cells.length : Int) := by omega
      replace kP := (KP.out.ext y3).cell
      have kY := (KY.out.ext y3).cell
      have k6 := (K6.out.ext y3).cell
      have g6 := (HKR.out.ext y3).cell 6
      have HMM := hide (hmx)
      clear y3 x X2 H2 hda hdb hdc hd hdl hmx HLO2 HDS2 HPQ2
      obtain ⟨hlo, hq⟩ := hlo
      rcases hlo with ⟨hzp, ⟨hkp, hl⟩ | ⟨hkp, hl | ⟨hl, hfull⟩⟩⟩ | ⟨hzz, hl⟩
      · rw [hkp] at g6
        have t0 : (z != 0) = true := by simp; omega
        have hq0 : Q.quiet = 0 := hq.2 (.inl hzp)
        have tq : (Q.quiet == 0) = true := by simp [hq0]
        clear hq hq0 hzp hz0
        clear hkp HMM
        subst hl
        go_wp2
        go_roundw
        case rel => exact ⟨k + 1, by omega, by go_num, ext_trans XB.out X3.out⟩
        case measure => simp [intOf]; omega
      · rw [hkp] at g6
        have t0 : (z != 0) = true := by simp; omega
        have hq0 : Q.quiet = 0 := hq.2 (.inl hzp)
        have tq : (Q.quiet == 0) = true := by simp [hq0]
        clear hq hq0 hzp hz0
        clear hkp HMM
        subst hl
        go_wp2
        go_roundw
        case rel => exact ⟨k + 1, by omega, by go_num, ext_trans XB.out X3.out⟩
        case measure => simp [intOf]; omega
      · have hm : mx = 1000 := by
          rw [HHE.out] at hfull
          have a := HMM.out.2 1000 hfull
          have b := HHB.out mx HMM.out.1
          omega
        rw [hkp] at g6
        have t0 : (z != 0) = true := by simp; omega
        have hq0 : Q.quiet = 0 := hq.2 (.inl hzp)
        have tq : (Q.quiet == 0) = true := by simp [hq0]
        clear hq hq0 hzp hz0
        clear hkp HMM hfull
        subst hl hm
        go_wp2
        go_roundw
        case rel => exact ⟨k + 1, by omega, by go_num, ext_trans XB.out X3.out⟩
        case measure => simp [intOf]; omega
      · by_cases hs : y.src < 0
        · have t0 : (z != 0) = false := by simpa using hzz
          have ts : decide (y.src < 0) = true := by simpa using hs
          have hq0 : Q.quiet = 0 := hq.2 (.inr hs)
          have tq : (Q.quiet == 0) = true := by simp [hq0]
          clear hq hq0 hzz hz0 HMM
          subst hl
          go_wp2
          go_roundw
          case rel => exact ⟨k + 1, by omega, by go_num, ext_trans XB.out X3.out⟩
          case measure => simp [intOf]; omega
        · have t0 : (z != 0) = false := by simpa using hzz
          have ts : decide (y.src < 0) = false := by simpa using hs
          have tq : (Q.quiet == 0) = false := by
            have : ¬ Q.quiet = 0 := fun h => by rcases hq.1 h with h1 | h1 <;> omega
            simpa using this
          clear hq hzz hz0 HMM
          subst hl
          go_wp2
          go_roundw
          case rel => exact ⟨k + 1, by omega, by go_num, ext_trans XB.out X3.out⟩
          case measure => simp [intOf]; omega
    · obtain rfl : k = L.length := by omega
      go_wp2
      go_ret
      exact ⟨rfl, X⟩
theorem movesPieces_law (v : Value) (R : RulesM) (u : Value) (P : PosM) (w : World) (hR : RulesAt w v R) (hP : PosAt w u P) :
    Calls Try.prog 6 #[v, u] w fun e w' => e = .returned (.bool true) ∧ Ext w w' := by
  by_cases h : checkE R P = 0
  · obtain ⟨hV, hS⟩ := check_iff.1 h
    rcases hS.turn with ht | ht
    · exact movesPieces_yes0 R P v u w hR hP hV hS ht
    · exact movesPieces_yes1 R P v u w hR hP hV hS ht
  · exact movesPieces_no R P v u w hR hP h

end Go.Proofs.Ytcfiannlpkofpaa
