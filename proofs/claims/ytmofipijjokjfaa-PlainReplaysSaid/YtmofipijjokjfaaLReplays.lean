/- Walk: the law PlainReplays. -/
import Derived.Test.YtmofipijjokjfaaGGameB
import Derived.Test.YtmofipijjokjfaaRowIn
import Derived.Test.YtmofipijjokjfaaWon
import Derived.Test.YtmofipijjokjfaaSome
import Derived.BigFrame
namespace Go.Proofs.Ytmofipijjokjfaa
open Go.ChangeShapes Go.WideShapes Go.ChangeAt Go.RowKit Go.Shelf
set_option linter.unusedVariables false
set_option linter.unusedSimpArgs false
theorem run_min3 (W : World) (ats : Array TypeId) (ty : TypeId) (a b : Int) : (Builtin.min_ ats ty #[.int .i64 a, .int .i64 b]).run Try.prog W = .ok (.int .i64 (min a b)) W := by
  have e : min a b = if b < a then b else a := by split <;> omega
  rw [e]
  simp [Builtin.min_, Builtin.min2]
theorem moves_open' {R : RulesM} {P : PosM} (hT : P.turn = 0 ∨ P.turn = 1) (h : resultM R P = 0) : listM R P ≠ [] := by
  have := open_moves h hT
  intro e
  rw [e] at this
  simp at this
set_option maxHeartbeats 8000000 in
set_option maxRecDepth 100000 in
theorem plainReplays_bad (v : Value) (R : RulesM) (A : Option Addr) (n c : Nat) (z : List Int) (w : World) (hR : RulesAt w v R) (he : rulesE R ≠ 0) :
    Calls Try.prog 12 #[v, .slice A n c] w fun e w' => e = .returned (.bool true) ∧ Ext w w' := by
  have HNW := hide (fun W (v1 : Value) (h1 : RulesAt W v1 R) => New_no R v1 W h1 he)
  have t0 : (rulesE R != 0) = true := by simpa using he
  clear he
  generalize rulesE R = E at *
  have hR0 := hR
  obtain ⟨pA, pc, sA, sc, eA, ec, rfl, -⟩ := hR0
  go_enter Try.func12, Try.ntmps12
  go_wp2_with fail
  obtain ⟨xa, kR⟩ := blks1 w #[.string R.name, .int .i64 R.width, .int .i64 R.height, .slice pA R.pieces.length pc, .slice sA R.start.length sc, .bool R.falls, .bool R.keeps, .slice eA R.ends.length ec, .int .i64 R.blocked, .int .i64 R.quiet, .int .i64 R.rept] 26
  replace hR := hR.ext xa
  have X := xa
  clear xa
  generalize (w.alloc (.cells #[.string R.name, .int .i64 R.width, .int .i64 R.height, .slice pA R.pieces.length pc, .slice sA R.start.length sc, .bool R.falls, .bool R.keeps, .slice eA R.ends.length ec, .int .i64 R.blocked, .int .i64 R.quiet, .int .i64 R.rept] 26)) = w2 at *
  generalize w.heap.size = BR at *
  refine (played_any _).mono ?_
  rintro e w3 ⟨rfl, x⟩
  replace hR := hR.ext x
  replace kR := kR.ext x
  replace X := ext_trans X x
  clear x
  go_wp2_with fail
  refine (plays_any _).mono ?_
  rintro e w4 ⟨rfl, x⟩
  replace hR := hR.ext x
  replace kR := kR.ext x
  replace X := ext_trans X x
  clear x
  have fR := kR.cell
  go_wp2_with fail
  refine (HNW.out _ _ hR).mono ?_
  rintro e w5 ⟨rfl, x⟩
  replace hR := hR.ext x
  replace kR := kR.ext x
  replace X := ext_trans X x
  replace fR := kR.cell
  clear x
  clear fR
  go_wp2
  all_goals go_ret
  all_goals exact ⟨by first | rfl | simp, X⟩
set_option maxHeartbeats 8000000 in
set_option maxRecDepth 100000 in
theorem plainReplays_nil (v : Value) (R : RulesM) (A : Option Addr) (n c : Nat) (z : List Int) (w : World) (hR : RulesAt w v R) (hV : Valid R) (hA : A = none) (hn : n = 0) (hc : c = 0) :
    Calls Try.prog 12 #[v, .slice A n c] w fun e w' => e = .returned (.bool true) ∧ Ext w w' := by
  have HNW := hide (fun W (v1 : Value) (h1 : RulesAt W v1 R) => New_yes R v1 W h1 hV)
  have HV := hide hV
  clear hV
  obtain ⟨q, hq⟩ : ∃ q : Int, min (n : Int) 30 = q := ⟨_, rfl⟩
  have hmin : ∀ W ats ty, (Builtin.min_ ats ty #[.int .i64 (n : Int), .int .i64 30]).run Try.prog W = .ok (.int .i64 q) W := fun W ats ty => by rw [← hq]; exact run_min3 W ats ty n 30
  subst hA hn hc
  obtain rfl : q = 0 := by omega
  clear hq
  have hR0 := hR
  obtain ⟨pA, pc, sA, sc, eA, ec, rfl, -⟩ := hR0
  go_enter Try.func12, Try.ntmps12
  go_wp2_with fail
  obtain ⟨xa, kR⟩ := blks1 w #[.string R.name, .int .i64 R.width, .int .i64 R.height, .slice pA R.pieces.length pc, .slice sA R.start.length sc, .bool R.falls, .bool R.keeps, .slice eA R.ends.length ec, .int .i64 R.blocked, .int .i64 R.quiet, .int .i64 R.rept] 26
  replace hR := hR.ext xa
  have X := xa
  clear xa
  generalize (w.alloc (.cells #[.string R.name, .int .i64 R.width, .int .i64 R.height, .slice pA R.pieces.length pc, .slice sA R.start.length sc, .bool R.falls, .bool R.keeps, .slice eA R.ends.length ec, .int .i64 R.blocked, .int .i64 R.quiet, .int .i64 R.rept] 26)) = w2 at *
  generalize w.heap.size = BR at *
  refine (played_any _).mono ?_
  rintro e w3 ⟨rfl, x⟩
  replace hR := hR.ext x
  replace kR := kR.ext x
  replace X := ext_trans X x
  clear x
  go_wp2_with fail
  refine (plays_any _).mono ?_
  rintro e w4 ⟨rfl, x⟩
  replace hR := hR.ext x
  replace kR := kR.ext x
  replace X := ext_trans X x
  clear x
  have fR := kR.cell
  go_wp2_with fail
  have HR := hide hR
  have KR := hide kR
  have XB := hide X
  refine (HNW.out _ _ hR).mono ?_
  rintro e wn ⟨BG, rfl, hG⟩
  have HG := hide hG
  clear hG fR hR kR X HNW
  go_wp2
  go_loopw [39] (fun i wr => ∃ (k : Nat) (ps : List PosM) (ms : List MoveM), k ≤ 0 ∧ i = .int .i64 k ∧ GameAt w4 wr BG R ps ms ∧ Hid (Played R ps ms ∧ ms.length ≤ k)) (fun i _ => 0 - (intOf i).toNat)
  case atStart => exact ⟨0, _, _, Nat.zero_le _, rfl, HG.out, hide ⟨played_nil R, Nat.le_refl _⟩⟩
  case round =>
    clear HG
    obtain ⟨k, ps, ms, hk, rfl, hG, hP⟩ := hrel
    have HPD := hP
    obtain ⟨P, hP1, hP2⟩ := hP.out.1.last
    have hl : ps.length ≤ 100000 := by have := hP.out.1.len; have := hP.out.1.bd; omega
    have hlm : ms.length ≤ 100000 := by have := hP.out.1.bd; omega
    have hS := hP.out.1.sound HV.out
    have HSP := hide (hS P (last_mem hP2))
    have HGA := hide hG
    have HPO := hide (fun W (x : Ext wr W) => GPosition_any (hG.ext x) (by omega) (fit_of HV.out hS) hP2)
    have HRE := hide (fun W (x : Ext wr W) => GResult_any (hG.ext x) (by omega) HV.out hS hP2)
    have HRr := hide (HR.out.ext hG.old)
    have KRr := hide (KR.out.ext hG.old)
    have HXW := hide hG.old
    obtain rfl : k = 0 := by omega
    have HMV := hide (fun W (x : Ext wr W) => GMoves_any (hG.ext x) hlm)
    have HRN := hide (fun (u : Value) W (x : Ext wr W) (h : MovesAt W u ms) => Run_yes R _ u ps ms P W (HRr.out.ext x) HV.out h hP.out.1 hP2)
    have HFT := fit_of HV.out hS P (last_mem hP2)
    have HSM := hide (fun W (v1 v2 : Value) (h1 : PosAt W v1 P) (h2 : PosAt W v2 P) => same_yes P v1 v2 W h1 h2 HFT.2.2.2.1 HFT.2.2.2.2.1 HFT.2.2.2.2.2)
    clear hG hP hP1 hP2 hl hS hlm HFT
    generalize resultG R ps P = G at *
    go_upto_region 20 with fail
    have keepK := hide (fun W (h : Ext wr W) => (show (fun W => W.cell? ⟨BR, 0, none⟩ = some (.string R.name) ∧ W.cell? ⟨BR, 1, none⟩ = some (.int .i64 R.width) ∧ W.cell? ⟨BR, 2, none⟩ = some (.int .i64 R.height) ∧ W.cell? ⟨BR, 3, none⟩ = some (.slice pA R.pieces.length pc) ∧ W.cell? ⟨BR, 4, none⟩ = some (.slice sA R.start.length sc) ∧ W.cell? ⟨BR, 5, none⟩ = some (.bool R.falls) ∧ W.cell? ⟨BR, 6, none⟩ = some (.bool R.keeps) ∧ W.cell? ⟨BR, 7, none⟩ = some (.slice eA R.ends.length ec) ∧ W.cell? ⟨BR, 8, none⟩ = some (.int .i64 R.blocked) ∧ W.cell? ⟨BR, 9, none⟩ = some (.int .i64 R.quiet) ∧ W.cell? ⟨BR, 10, none⟩ = some (.int .i64 R.rept) ∧ Ext wr W) W from ⟨(KRr.out.ext h).cell 0, (KRr.out.ext h).cell 1, (KRr.out.ext h).cell 2, (KRr.out.ext h).cell 3, (KRr.out.ext h).cell 4, (KRr.out.ext h).cell 5, (KRr.out.ext h).cell 6, (KRr.out.ext h).cell 7, (KRr.out.ext h).cell 8, (KRr.out.ext h).cell 9, (KRr.out.ext h).cell 10, h⟩))
    have yy : Ext wr wr.drew := Below.drew (Below.refl _ _)
    refine region_K (fun W => W.cell? ⟨BR, 0, none⟩ = some (.string R.name) ∧ W.cell? ⟨BR, 1, none⟩ = some (.int .i64 R.width) ∧ W.cell? ⟨BR, 2, none⟩ = some (.int .i64 R.height) ∧ W.cell? ⟨BR, 3, none⟩ = some (.slice pA R.pieces.length pc) ∧ W.cell? ⟨BR, 4, none⟩ = some (.slice sA R.start.length sc) ∧ W.cell? ⟨BR, 5, none⟩ = some (.bool R.falls) ∧ W.cell? ⟨BR, 6, none⟩ = some (.bool R.keeps) ∧ W.cell? ⟨BR, 7, none⟩ = some (.slice eA R.ends.length ec) ∧ W.cell? ⟨BR, 8, none⟩ = some (.int .i64 R.blocked) ∧ W.cell? ⟨BR, 9, none⟩ = some (.int .i64 R.quiet) ∧ W.cell? ⟨BR, 10, none⟩ = some (.int .i64 R.rept) ∧ Ext wr W) (fun _ => True) [] (by kernel_rfl) ?_
    have hT0 := keepK.out _ yy
    refine anyK_take 0 (oi := ?oo1) ?ho1 (by kernel_rfl) (by kernel_rfl) (by kernel_rfl) (by kernel_rfl) ?hq1 ?hw1 hT0 (fun _ => trivial) (v := ?vv1) ?hy1 ?hk1
    case ho1 => (simp only [List.getElem?_toArray, List.getElem?_cons_succ, List.getElem?_cons_zero]; rfl)
    case hq1 => exact fun _ _ _ h => h
    case hw1 => rfl
    case hy1 =>
      intro W hW
      obtain ⟨z0, z1, z2, z3, z4, z5, z6, z7, z8, z9, z10, z11⟩ := hW
      go_simp
      first | done | with_reducible rfl
    case hk1 =>
    try simp only [Act.put, List.setIfInBounds_toArray, List.set_cons_zero, List.set_cons_succ]
    refine anyK_take 1 (oi := ?oo2) ?ho2 (by kernel_rfl) (by kernel_rfl) (by kernel_rfl) (by kernel_rfl) ?hq2 ?hw2 hT0 (fun _ => trivial) (v := ?vv2) ?hy2 ?hk2
    case ho2 => (simp only [List.getElem?_toArray, List.getElem?_cons_succ, List.getElem?_cons_zero]; rfl)
    case hq2 => exact fun _ _ _ h => h
    case hw2 => rfl
    case hy2 =>
      intro W hW
      go_simp
      first | done | with_reducible rfl
    case hk2 =>
    try simp only [Act.put, List.setIfInBounds_toArray, List.set_cons_zero, List.set_cons_succ]
    refine anyK_on2 2 8 (by kernel_rfl) ?_ ?_
    · skip
      refine anyK_one 2 (o := ?oo3) ?ho3 ?hk3
      case ho3 => (simp only [List.getElem?_toArray, List.getElem?_cons_succ, List.getElem?_cons_zero]; rfl)
      case hk3 =>
      intro K hK
      go_simp
      refine (HMV.out _ yy).mono ?_
      rintro e wm ⟨v6, rfl, own6, xx⟩
      try go_wp2_with fail
      replace yy := ext_trans yy xx
      have HM6 := hide own6.at_
      clear own6
      try (replace KN := hide (KN.out.ext xx))
      have hT1 := keepK.out _ yy
      refine hK.out _ _ hT1 (fun _ => trivial) ?_
      clear hK K
      try simp only [Act.put, List.setIfInBounds_toArray, List.set_cons_zero, List.set_cons_succ]
      refine anyK_on2 3 8 (by kernel_rfl) ?_ ?_
      · skip
        refine anyK_one 3 (o := ?oo4) ?ho4 ?hk4
        case ho4 => (simp only [List.getElem?_toArray, List.getElem?_cons_succ, List.getElem?_cons_zero]; rfl)
        case hk4 =>
        intro K hK
        go_simp
        refine (HRN.out _ _ yy HM6.out).mono ?_
        rintro e wn2 ⟨v7, rfl, p7, xx⟩
        try go_wp2_with fail
        replace yy := ext_trans yy xx
        have HP7 := hide p7
        obtain ⟨g0, d0, g1, d1, g2, d2, rfl, -⟩ := p7
        try (replace KN := hide (KN.out.ext xx))
        have hT2 := keepK.out _ yy
        refine hK.out _ _ hT2 (fun _ => trivial) ?_
        clear hK K
        try simp only [Act.put, List.setIfInBounds_toArray, List.set_cons_zero, List.set_cons_succ]
        refine anyK_take 4 (oi := ?oo5) ?ho5 (by kernel_rfl) (by kernel_rfl) (by kernel_rfl) (by kernel_rfl) ?hq5 ?hw5 hT2 (fun _ => trivial) (v := ?vv5) ?hy5 ?hk5
        case ho5 => (simp only [List.getElem?_toArray, List.getElem?_cons_succ, List.getElem?_cons_zero]; rfl)
        case hq5 => exact fun _ _ _ h => h
        case hw5 => rfl
        case hy5 =>
          intro W hW
          go_simp
          first | done | with_reducible rfl
        case hk5 =>
        try simp only [Act.put, List.setIfInBounds_toArray, List.set_cons_zero, List.set_cons_succ]
        refine anyK_take 5 (oi := ?oo6) ?ho6 (by kernel_rfl) (by kernel_rfl) (by kernel_rfl) (by kernel_rfl) ?hq6 ?hw6 hT2 (fun _ => trivial) (v := ?vv6) ?hy6 ?hk6
        case ho6 => (simp only [List.getElem?_toArray, List.getElem?_cons_succ, List.getElem?_cons_zero]; rfl)
        case hq6 => exact fun _ _ _ h => h
        case hw6 => rfl
        case hy6 =>
          intro W hW
          go_simp
          first | done | with_reducible rfl
        case hk6 =>
        try simp only [Act.put, List.setIfInBounds_toArray, List.set_cons_zero, List.set_cons_succ]
        refine anyK_take 6 (oi := ?oo7) ?ho7 (by kernel_rfl) (by kernel_rfl) (by kernel_rfl) (by kernel_rfl) ?hq7 ?hw7 hT2 (fun _ => trivial) (v := ?vv7) ?hy7 ?hk7
        case ho7 => (simp only [List.getElem?_toArray, List.getElem?_cons_succ, List.getElem?_cons_zero]; rfl)
        case hq7 => exact fun _ _ _ h => h
        case hw7 => rfl
        case hy7 =>
          intro W hW
          go_simp
          first | done | with_reducible rfl
        case hk7 =>
        try simp only [Act.put, List.setIfInBounds_toArray, List.set_cons_zero, List.set_cons_succ]
        refine anyK_take 7 (oi := ?oo8) ?ho8 (by kernel_rfl) (by kernel_rfl) (by kernel_rfl) (by kernel_rfl) ?hq8 ?hw8 hT2 (fun _ => trivial) (v := ?vv8) ?hy8 ?hk8
        case ho8 => (simp only [List.getElem?_toArray, List.getElem?_cons_succ, List.getElem?_cons_zero]; rfl)
        case hq8 => exact fun _ _ _ h => h
        case hw8 => rfl
        case hy8 =>
          intro W hW
          go_simp
          first | done | with_reducible rfl
        case hk8 =>
        try simp only [Act.put, List.setIfInBounds_toArray, List.set_cons_zero, List.set_cons_succ]
        refine anyK_on1 8 (by kernel_rfl) ?_
        refine anyK_one 8 (o := ?oo9) ?ho9 ?hk9
        case ho9 => (simp only [List.getElem?_toArray, List.getElem?_cons_succ, List.getElem?_cons_zero]; rfl)
        case hk9 =>
        intro K hK
        go_simp
        have hnb0 : wr.heap.size ≤ wn2.heap.size := (yy : Ext wr wn2).size
        have HNB0 := hide hnb0
        clear hnb0
        have KN : Hid (Blk (wn2.alloc (.cells #[.slice none 0 0, .slice none 0 0, .slice none 0 0, .int .i64 0, .int .i64 0] 29)) wn2.heap.size 29 #[.slice none 0 0, .slice none 0 0, .slice none 0 0, .int .i64 0, .int .i64 0]) := hide (Blk.new wn2 29 #[.slice none 0 0, .slice none 0 0, .slice none 0 0, .int .i64 0, .int .i64 0])
        try (replace HM6 := hide (MovesAt.ext HM6.out (ext_alloc (Below.refl _ _) (.cells #[.slice none 0 0, .slice none 0 0, .slice none 0 0, .int .i64 0, .int .i64 0] 29))))
        try (replace HP7 := hide (HP7.out.ext (ext_alloc (Below.refl _ _) (.cells #[.slice none 0 0, .slice none 0 0, .slice none 0 0, .int .i64 0, .int .i64 0] 29))))
        generalize hBN : wn2.heap.size = BN at *
        have HNB : Hid (wr.heap.size ≤ BN) := hide (by have h : wr.heap.size ≤ wn2.heap.size := (yy : Ext wr wn2).size; omega)
        clear hBN HNB0
        replace yy := ext_alloc yy (.cells #[.slice none 0 0, .slice none 0 0, .slice none 0 0, .int .i64 0, .int .i64 0] 29)
        have hT3 := keepK.out _ yy
        refine hK.out _ _ hT3 (fun _ => trivial) ?_
        clear hK K
        try simp only [Act.put, List.setIfInBounds_toArray, List.set_cons_zero, List.set_cons_succ]
        refine anyK_on1 9 (by kernel_rfl) ?_
        refine anyK_one 9 (o := ?oo10) ?ho10 ?hk10
        case ho10 => (simp only [List.getElem?_toArray, List.getElem?_cons_succ, List.getElem?_cons_zero]; rfl)
        case hk10 =>
        intro K hK
        have q5 := KN.out.cell
        have z5 := KN.out.frozen
        have KPF := hide (blk_set5 KN.out (u0 := .slice (some ⟨g0, 0, none⟩) P.cells.length d0) (u1 := .slice (some ⟨g1, 0, none⟩) P.hand0.length d1) (u2 := .slice (some ⟨g2, 0, none⟩) P.hand1.length d2) (u3 := .int .i64 P.turn) (u4 := .int .i64 P.quiet))
        have HPF := hide (PosI.far5 (u0 := .slice (some ⟨g0, 0, none⟩) P.cells.length d0) (u1 := .slice (some ⟨g1, 0, none⟩) P.hand0.length d1) (u2 := .slice (some ⟨g2, 0, none⟩) P.hand1.length d2) (u3 := .int .i64 P.turn) (u4 := .int .i64 P.quiet) HP7.out KN.out)
        replace yy := ext5 (u0 := .slice (some ⟨g0, 0, none⟩) P.cells.length d0) (u1 := .slice (some ⟨g1, 0, none⟩) P.hand0.length d1) (u2 := .slice (some ⟨g2, 0, none⟩) P.hand1.length d2) (u3 := .int .i64 P.turn) (u4 := .int .i64 P.quiet) yy HNB.out
        go_simp
        clear q5 z5
        have hT4 := keepK.out _ yy
        refine hK.out _ _ hT4 (fun _ => trivial) ?_
        clear hK K
        try simp only [Act.put, List.setIfInBounds_toArray, List.set_cons_zero, List.set_cons_succ]
        refine anyK_take 10 (oi := ?oo11) ?ho11 (by kernel_rfl) (by kernel_rfl) (by kernel_rfl) (by kernel_rfl) ?hq11 ?hw11 hT4 (fun _ => trivial) (v := ?vv11) ?hy11 ?hk11
        case ho11 => (simp only [List.getElem?_toArray, List.getElem?_cons_succ, List.getElem?_cons_zero]; rfl)
        case hq11 => exact fun _ _ _ h => h
        case hw11 => rfl
        case hy11 =>
          intro W hW
          go_simp
          first | done | with_reducible rfl
        case hk11 =>
        try simp only [Act.put, List.setIfInBounds_toArray, List.set_cons_zero, List.set_cons_succ]
        refine anyK_take 11 (oi := ?oo12) ?ho12 (by kernel_rfl) (by kernel_rfl) (by kernel_rfl) (by kernel_rfl) ?hq12 ?hw12 hT4 (fun _ => trivial) (v := ?vv12) ?hy12 ?hk12
        case ho12 => (simp only [List.getElem?_toArray, List.getElem?_cons_succ, List.getElem?_cons_zero]; rfl)
        case hq12 => exact fun _ _ _ h => h
        case hw12 => rfl
        case hy12 =>
          intro W hW
          go_simp
          first | done | with_reducible rfl
        case hk12 =>
        try simp only [Act.put, List.setIfInBounds_toArray, List.set_cons_zero, List.set_cons_succ]
        refine anyK_done (by kernel_rfl) ?_ _
        clear keepK hT0 hT1 hT2 hT3 hT4
        have XF := hide yy
        clear yy KN HNB HP7 HM6
        generalize ((((((wn2.alloc (.cells #[.slice none 0 0, .slice none 0 0, .slice none 0 0, .int .i64 0, .int .i64 0] 29)).setCell ⟨BN, 0, none⟩ (.slice (some ⟨g0, 0, none⟩) P.cells.length d0)).setCell ⟨BN, 1, none⟩ (.slice (some ⟨g1, 0, none⟩) P.hand0.length d1)).setCell ⟨BN, 2, none⟩ (.slice (some ⟨g2, 0, none⟩) P.hand1.length d2)).setCell ⟨BN, 3, none⟩ (.int .i64 P.turn)).setCell ⟨BN, 4, none⟩ (.int .i64 P.quiet)) = wf at *
        go_upto_region 21 with fail
        have keepK := hide (fun W (h : Ext wf W) => (show (fun W => W.cell? ⟨BN, 0, none⟩ = some (.slice (some ⟨g0, 0, none⟩) P.cells.length d0) ∧ W.cell? ⟨BN, 1, none⟩ = some (.slice (some ⟨g1, 0, none⟩) P.hand0.length d1) ∧ W.cell? ⟨BN, 2, none⟩ = some (.slice (some ⟨g2, 0, none⟩) P.hand1.length d2) ∧ W.cell? ⟨BN, 3, none⟩ = some (.int .i64 P.turn) ∧ W.cell? ⟨BN, 4, none⟩ = some (.int .i64 P.quiet) ∧ Ext wf W) W from ⟨(KPF.out.ext h).cell 0, (KPF.out.ext h).cell 1, (KPF.out.ext h).cell 2, (KPF.out.ext h).cell 3, (KPF.out.ext h).cell 4, h⟩))
        have yy : Ext wf wf.drew := Below.drew (Below.refl _ _)
        refine region_K (fun W => W.cell? ⟨BN, 0, none⟩ = some (.slice (some ⟨g0, 0, none⟩) P.cells.length d0) ∧ W.cell? ⟨BN, 1, none⟩ = some (.slice (some ⟨g1, 0, none⟩) P.hand0.length d1) ∧ W.cell? ⟨BN, 2, none⟩ = some (.slice (some ⟨g2, 0, none⟩) P.hand1.length d2) ∧ W.cell? ⟨BN, 3, none⟩ = some (.int .i64 P.turn) ∧ W.cell? ⟨BN, 4, none⟩ = some (.int .i64 P.quiet) ∧ Ext wf W) (fun _ => True) [] (by kernel_rfl) ?_
        have hT0 := keepK.out _ yy
        refine anyK_take 0 (oi := ?oo13) ?ho13 (by kernel_rfl) (by kernel_rfl) (by kernel_rfl) (by kernel_rfl) ?hq13 ?hw13 hT0 (fun _ => trivial) (v := ?vv13) ?hy13 ?hk13
        case ho13 => (simp only [List.getElem?_toArray, List.getElem?_cons_succ, List.getElem?_cons_zero]; rfl)
        case hq13 => exact fun _ _ _ h => h
        case hw13 => rfl
        case hy13 =>
          intro W hW
          go_simp
          first | done | with_reducible rfl
        case hk13 =>
        try simp only [Act.put, List.setIfInBounds_toArray, List.set_cons_zero, List.set_cons_succ]
        refine anyK_take 1 (oi := ?oo14) ?ho14 (by kernel_rfl) (by kernel_rfl) (by kernel_rfl) (by kernel_rfl) ?hq14 ?hw14 hT0 (fun _ => trivial) (v := ?vv14) ?hy14 ?hk14
        case ho14 => (simp only [List.getElem?_toArray, List.getElem?_cons_succ, List.getElem?_cons_zero]; rfl)
        case hq14 => exact fun _ _ _ h => h
        case hw14 => rfl
        case hy14 =>
          intro W hW
          go_simp
          first | done | with_reducible rfl
        case hk14 =>
        try simp only [Act.put, List.setIfInBounds_toArray, List.set_cons_zero, List.set_cons_succ]
        refine anyK_take 2 (oi := ?oo15) ?ho15 (by kernel_rfl) (by kernel_rfl) (by kernel_rfl) (by kernel_rfl) ?hq15 ?hw15 hT0 (fun _ => trivial) (v := ?vv15) ?hy15 ?hk15
        case ho15 => (simp only [List.getElem?_toArray, List.getElem?_cons_succ, List.getElem?_cons_zero]; rfl)
        case hq15 => exact fun _ _ _ h => h
        case hw15 => rfl
        case hy15 =>
          intro W hW
          go_simp
          first | done | with_reducible rfl
        case hk15 =>
        try simp only [Act.put, List.setIfInBounds_toArray, List.set_cons_zero, List.set_cons_succ]
        refine anyK_take 3 (oi := ?oo16) ?ho16 (by kernel_rfl) (by kernel_rfl) (by kernel_rfl) (by kernel_rfl) ?hq16 ?hw16 hT0 (fun _ => trivial) (v := ?vv16) ?hy16 ?hk16
        case ho16 => (simp only [List.getElem?_toArray, List.getElem?_cons_succ, List.getElem?_cons_zero]; rfl)
        case hq16 => exact fun _ _ _ h => h
        case hw16 => rfl
        case hy16 =>
          intro W hW
          go_simp
          first | done | with_reducible rfl
        case hk16 =>
        try simp only [Act.put, List.setIfInBounds_toArray, List.set_cons_zero, List.set_cons_succ]
        refine anyK_take 4 (oi := ?oo17) ?ho17 (by kernel_rfl) (by kernel_rfl) (by kernel_rfl) (by kernel_rfl) ?hq17 ?hw17 hT0 (fun _ => trivial) (v := ?vv17) ?hy17 ?hk17
        case ho17 => (simp only [List.getElem?_toArray, List.getElem?_cons_succ, List.getElem?_cons_zero]; rfl)
        case hq17 => exact fun _ _ _ h => h
        case hw17 => rfl
        case hy17 =>
          intro W hW
          go_simp
          first | done | with_reducible rfl
        case hk17 =>
        try simp only [Act.put, List.setIfInBounds_toArray, List.set_cons_zero, List.set_cons_succ]
        refine anyK_on1 5 (by kernel_rfl) ?_
        refine anyK_one 5 (o := ?oo18) ?ho18 ?hk18
        case ho18 => (simp only [List.getElem?_toArray, List.getElem?_cons_succ, List.getElem?_cons_zero]; rfl)
        case hk18 =>
        intro K hK
        go_simp
        refine (HRE.out _ (ext_trans XF.out yy)).mono ?_
        rintro e wa1 ⟨rfl, xx⟩
        try go_wp2_with fail
        replace yy := ext_trans yy xx
        have hT1 := keepK.out _ yy
        refine hK.out _ _ hT1 (fun _ => trivial) ?_
        clear hK K
        try simp only [Act.put, List.setIfInBounds_toArray, List.set_cons_zero, List.set_cons_succ]
        refine anyK_take 6 (oi := ?oo19) ?ho19 (by kernel_rfl) (by kernel_rfl) (by kernel_rfl) (by kernel_rfl) ?hq19 ?hw19 hT1 (fun _ => trivial) (v := ?vv19) ?hy19 ?hk19
        case ho19 => (simp only [List.getElem?_toArray, List.getElem?_cons_succ, List.getElem?_cons_zero]; rfl)
        case hq19 => exact fun _ _ _ h => h
        case hw19 => rfl
        case hy19 =>
          intro W hW
          go_simp
          first | done | with_reducible rfl
        case hk19 =>
        try simp only [Act.put, List.setIfInBounds_toArray, List.set_cons_zero, List.set_cons_succ]
        refine anyK_take 7 (oi := ?oo20) ?ho20 (by kernel_rfl) (by kernel_rfl) (by kernel_rfl) (by kernel_rfl) ?hq20 ?hw20 hT1 (fun _ => trivial) (v := ?vv20) ?hy20 ?hk20
        case ho20 => (simp only [List.getElem?_toArray, List.getElem?_cons_succ, List.getElem?_cons_zero]; rfl)
        case hq20 => exact fun _ _ _ h => h
        case hw20 => rfl
        case hy20 =>
          intro W hW
          go_simp
          first | done | with_reducible rfl
        case hk20 =>
        try simp only [Act.put, List.setIfInBounds_toArray, List.set_cons_zero, List.set_cons_succ]
        refine anyK_take 8 (oi := ?oo21) ?ho21 (by kernel_rfl) (by kernel_rfl) (by kernel_rfl) (by kernel_rfl) ?hq21 ?hw21 hT1 (fun _ => trivial) (v := ?vv21) ?hy21 ?hk21
        case ho21 => (simp only [List.getElem?_toArray, List.getElem?_cons_succ, List.getElem?_cons_zero]; rfl)
        case hq21 => exact fun _ _ _ h => h
        case hw21 => rfl
        case hy21 =>
          intro W hW
          go_simp
          first | done | with_reducible rfl
        case hk21 =>
        try simp only [Act.put, List.setIfInBounds_toArray, List.set_cons_zero, List.set_cons_succ]
        refine anyK_take 9 (oi := ?oo22) ?ho22 (by kernel_rfl) (by kernel_rfl) (by kernel_rfl) (by kernel_rfl) ?hq22 ?hw22 hT1 (fun _ => trivial) (v := ?vv22) ?hy22 ?hk22
        case ho22 => (simp only [List.getElem?_toArray, List.getElem?_cons_succ, List.getElem?_cons_zero]; rfl)
        case hq22 => exact fun _ _ _ h => h
        case hw22 => rfl
        case hy22 =>
          intro W hW
          obtain ⟨z0, z1, z2, z3, z4, z5⟩ := hW
          go_simp
          first | done | with_reducible rfl
        case hk22 =>
        try simp only [Act.put, List.setIfInBounds_toArray, List.set_cons_zero, List.set_cons_succ]
        refine anyK_take 10 (oi := ?oo23) ?ho23 (by kernel_rfl) (by kernel_rfl) (by kernel_rfl) (by kernel_rfl) ?hq23 ?hw23 hT1 (fun _ => trivial) (v := ?vv23) ?hy23 ?hk23
        case ho23 => (simp only [List.getElem?_toArray, List.getElem?_cons_succ, List.getElem?_cons_zero]; rfl)
        case hq23 => exact fun _ _ _ h => h
        case hw23 => rfl
        case hy23 =>
          intro W hW
          go_simp
          first | done | with_reducible rfl
        case hk23 =>
        try simp only [Act.put, List.setIfInBounds_toArray, List.set_cons_zero, List.set_cons_succ]
        refine anyK_on1 11 (by kernel_rfl) ?_
        refine anyK_one 11 (o := ?oo24) ?ho24 ?hk24
        case ho24 => (simp only [List.getElem?_toArray, List.getElem?_cons_succ, List.getElem?_cons_zero]; rfl)
        case hk24 =>
        intro K hK
        go_simp
        refine (HPO.out _ (ext_trans XF.out yy)).mono ?_
        rintro e wa2 ⟨v8, rfl, p8, xx⟩
        try go_wp2_with fail
        replace yy := ext_trans yy xx
        have HP8 := hide p8
        clear p8
        have hT2 := keepK.out _ yy
        refine hK.out _ _ hT2 (fun _ => trivial) ?_
        clear hK K
        try simp only [Act.put, List.setIfInBounds_toArray, List.set_cons_zero, List.set_cons_succ]
        refine anyK_on1 12 (by kernel_rfl) ?_
        refine anyK_one 12 (o := ?oo25) ?ho25 ?hk25
        case ho25 => (simp only [List.getElem?_toArray, List.getElem?_cons_succ, List.getElem?_cons_zero]; rfl)
        case hk25 =>
        intro K hK
        go_simp
        refine (HSM.out _ _ _ (HPF.out.ext yy).at_ HP8.out.at_).mono ?_
        rintro e wa3 ⟨rfl, xx⟩
        try go_wp2_with fail
        replace yy := ext_trans yy xx
        have hT3 := keepK.out _ yy
        refine hK.out _ _ hT3 (fun _ => trivial) ?_
        clear hK K
        try simp only [Act.put, List.setIfInBounds_toArray, List.set_cons_zero, List.set_cons_succ]
        refine anyK_take 13 (oi := ?oo26) ?ho26 (by kernel_rfl) (by kernel_rfl) (by kernel_rfl) (by kernel_rfl) ?hq26 ?hw26 hT3 (fun _ => trivial) (v := ?vv26) ?hy26 ?hk26
        case ho26 => (simp only [List.getElem?_toArray, List.getElem?_cons_succ, List.getElem?_cons_zero]; rfl)
        case hq26 => exact fun _ _ _ h => h
        case hw26 => rfl
        case hy26 =>
          intro W hW
          go_simp
          first | done | with_reducible rfl
        case hk26 =>
        try simp only [Act.put, List.setIfInBounds_toArray, List.set_cons_zero, List.set_cons_succ]
        refine anyK_take 14 (oi := ?oo27) ?ho27 (by kernel_rfl) (by kernel_rfl) (by kernel_rfl) (by kernel_rfl) ?hq27 ?hw27 hT3 (fun _ => trivial) (v := ?vv27) ?hy27 ?hk27
        case ho27 => (simp only [List.getElem?_toArray, List.getElem?_cons_succ, List.getElem?_cons_zero]; rfl)
        case hq27 => exact fun _ _ _ h => h
        case hw27 => rfl
        case hy27 =>
          intro W hW
          go_simp
          first | done | with_reducible rfl
        case hk27 =>
        try simp only [Act.put, List.setIfInBounds_toArray, List.set_cons_zero, List.set_cons_succ]
        refine anyK_done (by kernel_rfl) ?_ _
        clear keepK hT0 hT1 hT2 hT3
        go_wp2
        go_ret
        exact ⟨rfl, ext_trans XB.out (ext_trans HXW.out (ext_trans XF.out yy))⟩
      · skip
        refine anyK_one 8 (o := ?oo29) ?ho29 ?hk29
        case ho29 => (simp only [List.getElem?_toArray, List.getElem?_cons_succ, List.getElem?_cons_zero]; rfl)
        case hk29 =>
        intro K hK
        go_simp
        have hnb0 : wr.heap.size ≤ wm.heap.size := (yy : Ext wr wm).size
        have HNB0 := hide hnb0
        clear hnb0
        have KN : Hid (Blk (wm.alloc (.cells #[.slice none 0 0, .slice none 0 0, .slice none 0 0, .int .i64 0, .int .i64 0] 29)) wm.heap.size 29 #[.slice none 0 0, .slice none 0 0, .slice none 0 0, .int .i64 0, .int .i64 0]) := hide (Blk.new wm 29 #[.slice none 0 0, .slice none 0 0, .slice none 0 0, .int .i64 0, .int .i64 0])
        try (replace HM6 := hide (MovesAt.ext HM6.out (ext_alloc (Below.refl _ _) (.cells #[.slice none 0 0, .slice none 0 0, .slice none 0 0, .int .i64 0, .int .i64 0] 29))))
        try (replace HP7 := hide (HP7.out.ext (ext_alloc (Below.refl _ _) (.cells #[.slice none 0 0, .slice none 0 0, .slice none 0 0, .int .i64 0, .int .i64 0] 29))))
        generalize hBN : wm.heap.size = BN at *
        have HNB : Hid (wr.heap.size ≤ BN) := hide (by have h : wr.heap.size ≤ wm.heap.size := (yy : Ext wr wm).size; omega)
        clear hBN HNB0
        replace yy := ext_alloc yy (.cells #[.slice none 0 0, .slice none 0 0, .slice none 0 0, .int .i64 0, .int .i64 0] 29)
        have hT2 := keepK.out _ yy
        refine hK.out _ _ hT2 (fun _ => trivial) ?_
        clear hK K
        try simp only [Act.put, List.setIfInBounds_toArray, List.set_cons_zero, List.set_cons_succ]
        refine anyK_on1 3 (by kernel_rfl) ?_
        refine anyK_one 3 (o := ?oo30) ?ho30 ?hk30
        case ho30 => (simp only [List.getElem?_toArray, List.getElem?_cons_succ, List.getElem?_cons_zero]; rfl)
        case hk30 =>
        intro K hK
        go_simp
        refine (HRN.out _ _ yy HM6.out).mono ?_
        rintro e wn2 ⟨v7, rfl, p7, xx⟩
        try go_wp2_with fail
        replace yy := ext_trans yy xx
        have HP7 := hide p7
        obtain ⟨g0, d0, g1, d1, g2, d2, rfl, -⟩ := p7
        try (replace KN := hide (KN.out.ext xx))
        have hT3 := keepK.out _ yy
        refine hK.out _ _ hT3 (fun _ => trivial) ?_
        clear hK K
        try simp only [Act.put, List.setIfInBounds_toArray, List.set_cons_zero, List.set_cons_succ]
        refine anyK_take 4 (oi := ?oo31) ?ho31 (by kernel_rfl) (by kernel_rfl) (by kernel_rfl) (by kernel_rfl) ?hq31 ?hw31 hT3 (fun _ => trivial) (v := ?vv31) ?hy31 ?hk31
        case ho31 => (simp only [List.getElem?_toArray, List.getElem?_cons_succ, List.getElem?_cons_zero]; rfl)
        case hq31 => exact fun _ _ _ h => h
        case hw31 => rfl
        case hy31 =>
          intro W hW
          go_simp
          first | done | with_reducible rfl
        case hk31 =>
        try simp only [Act.put, List.setIfInBounds_toArray, List.set_cons_zero, List.set_cons_succ]
        refine anyK_take 5 (oi := ?oo32) ?ho32 (by kernel_rfl) (by kernel_rfl) (by kernel_rfl) (by kernel_rfl) ?hq32 ?hw32 hT3 (fun _ => trivial) (v := ?vv32) ?hy32 ?hk32
        case ho32 => (simp only [List.getElem?_toArray, List.getElem?_cons_succ, List.getElem?_cons_zero]; rfl)
        case hq32 => exact fun _ _ _ h => h
        case hw32 => rfl
        case hy32 =>
          intro W hW
          go_simp
          first | done | with_reducible rfl
        case hk32 =>
        try simp only [Act.put, List.setIfInBounds_toArray, List.set_cons_zero, List.set_cons_succ]
        refine anyK_take 6 (oi := ?oo33) ?ho33 (by kernel_rfl) (by kernel_rfl) (by kernel_rfl) (by kernel_rfl) ?hq33 ?hw33 hT3 (fun _ => trivial) (v := ?vv33) ?hy33 ?hk33
        case ho33 => (simp only [List.getElem?_toArray, List.getElem?_cons_succ, List.getElem?_cons_zero]; rfl)
        case hq33 => exact fun _ _ _ h => h
        case hw33 => rfl
        case hy33 =>
          intro W hW
          go_simp
          first | done | with_reducible rfl
        case hk33 =>
        try simp only [Act.put, List.setIfInBounds_toArray, List.set_cons_zero, List.set_cons_succ]
        refine anyK_take 7 (oi := ?oo34) ?ho34 (by kernel_rfl) (by kernel_rfl) (by kernel_rfl) (by kernel_rfl) ?hq34 ?hw34 hT3 (fun _ => trivial) (v := ?vv34) ?hy34 ?hk34
        case ho34 => (simp only [List.getElem?_toArray, List.getElem?_cons_succ, List.getElem?_cons_zero]; rfl)
        case hq34 => exact fun _ _ _ h => h
        case hw34 => rfl
        case hy34 =>
          intro W hW
          go_simp
          first | done | with_reducible rfl
        case hk34 =>
        try simp only [Act.put, List.setIfInBounds_toArray, List.set_cons_zero, List.set_cons_succ]
        refine anyK_on1 9 (by kernel_rfl) ?_
        refine anyK_one 9 (o := ?oo35) ?ho35 ?hk35
        case ho35 => (simp only [List.getElem?_toArray, List.getElem?_cons_succ, List.getElem?_cons_zero]; rfl)
        case hk35 =>
        intro K hK
        have q5 := KN.out.cell
        have z5 := KN.out.frozen
        have KPF := hide (blk_set5 KN.out (u0 := .slice (some ⟨g0, 0, none⟩) P.cells.length d0) (u1 := .slice (some ⟨g1, 0, none⟩) P.hand0.length d1) (u2 := .slice (some ⟨g2, 0, none⟩) P.hand1.length d2) (u3 := .int .i64 P.turn) (u4 := .int .i64 P.quiet))
        have HPF := hide (PosI.far5 (u0 := .slice (some ⟨g0, 0, none⟩) P.cells.length d0) (u1 := .slice (some ⟨g1, 0, none⟩) P.hand0.length d1) (u2 := .slice (some ⟨g2, 0, none⟩) P.hand1.length d2) (u3 := .int .i64 P.turn) (u4 := .int .i64 P.quiet) HP7.out KN.out)
        replace yy := ext5 (u0 := .slice (some ⟨g0, 0, none⟩) P.cells.length d0) (u1 := .slice (some ⟨g1, 0, none⟩) P.hand0.length d1) (u2 := .slice (some ⟨g2, 0, none⟩) P.hand1.length d2) (u3 := .int .i64 P.turn) (u4 := .int .i64 P.quiet) yy HNB.out
        go_simp
        clear q5 z5
        have hT4 := keepK.out _ yy
        refine hK.out _ _ hT4 (fun _ => trivial) ?_
        clear hK K
        try simp only [Act.put, List.setIfInBounds_toArray, List.set_cons_zero, List.set_cons_succ]
        refine anyK_take 10 (oi := ?oo36) ?ho36 (by kernel_rfl) (by kernel_rfl) (by kernel_rfl) (by kernel_rfl) ?hq36 ?hw36 hT4 (fun _ => trivial) (v := ?vv36) ?hy36 ?hk36
        case ho36 => (simp only [List.getElem?_toArray, List.getElem?_cons_succ, List.getElem?_cons_zero]; rfl)
        case hq36 => exact fun _ _ _ h => h
        case hw36 => rfl
        case hy36 =>
          intro W hW
          go_simp
          first | done | with_reducible rfl
        case hk36 =>
        try simp only [Act.put, List.setIfInBounds_toArray, List.set_cons_zero, List.set_cons_succ]
        refine anyK_take 11 (oi := ?oo37) ?ho37 (by kernel_rfl) (by kernel_rfl) (by kernel_rfl) (by kernel_rfl) ?hq37 ?hw37 hT4 (fun _ => trivial) (v := ?vv37) ?hy37 ?hk37
        case ho37 => (simp only [List.getElem?_toArray, List.getElem?_cons_succ, List.getElem?_cons_zero]; rfl)
        case hq37 => exact fun _ _ _ h => h
        case hw37 => rfl
        case hy37 =>
          intro W hW
          go_simp
          first | done | with_reducible rfl
        case hk37 =>
        try simp only [Act.put, List.setIfInBounds_toArray, List.set_cons_zero, List.set_cons_succ]
        refine anyK_done (by kernel_rfl) ?_ _
        clear keepK hT0 hT1 hT2 hT3 hT4
        have XF := hide yy
        clear yy KN HNB HP7 HM6
        generalize (((((wn2.setCell ⟨BN, 0, none⟩ (.slice (some ⟨g0, 0, none⟩) P.cells.length d0)).setCell ⟨BN, 1, none⟩ (.slice (some ⟨g1, 0, none⟩) P.hand0.length d1)).setCell ⟨BN, 2, none⟩ (.slice (some ⟨g2, 0, none⟩) P.hand1.length d2)).setCell ⟨BN, 3, none⟩ (.int .i64 P.turn)).setCell ⟨BN, 4, none⟩ (.int .i64 P.quiet)) = wf at *
        go_upto_region 21 with fail
        have keepK := hide (fun W (h : Ext wf W) => (show (fun W => W.cell? ⟨BN, 0, none⟩ = some (.slice (some ⟨g0, 0, none⟩) P.cells.length d0) ∧ W.cell? ⟨BN, 1, none⟩ = some (.slice (some ⟨g1, 0, none⟩) P.hand0.length d1) ∧ W.cell? ⟨BN, 2, none⟩ = some (.slice (some ⟨g2, 0, none⟩) P.hand1.length d2) ∧ W.cell? ⟨BN, 3, none⟩ = some (.int .i64 P.turn) ∧ W.cell? ⟨BN, 4, none⟩ = some (.int .i64 P.quiet) ∧ Ext wf W) W from ⟨(KPF.out.ext h).cell 0, (KPF.out.ext h).cell 1, (KPF.out.ext h).cell 2, (KPF.out.ext h).cell 3, (KPF.out.ext h).cell 4, h⟩))
        have yy : Ext wf wf.drew := Below.drew (Below.refl _ _)
        refine region_K (fun W => W.cell? ⟨BN, 0, none⟩ = some (.slice (some ⟨g0, 0, none⟩) P.cells.length d0) ∧ W.cell? ⟨BN, 1, none⟩ = some (.slice (some ⟨g1, 0, none⟩) P.hand0.length d1) ∧ W.cell? ⟨BN, 2, none⟩ = some (.slice (some ⟨g2, 0, none⟩) P.hand1.length d2) ∧ W.cell? ⟨BN, 3, none⟩ = some (.int .i64 P.turn) ∧ W.cell? ⟨BN, 4, none⟩ = some (.int .i64 P.quiet) ∧ Ext wf W) (fun _ => True) [] (by kernel_rfl) ?_
        have hT0 := keepK.out _ yy
        refine anyK_take 0 (oi := ?oo38) ?ho38 (by kernel_rfl) (by kernel_rfl) (by kernel_rfl) (by kernel_rfl) ?hq38 ?hw38 hT0 (fun _ => trivial) (v := ?vv38) ?hy38 ?hk38
        case ho38 => (simp only [List.getElem?_toArray, List.getElem?_cons_succ, List.getElem?_cons_zero]; rfl)
        case hq38 => exact fun _ _ _ h => h
        case hw38 => rfl
        case hy38 =>
          intro W hW
          go_simp
          first | done | with_reducible rfl
        case hk38 =>
        try simp only [Act.put, List.setIfInBounds_toArray, List.set_cons_zero, List.set_cons_succ]
        refine anyK_take 1 (oi := ?oo39) ?ho39 (by kernel_rfl) (by kernel_rfl) (by kernel_rfl) (by kernel_rfl) ?hq39 ?hw39 hT0 (fun _ => trivial) (v := ?vv39) ?hy39 ?hk39
        case ho39 => (simp only [List.getElem?_toArray, List.getElem?_cons_succ, List.getElem?_cons_zero]; rfl)
        case hq39 => exact fun _ _ _ h => h
        case hw39 => rfl
        case hy39 =>
          intro W hW
          go_simp
          first | done | with_reducible rfl
        case hk39 =>
        try simp only [Act.put, List.setIfInBounds_toArray, List.set_cons_zero, List.set_cons_succ]
        refine anyK_take 2 (oi := ?oo40) ?ho40 (by kernel_rfl) (by kernel_rfl) (by kernel_rfl) (by kernel_rfl) ?hq40 ?hw40 hT0 (fun _ => trivial) (v := ?vv40) ?hy40 ?hk40
        case ho40 => (simp only [List.getElem?_toArray, List.getElem?_cons_succ, List.getElem?_cons_zero]; rfl)
        case hq40 => exact fun _ _ _ h => h
        case hw40 => rfl
        case hy40 =>
          intro W hW
          go_simp
          first | done | with_reducible rfl
        case hk40 =>
        try simp only [Act.put, List.setIfInBounds_toArray, List.set_cons_zero, List.set_cons_succ]
        refine anyK_take 3 (oi := ?oo41) ?ho41 (by kernel_rfl) (by kernel_rfl) (by kernel_rfl) (by kernel_rfl) ?hq41 ?hw41 hT0 (fun _ => trivial) (v := ?vv41) ?hy41 ?hk41
        case ho41 => (simp only [List.getElem?_toArray, List.getElem?_cons_succ, List.getElem?_cons_zero]; rfl)
        case hq41 => exact fun _ _ _ h => h
        case hw41 => rfl
        case hy41 =>
          intro W hW
          go_simp
          first | done | with_reducible rfl
        case hk41 =>
        try simp only [Act.put, List.setIfInBounds_toArray, List.set_cons_zero, List.set_cons_succ]
        refine anyK_take 4 (oi := ?oo42) ?ho42 (by kernel_rfl) (by kernel_rfl) (by kernel_rfl) (by kernel_rfl) ?hq42 ?hw42 hT0 (fun _ => trivial) (v := ?vv42) ?hy42 ?hk42
        case ho42 => (simp only [List.getElem?_toArray, List.getElem?_cons_succ, List.getElem?_cons_zero]; rfl)
        case hq42 => exact fun _ _ _ h => h
        case hw42 => rfl
        case hy42 =>
          intro W hW
          go_simp
          first | done | with_reducible rfl
        case hk42 =>
        try simp only [Act.put, List.setIfInBounds_toArray, List.set_cons_zero, List.set_cons_succ]
        refine anyK_on1 5 (by kernel_rfl) ?_
        refine anyK_one 5 (o := ?oo43) ?ho43 ?hk43
        case ho43 => (simp only [List.getElem?_toArray, List.getElem?_cons_succ, List.getElem?_cons_zero]; rfl)
        case hk43 =>
        intro K hK
        go_simp
        refine (HRE.out _ (ext_trans XF.out yy)).mono ?_
        rintro e wa1 ⟨rfl, xx⟩
        try go_wp2_with fail
        replace yy := ext_trans yy xx
        have hT1 := keepK.out _ yy
        refine hK.out _ _ hT1 (fun _ => trivial) ?_
        clear hK K
        try simp only [Act.put, List.setIfInBounds_toArray, List.set_cons_zero, List.set_cons_succ]
        refine anyK_take 6 (oi := ?oo44) ?ho44 (by kernel_rfl) (by kernel_rfl) (by kernel_rfl) (by kernel_rfl) ?hq44 ?hw44 hT1 (fun _ => trivial) (v := ?vv44) ?hy44 ?hk44
        case ho44 => (simp only [List.getElem?_toArray, List.getElem?_cons_succ, List.getElem?_cons_zero]; rfl)
        case hq44 => exact fun _ _ _ h => h
        case hw44 => rfl
        case hy44 =>
          intro W hW
          go_simp
          first | done | with_reducible rfl
        case hk44 =>
        try simp only [Act.put, List.setIfInBounds_toArray, List.set_cons_zero, List.set_cons_succ]
        refine anyK_take 7 (oi := ?oo45) ?ho45 (by kernel_rfl) (by kernel_rfl) (by kernel_rfl) (by kernel_rfl) ?hq45 ?hw45 hT1 (fun _ => trivial) (v := ?vv45) ?hy45 ?hk45
        case ho45 => (simp only [List.getElem?_toArray, List.getElem?_cons_succ, List.getElem?_cons_zero]; rfl)
        case hq45 => exact fun _ _ _ h => h
        case hw45 => rfl
        case hy45 =>
          intro W hW
          go_simp
          first | done | with_reducible rfl
        case hk45 =>
        try simp only [Act.put, List.setIfInBounds_toArray, List.set_cons_zero, List.set_cons_succ]
        refine anyK_take 8 (oi := ?oo46) ?ho46 (by kernel_rfl) (by kernel_rfl) (by kernel_rfl) (by kernel_rfl) ?hq46 ?hw46 hT1 (fun _ => trivial) (v := ?vv46) ?hy46 ?hk46
        case ho46 => (simp only [List.getElem?_toArray, List.getElem?_cons_succ, List.getElem?_cons_zero]; rfl)
        case hq46 => exact fun _ _ _ h => h
        case hw46 => rfl
        case hy46 =>
          intro W hW
          go_simp
          first | done | with_reducible rfl
        case hk46 =>
        try simp only [Act.put, List.setIfInBounds_toArray, List.set_cons_zero, List.set_cons_succ]
        refine anyK_take 9 (oi := ?oo47) ?ho47 (by kernel_rfl) (by kernel_rfl) (by kernel_rfl) (by kernel_rfl) ?hq47 ?hw47 hT1 (fun _ => trivial) (v := ?vv47) ?hy47 ?hk47
        case ho47 => (simp only [List.getElem?_toArray, List.getElem?_cons_succ, List.getElem?_cons_zero]; rfl)
        case hq47 => exact fun _ _ _ h => h
        case hw47 => rfl
        case hy47 =>
          intro W hW
          obtain ⟨z0, z1, z2, z3, z4, z5⟩ := hW
          go_simp
          first | done | with_reducible rfl
        case hk47 =>
        try simp only [Act.put, List.setIfInBounds_toArray, List.set_cons_zero, List.set_cons_succ]
        refine anyK_take 10 (oi := ?oo48) ?ho48 (by kernel_rfl) (by kernel_rfl) (by kernel_rfl) (by kernel_rfl) ?hq48 ?hw48 hT1 (fun _ => trivial) (v := ?vv48) ?hy48 ?hk48
        case ho48 => (simp only [List.getElem?_toArray, List.getElem?_cons_succ, List.getElem?_cons_zero]; rfl)
        case hq48 => exact fun _ _ _ h => h
        case hw48 => rfl
        case hy48 =>
          intro W hW
          go_simp
          first | done | with_reducible rfl
        case hk48 =>
        try simp only [Act.put, List.setIfInBounds_toArray, List.set_cons_zero, List.set_cons_succ]
        refine anyK_on1 11 (by kernel_rfl) ?_
        refine anyK_one 11 (o := ?oo49) ?ho49 ?hk49
        case ho49 => (simp only [List.getElem?_toArray, List.getElem?_cons_succ, List.getElem?_cons_zero]; rfl)
        case hk49 =>
        intro K hK
        go_simp
        refine (HPO.out _ (ext_trans XF.out yy)).mono ?_
        rintro e wa2 ⟨v8, rfl, p8, xx⟩
        try go_wp2_with fail
        replace yy := ext_trans yy xx
        have HP8 := hide p8
        clear p8
        have hT2 := keepK.out _ yy
        refine hK.out _ _ hT2 (fun _ => trivial) ?_
        clear hK K
        try simp only [Act.put, List.setIfInBounds_toArray, List.set_cons_zero, List.set_cons_succ]
        refine anyK_on1 12 (by kernel_rfl) ?_
        refine anyK_one 12 (o := ?oo50) ?ho50 ?hk50
        case ho50 => (simp only [List.getElem?_toArray, List.getElem?_cons_succ, List.getElem?_cons_zero]; rfl)
        case hk50 =>
        intro K hK
        go_simp
        refine (HSM.out _ _ _ (HPF.out.ext yy).at_ HP8.out.at_).mono ?_
        rintro e wa3 ⟨rfl, xx⟩
        try go_wp2_with fail
        replace yy := ext_trans yy xx
        have hT3 := keepK.out _ yy
        refine hK.out _ _ hT3 (fun _ => trivial) ?_
        clear hK K
        try simp only [Act.put, List.setIfInBounds_toArray, List.set_cons_zero, List.set_cons_succ]
        refine anyK_take 13 (oi := ?oo51) ?ho51 (by kernel_rfl) (by kernel_rfl) (by kernel_rfl) (by kernel_rfl) ?hq51 ?hw51 hT3 (fun _ => trivial) (v := ?vv51) ?hy51 ?hk51
        case ho51 => (simp only [List.getElem?_toArray, List.getElem?_cons_succ, List.getElem?_cons_zero]; rfl)
        case hq51 => exact fun _ _ _ h => h
        case hw51 => rfl
        case hy51 =>
          intro W hW
          go_simp
          first | done | with_reducible rfl
        case hk51 =>
        try simp only [Act.put, List.setIfInBounds_toArray, List.set_cons_zero, List.set_cons_succ]
        refine anyK_take 14 (oi := ?oo52) ?ho52 (by kernel_rfl) (by kernel_rfl) (by kernel_rfl) (by kernel_rfl) ?hq52 ?hw52 hT3 (fun _ => trivial) (v := ?vv52) ?hy52 ?hk52
        case ho52 => (simp only [List.getElem?_toArray, List.getElem?_cons_succ, List.getElem?_cons_zero]; rfl)
        case hq52 => exact fun _ _ _ h => h
        case hw52 => rfl
        case hy52 =>
          intro W hW
          go_simp
          first | done | with_reducible rfl
        case hk52 =>
        try simp only [Act.put, List.setIfInBounds_toArray, List.set_cons_zero, List.set_cons_succ]
        refine anyK_done (by kernel_rfl) ?_ _
        clear keepK hT0 hT1 hT2 hT3
        go_wp2
        go_ret
        exact ⟨rfl, ext_trans XB.out (ext_trans HXW.out (ext_trans XF.out yy))⟩
    · skip
      refine anyK_one 8 (o := ?oo54) ?ho54 ?hk54
      case ho54 => (simp only [List.getElem?_toArray, List.getElem?_cons_succ, List.getElem?_cons_zero]; rfl)
      case hk54 =>
      intro K hK
      go_simp
      have hnb0 : wr.heap.size ≤ wr.heap.size := (yy : Ext wr wr.drew).size
      have HNB0 := hide hnb0
      clear hnb0
      have KN : Hid (Blk (wr.drew.alloc (.cells #[.slice none 0 0, .slice none 0 0, .slice none 0 0, .int .i64 0, .int .i64 0] 29)) wr.heap.size 29 #[.slice none 0 0, .slice none 0 0, .slice none 0 0, .int .i64 0, .int .i64 0]) := hide (Blk.new wr.drew 29 #[.slice none 0 0, .slice none 0 0, .slice none 0 0, .int .i64 0, .int .i64 0])
      try (replace HM6 := hide (MovesAt.ext HM6.out (ext_alloc (Below.refl _ _) (.cells #[.slice none 0 0, .slice none 0 0, .slice none 0 0, .int .i64 0, .int .i64 0] 29))))
      try (replace HP7 := hide (HP7.out.ext (ext_alloc (Below.refl _ _) (.cells #[.slice none 0 0, .slice none 0 0, .slice none 0 0, .int .i64 0, .int .i64 0] 29))))
      generalize hBN : wr.heap.size = BN at *
      have HNB : Hid (wr.heap.size ≤ BN) := hide (by have h : wr.heap.size ≤ wr.heap.size := (yy : Ext wr wr.drew).size; omega)
      clear hBN HNB0
      replace yy := ext_alloc yy (.cells #[.slice none 0 0, .slice none 0 0, .slice none 0 0, .int .i64 0, .int .i64 0] 29)
      have hT1 := keepK.out _ yy
      refine hK.out _ _ hT1 (fun _ => trivial) ?_
      clear hK K
      try simp only [Act.put, List.setIfInBounds_toArray, List.set_cons_zero, List.set_cons_succ]
      refine anyK_on1 2 (by kernel_rfl) ?_
      refine anyK_one 2 (o := ?oo55) ?ho55 ?hk55
      case ho55 => (simp only [List.getElem?_toArray, List.getElem?_cons_succ, List.getElem?_cons_zero]; rfl)
      case hk55 =>
      intro K hK
      go_simp
      refine (HMV.out _ yy).mono ?_
      rintro e wm ⟨v6, rfl, own6, xx⟩
      try go_wp2_with fail
      replace yy := ext_trans yy xx
      have HM6 := hide own6.at_
      clear own6
      try (replace KN := hide (KN.out.ext xx))
      have hT2 := keepK.out _ yy
      refine hK.out _ _ hT2 (fun _ => trivial) ?_
      clear hK K
      try simp only [Act.put, List.setIfInBounds_toArray, List.set_cons_zero, List.set_cons_succ]
      refine anyK_on1 3 (by kernel_rfl) ?_
      refine anyK_one 3 (o := ?oo56) ?ho56 ?hk56
      case ho56 => (simp only [List.getElem?_toArray, List.getElem?_cons_succ, List.getElem?_cons_zero]; rfl)
      case hk56 =>
      intro K hK
      go_simp
      refine (HRN.out _ _ yy HM6.out).mono ?_
      rintro e wn2 ⟨v7, rfl, p7, xx⟩
      try go_wp2_with fail
      replace yy := ext_trans yy xx
      have HP7 := hide p7
      obtain ⟨g0, d0, g1, d1, g2, d2, rfl, -⟩ := p7
      try (replace KN := hide (KN.out.ext xx))
      have hT3 := keepK.out _ yy
      refine hK.out _ _ hT3 (fun _ => trivial) ?_
      clear hK K
      try simp only [Act.put, List.setIfInBounds_toArray, List.set_cons_zero, List.set_cons_succ]
      refine anyK_take 4 (oi := ?oo57) ?ho57 (by kernel_rfl) (by kernel_rfl) (by kernel_rfl) (by kernel_rfl) ?hq57 ?hw57 hT3 (fun _ => trivial) (v := ?vv57) ?hy57 ?hk57
      case ho57 => (simp only [List.getElem?_toArray, List.getElem?_cons_succ, List.getElem?_cons_zero]; rfl)
      case hq57 => exact fun _ _ _ h => h
      case hw57 => rfl
      case hy57 =>
        intro W hW
        go_simp
        first | done | with_reducible rfl
      case hk57 =>
      try simp only [Act.put, List.setIfInBounds_toArray, List.set_cons_zero, List.set_cons_succ]
      refine anyK_take 5 (oi := ?oo58) ?ho58 (by kernel_rfl) (by kernel_rfl) (by kernel_rfl) (by kernel_rfl) ?hq58 ?hw58 hT3 (fun _ => trivial) (v := ?vv58) ?hy58 ?hk58
      case ho58 => (simp only [List.getElem?_toArray, List.getElem?_cons_succ, List.getElem?_cons_zero]; rfl)
      case hq58 => exact fun _ _ _ h => h
      case hw58 => rfl
      case hy58 =>
        intro W hW
        go_simp
        first | done | with_reducible rfl
      case hk58 =>
      try simp only [Act.put, List.setIfInBounds_toArray, List.set_cons_zero, List.set_cons_succ]
      refine anyK_take 6 (oi := ?oo59) ?ho59 (by kernel_rfl) (by kernel_rfl) (by kernel_rfl) (by kernel_rfl) ?hq59 ?hw59 hT3 (fun _ => trivial) (v := ?vv59) ?hy59 ?hk59
      case ho59 => (simp only [List.getElem?_toArray, List.getElem?_cons_succ, List.getElem?_cons_zero]; rfl)
      case hq59 => exact fun _ _ _ h => h
      case hw59 => rfl
      case hy59 =>
        intro W hW
        go_simp
        first | done | with_reducible rfl
      case hk59 =>
      try simp only [Act.put, List.setIfInBounds_toArray, List.set_cons_zero, List.set_cons_succ]
      refine anyK_take 7 (oi := ?oo60) ?ho60 (by kernel_rfl) (by kernel_rfl) (by kernel_rfl) (by kernel_rfl) ?hq60 ?hw60 hT3 (fun _ => trivial) (v := ?vv60) ?hy60 ?hk60
      case ho60 => (simp only [List.getElem?_toArray, List.getElem?_cons_succ, List.getElem?_cons_zero]; rfl)
      case hq60 => exact fun _ _ _ h => h
      case hw60 => rfl
      case hy60 =>
        intro W hW
        go_simp
        first | done | with_reducible rfl
      case hk60 =>
      try simp only [Act.put, List.setIfInBounds_toArray, List.set_cons_zero, List.set_cons_succ]
      refine anyK_on1 9 (by kernel_rfl) ?_
      refine anyK_one 9 (o := ?oo61) ?ho61 ?hk61
      case ho61 => (simp only [List.getElem?_toArray, List.getElem?_cons_succ, List.getElem?_cons_zero]; rfl)
      case hk61 =>
      intro K hK
      have q5 := KN.out.cell
      have z5 := KN.out.frozen
      have KPF := hide (blk_set5 KN.out (u0 := .slice (some ⟨g0, 0, none⟩) P.cells.length d0) (u1 := .slice (some ⟨g1, 0, none⟩) P.hand0.length d1) (u2 := .slice (some ⟨g2, 0, none⟩) P.hand1.length d2) (u3 := .int .i64 P.turn) (u4 := .int .i64 P.quiet))
      have HPF := hide (PosI.far5 (u0 := .slice (some ⟨g0, 0, none⟩) P.cells.length d0) (u1 := .slice (some ⟨g1, 0, none⟩) P.hand0.length d1) (u2 := .slice (some ⟨g2, 0, none⟩) P.hand1.length d2) (u3 := .int .i64 P.turn) (u4 := .int .i64 P.quiet) HP7.out KN.out)
      replace yy := ext5 (u0 := .slice (some ⟨g0, 0, none⟩) P.cells.length d0) (u1 := .slice (some ⟨g1, 0, none⟩) P.hand0.length d1) (u2 := .slice (some ⟨g2, 0, none⟩) P.hand1.length d2) (u3 := .int .i64 P.turn) (u4 := .int .i64 P.quiet) yy HNB.out
      go_simp
      clear q5 z5
      have hT4 := keepK.out _ yy
      refine hK.out _ _ hT4 (fun _ => trivial) ?_
      clear hK K
      try simp only [Act.put, List.setIfInBounds_toArray, List.set_cons_zero, List.set_cons_succ]
      refine anyK_take 10 (oi := ?oo62) ?ho62 (by kernel_rfl) (by kernel_rfl) (by kernel_rfl) (by kernel_rfl) ?hq62 ?hw62 hT4 (fun _ => trivial) (v := ?vv62) ?hy62 ?hk62
      case ho62 => (simp only [List.getElem?_toArray, List.getElem?_cons_succ, List.getElem?_cons_zero]; rfl)
      case hq62 => exact fun _ _ _ h => h
      case hw62 => rfl
      case hy62 =>
        intro W hW
        go_simp
        first | done | with_reducible rfl
      case hk62 =>
      try simp only [Act.put, List.setIfInBounds_toArray, List.set_cons_zero, List.set_cons_succ]
      refine anyK_take 11 (oi := ?oo63) ?ho63 (by kernel_rfl) (by kernel_rfl) (by kernel_rfl) (by kernel_rfl) ?hq63 ?hw63 hT4 (fun _ => trivial) (v := ?vv63) ?hy63 ?hk63
      case ho63 => (simp only [List.getElem?_toArray, List.getElem?_cons_succ, List.getElem?_cons_zero]; rfl)
      case hq63 => exact fun _ _ _ h => h
      case hw63 => rfl
      case hy63 =>
        intro W hW
        go_simp
        first | done | with_reducible rfl
      case hk63 =>
      try simp only [Act.put, List.setIfInBounds_toArray, List.set_cons_zero, List.set_cons_succ]
      refine anyK_done (by kernel_rfl) ?_ _
      clear keepK hT0 hT1 hT2 hT3 hT4
      have XF := hide yy
      clear yy KN HNB HP7 HM6
      generalize (((((wn2.setCell ⟨BN, 0, none⟩ (.slice (some ⟨g0, 0, none⟩) P.cells.length d0)).setCell ⟨BN, 1, none⟩ (.slice (some ⟨g1, 0, none⟩) P.hand0.length d1)).setCell ⟨BN, 2, none⟩ (.slice (some ⟨g2, 0, none⟩) P.hand1.length d2)).setCell ⟨BN, 3, none⟩ (.int .i64 P.turn)).setCell ⟨BN, 4, none⟩ (.int .i64 P.quiet)) = wf at *
      go_upto_region 21 with fail
      have keepK := hide (fun W (h : Ext wf W) => (show (fun W => W.cell? ⟨BN, 0, none⟩ = some (.slice (some ⟨g0, 0, none⟩) P.cells.length d0) ∧ W.cell? ⟨BN, 1, none⟩ = some (.slice (some ⟨g1, 0, none⟩) P.hand0.length d1) ∧ W.cell? ⟨BN, 2, none⟩ = some (.slice (some ⟨g2, 0, none⟩) P.hand1.length d2) ∧ W.cell? ⟨BN, 3, none⟩ = some (.int .i64 P.turn) ∧ W.cell? ⟨BN, 4, none⟩ = some (.int .i64 P.quiet) ∧ Ext wf W) W from ⟨(KPF.out.ext h).cell 0, (KPF.out.ext h).cell 1, (KPF.out.ext h).cell 2, (KPF.out.ext h).cell 3, (KPF.out.ext h).cell 4, h⟩))
      have yy : Ext wf wf.drew := Below.drew (Below.refl _ _)
      refine region_K (fun W => W.cell? ⟨BN, 0, none⟩ = some (.slice (some ⟨g0, 0, none⟩) P.cells.length d0) ∧ W.cell? ⟨BN, 1, none⟩ = some (.slice (some ⟨g1, 0, none⟩) P.hand0.length d1) ∧ W.cell? ⟨BN, 2, none⟩ = some (.slice (some ⟨g2, 0, none⟩) P.hand1.length d2) ∧ W.cell? ⟨BN, 3, none⟩ = some (.int .i64 P.turn) ∧ W.cell? ⟨BN, 4, none⟩ = some (.int .i64 P.quiet) ∧ Ext wf W) (fun _ => True) [] (by kernel_rfl) ?_
      have hT0 := keepK.out _ yy
      refine anyK_take 0 (oi := ?oo64) ?ho64 (by kernel_rfl) (by kernel_rfl) (by kernel_rfl) (by kernel_rfl) ?hq64 ?hw64 hT0 (fun _ => trivial) (v := ?vv64) ?hy64 ?hk64
      case ho64 => (simp only [List.getElem?_toArray, List.getElem?_cons_succ, List.getElem?_cons_zero]; rfl)
      case hq64 => exact fun _ _ _ h => h
      case hw64 => rfl
      case hy64 =>
        intro W hW
        go_simp
        first | done | with_reducible rfl
      case hk64 =>
      try simp only [Act.put, List.setIfInBounds_toArray, List.set_cons_zero, List.set_cons_succ]
      refine anyK_take 1 (oi := ?oo65) ?ho65 (by kernel_rfl) (by kernel_rfl) (by kernel_rfl) (by kernel_rfl) ?hq65 ?hw65 hT0 (fun _ => trivial) (v := ?vv65) ?hy65 ?hk65
      case ho65 => (simp only [List.getElem?_toArray, List.getElem?_cons_succ, List.getElem?_cons_zero]; rfl)
      case hq65 => exact fun _ _ _ h => h
      case hw65 => rfl
      case hy65 =>
        intro W hW
        go_simp
        first | done | with_reducible rfl
      case hk65 =>
      try simp only [Act.put, List.setIfInBounds_toArray, List.set_cons_zero, List.set_cons_succ]
      refine anyK_take 2 (oi := ?oo66) ?ho66 (by kernel_rfl) (by kernel_rfl) (by kernel_rfl) (by kernel_rfl) ?hq66 ?hw66 hT0 (fun _ => trivial) (v := ?vv66) ?hy66 ?hk66
      case ho66 => (simp only [List.getElem?_toArray, List.getElem?_cons_succ, List.getElem?_cons_zero]; rfl)
      case hq66 => exact fun _ _ _ h => h
      case hw66 => rfl
      case hy66 =>
        intro W hW
        go_simp
        first | done | with_reducible rfl
      case hk66 =>
      try simp only [Act.put, List.setIfInBounds_toArray, List.set_cons_zero, List.set_cons_succ]
      refine anyK_take 3 (oi := ?oo67) ?ho67 (by kernel_rfl) (by kernel_rfl) (by kernel_rfl) (by kernel_rfl) ?hq67 ?hw67 hT0 (fun _ => trivial) (v := ?vv67) ?hy67 ?hk67
      case ho67 => (simp only [List.getElem?_toArray, List.getElem?_cons_succ, List.getElem?_cons_zero]; rfl)
      case hq67 => exact fun _ _ _ h => h
      case hw67 => rfl
      case hy67 =>
        intro W hW
        go_simp
        first | done | with_reducible rfl
      case hk67 =>
      try simp only [Act.put, List.setIfInBounds_toArray, List.set_cons_zero, List.set_cons_succ]
      refine anyK_take 4 (oi := ?oo68) ?ho68 (by kernel_rfl) (by kernel_rfl) (by kernel_rfl) (by kernel_rfl) ?hq68 ?hw68 hT0 (fun _ => trivial) (v := ?vv68) ?hy68 ?hk68
      case ho68 => (simp only [List.getElem?_toArray, List.getElem?_cons_succ, List.getElem?_cons_zero]; rfl)
      case hq68 => exact fun _ _ _ h => h
      case hw68 => rfl
      case hy68 =>
        intro W hW
        go_simp
        first | done | with_reducible rfl
      case hk68 =>
      try simp only [Act.put, List.setIfInBounds_toArray, List.set_cons_zero, List.set_cons_succ]
      refine anyK_on1 5 (by kernel_rfl) ?_
      refine anyK_one 5 (o := ?oo69) ?ho69 ?hk69
      case ho69 => (simp only [List.getElem?_toArray, List.getElem?_cons_succ, List.getElem?_cons_zero]; rfl)
      case hk69 =>
      intro K hK
      go_simp
      refine (HRE.out _ (ext_trans XF.out yy)).mono ?_
      rintro e wa1 ⟨rfl, xx⟩
      try go_wp2_with fail
      replace yy := ext_trans yy xx
      have hT1 := keepK.out _ yy
      refine hK.out _ _ hT1 (fun _ => trivial) ?_
      clear hK K
      try simp only [Act.put, List.setIfInBounds_toArray, List.set_cons_zero, List.set_cons_succ]
      refine anyK_take 6 (oi := ?oo70) ?ho70 (by kernel_rfl) (by kernel_rfl) (by kernel_rfl) (by kernel_rfl) ?hq70 ?hw70 hT1 (fun _ => trivial) (v := ?vv70) ?hy70 ?hk70
      case ho70 => (simp only [List.getElem?_toArray, List.getElem?_cons_succ, List.getElem?_cons_zero]; rfl)
      case hq70 => exact fun _ _ _ h => h
      case hw70 => rfl
      case hy70 =>
        intro W hW
        go_simp
        first | done | with_reducible rfl
      case hk70 =>
      try simp only [Act.put, List.setIfInBounds_toArray, List.set_cons_zero, List.set_cons_succ]
      refine anyK_take 7 (oi := ?oo71) ?ho71 (by kernel_rfl) (by kernel_rfl) (by kernel_rfl) (by kernel_rfl) ?hq71 ?hw71 hT1 (fun _ => trivial) (v := ?vv71) ?hy71 ?hk71
      case ho71 => (simp only [List.getElem?_toArray, List.getElem?_cons_succ, List.getElem?_cons_zero]; rfl)
      case hq71 => exact fun _ _ _ h => h
      case hw71 => rfl
      case hy71 =>
        intro W hW
        go_simp
        first | done | with_reducible rfl
      case hk71 =>
      try simp only [Act.put, List.setIfInBounds_toArray, List.set_cons_zero, List.set_cons_succ]
      refine anyK_take 8 (oi := ?oo72) ?ho72 (by kernel_rfl) (by kernel_rfl) (by kernel_rfl) (by kernel_rfl) ?hq72 ?hw72 hT1 (fun _ => trivial) (v := ?vv72) ?hy72 ?hk72
      case ho72 => (simp only [List.getElem?_toArray, List.getElem?_cons_succ, List.getElem?_cons_zero]; rfl)
      case hq72 => exact fun _ _ _ h => h
      case hw72 => rfl
      case hy72 =>
        intro W hW
        go_simp
        first | done | with_reducible rfl
      case hk72 =>
      try simp only [Act.put, List.setIfInBounds_toArray, List.set_cons_zero, List.set_cons_succ]
      refine anyK_take 9 (oi := ?oo73) ?ho73 (by kernel_rfl) (by kernel_rfl) (by kernel_rfl) (by kernel_rfl) ?hq73 ?hw73 hT1 (fun _ => trivial) (v := ?vv73) ?hy73 ?hk73
      case ho73 => (simp only [List.getElem?_toArray, List.getElem?_cons_succ, List.getElem?_cons_zero]; rfl)
      case hq73 => exact fun _ _ _ h => h
      case hw73 => rfl
      case hy73 =>
        intro W hW
        obtain ⟨z0, z1, z2, z3, z4, z5⟩ := hW
        go_simp
        first | done | with_reducible rfl
      case hk73 =>
      try simp only [Act.put, List.setIfInBounds_toArray, List.set_cons_zero, List.set_cons_succ]
      refine anyK_take 10 (oi := ?oo74) ?ho74 (by kernel_rfl) (by kernel_rfl) (by kernel_rfl) (by kernel_rfl) ?hq74 ?hw74 hT1 (fun _ => trivial) (v := ?vv74) ?hy74 ?hk74
      case ho74 => (simp only [List.getElem?_toArray, List.getElem?_cons_succ, List.getElem?_cons_zero]; rfl)
      case hq74 => exact fun _ _ _ h => h
      case hw74 => rfl
      case hy74 =>
        intro W hW
        go_simp
        first | done | with_reducible rfl
      case hk74 =>
      try simp only [Act.put, List.setIfInBounds_toArray, List.set_cons_zero, List.set_cons_succ]
      refine anyK_on1 11 (by kernel_rfl) ?_
      refine anyK_one 11 (o := ?oo75) ?ho75 ?hk75
      case ho75 => (simp only [List.getElem?_toArray, List.getElem?_cons_succ, List.getElem?_cons_zero]; rfl)
      case hk75 =>
      intro K hK
      go_simp
      refine (HPO.out _ (ext_trans XF.out yy)).mono ?_
      rintro e wa2 ⟨v8, rfl, p8, xx⟩
      try go_wp2_with fail
      replace yy := ext_trans yy xx
      have HP8 := hide p8
      clear p8
      have hT2 := keepK.out _ yy
      refine hK.out _ _ hT2 (fun _ => trivial) ?_
      clear hK K
      try simp only [Act.put, List.setIfInBounds_toArray, List.set_cons_zero, List.set_cons_succ]
      refine anyK_on1 12 (by kernel_rfl) ?_
      refine anyK_one 12 (o := ?oo76) ?ho76 ?hk76
      case ho76 => (simp only [List.getElem?_toArray, List.getElem?_cons_succ, List.getElem?_cons_zero]; rfl)
      case hk76 =>
      intro K hK
      go_simp
      refine (HSM.out _ _ _ (HPF.out.ext yy).at_ HP8.out.at_).mono ?_
      rintro e wa3 ⟨rfl, xx⟩
      try go_wp2_with fail
      replace yy := ext_trans yy xx
      have hT3 := keepK.out _ yy
      refine hK.out _ _ hT3 (fun _ => trivial) ?_
      clear hK K
      try simp only [Act.put, List.setIfInBounds_toArray, List.set_cons_zero, List.set_cons_succ]
      refine anyK_take 13 (oi := ?oo77) ?ho77 (by kernel_rfl) (by kernel_rfl) (by kernel_rfl) (by kernel_rfl) ?hq77 ?hw77 hT3 (fun _ => trivial) (v := ?vv77) ?hy77 ?hk77
      case ho77 => (simp only [List.getElem?_toArray, List.getElem?_cons_succ, List.getElem?_cons_zero]; rfl)
      case hq77 => exact fun _ _ _ h => h
      case hw77 => rfl
      case hy77 =>
        intro W hW
        go_simp
        first | done | with_reducible rfl
      case hk77 =>
      try simp only [Act.put, List.setIfInBounds_toArray, List.set_cons_zero, List.set_cons_succ]
      refine anyK_take 14 (oi := ?oo78) ?ho78 (by kernel_rfl) (by kernel_rfl) (by kernel_rfl) (by kernel_rfl) ?hq78 ?hw78 hT3 (fun _ => trivial) (v := ?vv78) ?hy78 ?hk78
      case ho78 => (simp only [List.getElem?_toArray, List.getElem?_cons_succ, List.getElem?_cons_zero]; rfl)
      case hq78 => exact fun _ _ _ h => h
      case hw78 => rfl
      case hy78 =>
        intro W hW
        go_simp
        first | done | with_reducible rfl
      case hk78 =>
      try simp only [Act.put, List.setIfInBounds_toArray, List.set_cons_zero, List.set_cons_succ]
      refine anyK_done (by kernel_rfl) ?_ _
      clear keepK hT0 hT1 hT2 hT3
      go_wp2
      go_ret
      exact ⟨rfl, ext_trans XB.out (ext_trans HXW.out (ext_trans XF.out yy))⟩
set_option maxHeartbeats 8000000 in
set_option maxRecDepth 100000 in
theorem plainReplays_zero (v : Value) (R : RulesM) (A : Option Addr) (n c : Nat) (z : List Int) (w : World) (hR : RulesAt w v R) (hV : Valid R) (x : Addr) (hA : A = some x) (hn : n = 0) (hc : c = 0) :
    Calls Try.prog 12 #[v, .slice A n c] w fun e w' => e = .returned (.bool true) ∧ Ext w w' := by
  have HNW := hide (fun W (v1 : Value) (h1 : RulesAt W v1 R) => New_yes R v1 W h1 hV)
  have HV := hide hV
  clear hV
  obtain ⟨q, hq⟩ : ∃ q : Int, min (n : Int) 30 = q := ⟨_, rfl⟩
  have hmin : ∀ W ats ty, (Builtin.min_ ats ty #[.int .i64 (n : Int), .int .i64 30]).run Try.prog W = .ok (.int .i64 q) W := fun W ats ty => by rw [← hq]; exact run_min3 W ats ty n 30
  subst hA hn hc
  obtain rfl : q = 0 := by omega
  clear hq
  have hR0 := hR
  obtain ⟨pA, pc, sA, sc, eA, ec, rfl, -⟩ := hR0
  go_enter Try.func12, Try.ntmps12
  go_wp2_with fail
  obtain ⟨xa, kR⟩ := blks1 w #[.string R.name, .int .i64 R.width, .int .i64 R.height, .slice pA R.pieces.length pc, .slice sA R.start.length sc, .bool R.falls, .bool R.keeps, .slice eA R.ends.length ec, .int .i64 R.blocked, .int .i64 R.quiet, .int .i64 R.rept] 26
  replace hR := hR.ext xa
  have X := xa
  clear xa
  generalize (w.alloc (.cells #[.string R.name, .int .i64 R.width, .int .i64 R.height, .slice pA R.pieces.length pc, .slice sA R.start.length sc, .bool R.falls, .bool R.keeps, .slice eA R.ends.length ec, .int .i64 R.blocked, .int .i64 R.quiet, .int .i64 R.rept] 26)) = w2 at *
  generalize w.heap.size = BR at *
  refine (played_any _).mono ?_
  rintro e w3 ⟨rfl, x⟩
  replace hR := hR.ext x
  replace kR := kR.ext x
  replace X := ext_trans X x
  clear x
  go_wp2_with fail
  refine (plays_any _).mono ?_
  rintro e w4 ⟨rfl, x⟩
  replace hR := hR.ext x
  replace kR := kR.ext x
  replace X := ext_trans X x
  clear x
  have fR := kR.cell
  go_wp2_with fail
  have HR := hide hR
  have KR := hide kR
  have XB := hide X
  refine (HNW.out _ _ hR).mono ?_
  rintro e wn ⟨BG, rfl, hG⟩
  have HG := hide hG
  clear hG fR hR kR X HNW
  go_wp2
  go_loopw [39] (fun i wr => ∃ (k : Nat) (ps : List PosM) (ms : List MoveM), k ≤ 0 ∧ i = .int .i64 k ∧ GameAt w4 wr BG R ps ms ∧ Hid (Played R ps ms ∧ ms.length ≤ k)) (fun i _ => 0 - (intOf i).toNat)
  case atStart => exact ⟨0, _, _, Nat.zero_le _, rfl, HG.out, hide ⟨played_nil R, Nat.le_refl _⟩⟩
  case round =>
    clear HG
    obtain ⟨k, ps, ms, hk, rfl, hG, hP⟩ := hrel
    have HPD := hP
    obtain ⟨P, hP1, hP2⟩ := hP.out.1.last
    have hl : ps.length ≤ 100000 := by have := hP.out.1.len; have := hP.out.1.bd; omega
    have hlm : ms.length ≤ 100000 := by have := hP.out.1.bd; omega
    have hS := hP.out.1.sound HV.out
    have HSP := hide (hS P (last_mem hP2))
    have HGA := hide hG
    have HPO := hide (fun W (x : Ext wr W) => GPosition_any (hG.ext x) (by omega) (fit_of HV.out hS) hP2)
    have HRE := hide (fun W (x : Ext wr W) => GResult_any (hG.ext x) (by omega) HV.out hS hP2)
    have HRr := hide (HR.out.ext hG.old)
    have KRr := hide (KR.out.ext hG.old)
    have HXW := hide hG.old
    obtain rfl : k = 0 := by omega
    have HMV := hide (fun W (x : Ext wr W) => GMoves_any (hG.ext x) hlm)
    have HRN := hide (fun (u : Value) W (x : Ext wr W) (h : MovesAt W u ms) => Run_yes R _ u ps ms P W (HRr.out.ext x) HV.out h hP.out.1 hP2)
    have HFT := fit_of HV.out hS P (last_mem hP2)
    have HSM := hide (fun W (v1 v2 : Value) (h1 : PosAt W v1 P) (h2 : PosAt W v2 P) => same_yes P v1 v2 W h1 h2 HFT.2.2.2.1 HFT.2.2.2.2.1 HFT.2.2.2.2.2)
    clear hG hP hP1 hP2 hl hS hlm HFT
    generalize resultG R ps P = G at *
    go_upto_region 20 with fail
    have keepK := hide (fun W (h : Ext wr W) => (show (fun W => W.cell? ⟨BR, 0, none⟩ = some (.string R.name) ∧ W.cell? ⟨BR, 1, none⟩ = some (.int .i64 R.width) ∧ W.cell? ⟨BR, 2, none⟩ = some (.int .i64 R.height) ∧ W.cell? ⟨BR, 3, none⟩ = some (.slice pA R.pieces.length pc) ∧ W.cell? ⟨BR, 4, none⟩ = some (.slice sA R.start.length sc) ∧ W.cell? ⟨BR, 5, none⟩ = some (.bool R.falls) ∧ W.cell? ⟨BR, 6, none⟩ = some (.bool R.keeps) ∧ W.cell? ⟨BR, 7, none⟩ = some (.slice eA R.ends.length ec) ∧ W.cell? ⟨BR, 8, none⟩ = some (.int .i64 R.blocked) ∧ W.cell? ⟨BR, 9, none⟩ = some (.int .i64 R.quiet) ∧ W.cell? ⟨BR, 10, none⟩ = some (.int .i64 R.rept) ∧ Ext wr W) W from ⟨(KRr.out.ext h).cell 0, (KRr.out.ext h).cell 1, (KRr.out.ext h).cell 2, (KRr.out.ext h).cell 3, (KRr.out.ext h).cell 4, (KRr.out.ext h).cell 5, (KRr.out.ext h).cell 6, (KRr.out.ext h).cell 7, (KRr.out.ext h).cell 8, (KRr.out.ext h).cell 9, (KRr.out.ext h).cell 10, h⟩))
    have yy : Ext wr wr.drew := Below.drew (Below.refl _ _)
    refine region_K (fun W => W.cell? ⟨BR, 0, none⟩ = some (.string R.name) ∧ W.cell? ⟨BR, 1, none⟩ = some (.int .i64 R.width) ∧ W.cell? ⟨BR, 2, none⟩ = some (.int .i64 R.height) ∧ W.cell? ⟨BR, 3, none⟩ = some (.slice pA R.pieces.length pc) ∧ W.cell? ⟨BR, 4, none⟩ = some (.slice sA R.start.length sc) ∧ W.cell? ⟨BR, 5, none⟩ = some (.bool R.falls) ∧ W.cell? ⟨BR, 6, none⟩ = some (.bool R.keeps) ∧ W.cell? ⟨BR, 7, none⟩ = some (.slice eA R.ends.length ec) ∧ W.cell? ⟨BR, 8, none⟩ = some (.int .i64 R.blocked) ∧ W.cell? ⟨BR, 9, none⟩ = some (.int .i64 R.quiet) ∧ W.cell? ⟨BR, 10, none⟩ = some (.int .i64 R.rept) ∧ Ext wr W) (fun _ => True) [] (by kernel_rfl) ?_
    have hT0 := keepK.out _ yy
    refine anyK_take 0 (oi := ?oo80) ?ho80 (by kernel_rfl) (by kernel_rfl) (by kernel_rfl) (by kernel_rfl) ?hq80 ?hw80 hT0 (fun _ => trivial) (v := ?vv80) ?hy80 ?hk80
    case ho80 => (simp only [List.getElem?_toArray, List.getElem?_cons_succ, List.getElem?_cons_zero]; rfl)
    case hq80 => exact fun _ _ _ h => h
    case hw80 => rfl
    case hy80 =>
      intro W hW
      obtain ⟨z0, z1, z2, z3, z4, z5, z6, z7, z8, z9, z10, z11⟩ := hW
      go_simp
      first | done | with_reducible rfl
    case hk80 =>
    try simp only [Act.put, List.setIfInBounds_toArray, List.set_cons_zero, List.set_cons_succ]
    refine anyK_take 1 (oi := ?oo81) ?ho81 (by kernel_rfl) (by kernel_rfl) (by kernel_rfl) (by kernel_rfl) ?hq81 ?hw81 hT0 (fun _ => trivial) (v := ?vv81) ?hy81 ?hk81
    case ho81 => (simp only [List.getElem?_toArray, List.getElem?_cons_succ, List.getElem?_cons_zero]; rfl)
    case hq81 => exact fun _ _ _ h => h
    case hw81 => rfl
    case hy81 =>
      intro W hW
      go_simp
      first | done | with_reducible rfl
    case hk81 =>
    try simp only [Act.put, List.setIfInBounds_toArray, List.set_cons_zero, List.set_cons_succ]
    refine anyK_on2 2 8 (by kernel_rfl) ?_ ?_
    · skip
      refine anyK_one 2 (o := ?oo82) ?ho82 ?hk82
      case ho82 => (simp only [List.getElem?_toArray, List.getElem?_cons_succ, List.getElem?_cons_zero]; rfl)
      case hk82 =>
      intro K hK
      go_simp
      refine (HMV.out _ yy).mono ?_
      rintro e wm ⟨v6, rfl, own6, xx⟩
      try go_wp2_with fail
      replace yy := ext_trans yy xx
      have HM6 := hide own6.at_
      clear own6
      try (replace KN := hide (KN.out.ext xx))
      have hT1 := keepK.out _ yy
      refine hK.out _ _ hT1 (fun _ => trivial) ?_
      clear hK K
      try simp only [Act.put, List.setIfInBounds_toArray, List.set_cons_zero, List.set_cons_succ]
      refine anyK_on2 3 8 (by kernel_rfl) ?_ ?_
      · skip
        refine anyK_one 3 (o := ?oo83) ?ho83 ?hk83
        case ho83 => (simp only [List.getElem?_toArray, List.getElem?_cons_succ, List.getElem?_cons_zero]; rfl)
        case hk83 =>
        intro K hK
        go_simp
        refine (HRN.out _ _ yy HM6.out).mono ?_
        rintro e wn2 ⟨v7, rfl, p7, xx⟩
        try go_wp2_with fail
        replace yy := ext_trans yy xx
        have HP7 := hide p7
        obtain ⟨g0, d0, g1, d1, g2, d2, rfl, -⟩ := p7
        try (replace KN := hide (KN.out.ext xx))
        have hT2 := keepK.out _ yy
        refine hK.out _ _ hT2 (fun _ => trivial) ?_
        clear hK K
        try simp only [Act.put, List.setIfInBounds_toArray, List.set_cons_zero, List.set_cons_succ]
        refine anyK_take 4 (oi := ?oo84) ?ho84 (by kernel_rfl) (by kernel_rfl) (by kernel_rfl) (by kernel_rfl) ?hq84 ?hw84 hT2 (fun _ => trivial) (v := ?vv84) ?hy84 ?hk84
        case ho84 => (simp only [List.getElem?_toArray, List.getElem?_cons_succ, List.getElem?_cons_zero]; rfl)
        case hq84 => exact fun _ _ _ h => h
        case hw84 => rfl
        case hy84 =>
          intro W hW
          go_simp
          first | done | with_reducible rfl
        case hk84 =>
        try simp only [Act.put, List.setIfInBounds_toArray, List.set_cons_zero, List.set_cons_succ]
        refine anyK_take 5 (oi := ?oo85) ?ho85 (by kernel_rfl) (by kernel_rfl) (by kernel_rfl) (by kernel_rfl) ?hq85 ?hw85 hT2 (fun _ => trivial) (v := ?vv85) ?hy85 ?hk85
        case ho85 => (simp only [List.getElem?_toArray, List.getElem?_cons_succ, List.getElem?_cons_zero]; rfl)
        case hq85 => exact fun _ _ _ h => h
        case hw85 => rfl
        case hy85 =>
          intro W hW
          go_simp
          first | done | with_reducible rfl
        case hk85 =>
        try simp only [Act.put, List.setIfInBounds_toArray, List.set_cons_zero, List.set_cons_succ]
        refine anyK_take 6 (oi := ?oo86) ?ho86 (by kernel_rfl) (by kernel_rfl) (by kernel_rfl) (by kernel_rfl) ?hq86 ?hw86 hT2 (fun _ => trivial) (v := ?vv86) ?hy86 ?hk86
        case ho86 => (simp only [List.getElem?_toArray, List.getElem?_cons_succ, List.getElem?_cons_zero]; rfl)
        case hq86 => exact fun _ _ _ h => h
        case hw86 => rfl
        case hy86 =>
          intro W hW
          go_simp
          first | done | with_reducible rfl
        case hk86 =>
        try simp only [Act.put, List.setIfInBounds_toArray, List.set_cons_zero, List.set_cons_succ]
        refine anyK_take 7 (oi := ?oo87) ?ho87 (by kernel_rfl) (by kernel_rfl) (by kernel_rfl) (by kernel_rfl) ?hq87 ?hw87 hT2 (fun _ => trivial) (v := ?vv87) ?hy87 ?hk87
        case ho87 => (simp only [List.getElem?_toArray, List.getElem?_cons_succ, List.getElem?_cons_zero]; rfl)
        case hq87 => exact fun _ _ _ h => h
        case hw87 => rfl
        case hy87 =>
          intro W hW
          go_simp
          first | done | with_reducible rfl
        case hk87 =>
        try simp only [Act.put, List.setIfInBounds_toArray, List.set_cons_zero, List.set_cons_succ]
        refine anyK_on1 8 (by kernel_rfl) ?_
        refine anyK_one 8 (o := ?oo88) ?ho88 ?hk88
        case ho88 => (simp only [List.getElem?_toArray, List.getElem?_cons_succ, List.getElem?_cons_zero]; rfl)
        case hk88 =>
        intro K hK
        go_simp
        have hnb0 : wr.heap.size ≤ wn2.heap.size := (yy : Ext wr wn2).size
        have HNB0 := hide hnb0
        clear hnb0
        have KN : Hid (Blk (wn2.alloc (.cells #[.slice none 0 0, .slice none 0 0, .slice none 0 0, .int .i64 0, .int .i64 0] 29)) wn2.heap.size 29 #[.slice none 0 0, .slice none 0 0, .slice none 0 0, .int .i64 0, .int .i64 0]) := hide (Blk.new wn2 29 #[.slice none 0 0, .slice none 0 0, .slice none 0 0, .int .i64 0, .int .i64 0])
        try (replace HM6 := hide (MovesAt.ext HM6.out (ext_alloc (Below.refl _ _) (.cells #[.slice none 0 0, .slice none 0 0, .slice none 0 0, .int .i64 0, .int .i64 0] 29))))
        try (replace HP7 := hide (HP7.out.ext (ext_alloc (Below.refl _ _) (.cells #[.slice none 0 0, .slice none 0 0, .slice none 0 0, .int .i64 0, .int .i64 0] 29))))
        generalize hBN : wn2.heap.size = BN at *
        have HNB : Hid (wr.heap.size ≤ BN) := hide (by have h : wr.heap.size ≤ wn2.heap.size := (yy : Ext wr wn2).size; omega)
        clear hBN HNB0
        replace yy := ext_alloc yy (.cells #[.slice none 0 0, .slice none 0 0, .slice none 0 0, .int .i64 0, .int .i64 0] 29)
        have hT3 := keepK.out _ yy
        refine hK.out _ _ hT3 (fun _ => trivial) ?_
        clear hK K
        try simp only [Act.put, List.setIfInBounds_toArray, List.set_cons_zero, List.set_cons_succ]
        refine anyK_on1 9 (by kernel_rfl) ?_
        refine anyK_one 9 (o := ?oo89) ?ho89 ?hk89
        case ho89 => (simp only [List.getElem?_toArray, List.getElem?_cons_succ, List.getElem?_cons_zero]; rfl)
        case hk89 =>
        intro K hK
        have q5 := KN.out.cell
        have z5 := KN.out.frozen
        have KPF := hide (blk_set5 KN.out (u0 := .slice (some ⟨g0, 0, none⟩) P.cells.length d0) (u1 := .slice (some ⟨g1, 0, none⟩) P.hand0.length d1) (u2 := .slice (some ⟨g2, 0, none⟩) P.hand1.length d2) (u3 := .int .i64 P.turn) (u4 := .int .i64 P.quiet))
        have HPF := hide (PosI.far5 (u0 := .slice (some ⟨g0, 0, none⟩) P.cells.length d0) (u1 := .slice (some ⟨g1, 0, none⟩) P.hand0.length d1) (u2 := .slice (some ⟨g2, 0, none⟩) P.hand1.length d2) (u3 := .int .i64 P.turn) (u4 := .int .i64 P.quiet) HP7.out KN.out)
        replace yy := ext5 (u0 := .slice (some ⟨g0, 0, none⟩) P.cells.length d0) (u1 := .slice (some ⟨g1, 0, none⟩) P.hand0.length d1) (u2 := .slice (some ⟨g2, 0, none⟩) P.hand1.length d2) (u3 := .int .i64 P.turn) (u4 := .int .i64 P.quiet) yy HNB.out
        go_simp
        clear q5 z5
        have hT4 := keepK.out _ yy
        refine hK.out _ _ hT4 (fun _ => trivial) ?_
        clear hK K
        try simp only [Act.put, List.setIfInBounds_toArray, List.set_cons_zero, List.set_cons_succ]
        refine anyK_take 10 (oi := ?oo90) ?ho90 (by kernel_rfl) (by kernel_rfl) (by kernel_rfl) (by kernel_rfl) ?hq90 ?hw90 hT4 (fun _ => trivial) (v := ?vv90) ?hy90 ?hk90
        case ho90 => (simp only [List.getElem?_toArray, List.getElem?_cons_succ, List.getElem?_cons_zero]; rfl)
        case hq90 => exact fun _ _ _ h => h
        case hw90 => rfl
        case hy90 =>
          intro W hW
          go_simp
          first | done | with_reducible rfl
        case hk90 =>
        try simp only [Act.put, List.setIfInBounds_toArray, List.set_cons_zero, List.set_cons_succ]
        refine anyK_take 11 (oi := ?oo91) ?ho91 (by kernel_rfl) (by kernel_rfl) (by kernel_rfl) (by kernel_rfl) ?hq91 ?hw91 hT4 (fun _ => trivial) (v := ?vv91) ?hy91 ?hk91
        case ho91 => (simp only [List.getElem?_toArray, List.getElem?_cons_succ, List.getElem?_cons_zero]; rfl)
        case hq91 => exact fun _ _ _ h => h
        case hw91 => rfl
        case hy91 =>
          intro W hW
          go_simp
          first | done | with_reducible rfl
        case hk91 =>
        try simp only [Act.put, List.setIfInBounds_toArray, List.set_cons_zero, List.set_cons_succ]
        refine anyK_done (by kernel_rfl) ?_ _
        clear keepK hT0 hT1 hT2 hT3 hT4
        have XF := hide yy
        clear yy KN HNB HP7 HM6
        generalize ((((((wn2.alloc (.cells #[.slice none 0 0, .slice none 0 0, .slice none 0 0, .int .i64 0, .int .i64 0] 29)).setCell ⟨BN, 0, none⟩ (.slice (some ⟨g0, 0, none⟩) P.cells.length d0)).setCell ⟨BN, 1, none⟩ (.slice (some ⟨g1, 0, none⟩) P.hand0.length d1)).setCell ⟨BN, 2, none⟩ (.slice (some ⟨g2, 0, none⟩) P.hand1.length d2)).setCell ⟨BN, 3, none⟩ (.int .i64 P.turn)).setCell ⟨BN, 4, none⟩ (.int .i64 P.quiet)) = wf at *
        go_upto_region 21 with fail
        have keepK := hide (fun W (h : Ext wf W) => (show (fun W => W.cell? ⟨BN, 0, none⟩ = some (.slice (some ⟨g0, 0, none⟩) P.cells.length d0) ∧ W.cell? ⟨BN, 1, none⟩ = some (.slice (some ⟨g1, 0, none⟩) P.hand0.length d1) ∧ W.cell? ⟨BN, 2, none⟩ = some (.slice (some ⟨g2, 0, none⟩) P.hand1.length d2) ∧ W.cell? ⟨BN, 3, none⟩ = some (.int .i64 P.turn) ∧ W.cell? ⟨BN, 4, none⟩ = some (.int .i64 P.quiet) ∧ Ext wf W) W from ⟨(KPF.out.ext h).cell 0, (KPF.out.ext h).cell 1, (KPF.out.ext h).cell 2, (KPF.out.ext h).cell 3, (KPF.out.ext h).cell 4, h⟩))
        have yy : Ext wf wf.drew := Below.drew (Below.refl _ _)
        refine region_K (fun W => W.cell? ⟨BN, 0, none⟩ = some (.slice (some ⟨g0, 0, none⟩) P.cells.length d0) ∧ W.cell? ⟨BN, 1, none⟩ = some (.slice (some ⟨g1, 0, none⟩) P.hand0.length d1) ∧ W.cell? ⟨BN, 2, none⟩ = some (.slice (some ⟨g2, 0, none⟩) P.hand1.length d2) ∧ W.cell? ⟨BN, 3, none⟩ = some (.int .i64 P.turn) ∧ W.cell? ⟨BN, 4, none⟩ = some (.int .i64 P.quiet) ∧ Ext wf W) (fun _ => True) [] (by kernel_rfl) ?_
        have hT0 := keepK.out _ yy
        refine anyK_take 0 (oi := ?oo92) ?ho92 (by kernel_rfl) (by kernel_rfl) (by kernel_rfl) (by kernel_rfl) ?hq92 ?hw92 hT0 (fun _ => trivial) (v := ?vv92) ?hy92 ?hk92
        case ho92 => (simp only [List.getElem?_toArray, List.getElem?_cons_succ, List.getElem?_cons_zero]; rfl)
        case hq92 => exact fun _ _ _ h => h
        case hw92 => rfl
        case hy92 =>
          intro W hW
          go_simp
          first | done | with_reducible rfl
        case hk92 =>
        try simp only [Act.put, List.setIfInBounds_toArray, List.set_cons_zero, List.set_cons_succ]
        refine anyK_take 1 (oi := ?oo93) ?ho93 (by kernel_rfl) (by kernel_rfl) (by kernel_rfl) (by kernel_rfl) ?hq93 ?hw93 hT0 (fun _ => trivial) (v := ?vv93) ?hy93 ?hk93
        case ho93 => (simp only [List.getElem?_toArray, List.getElem?_cons_succ, List.getElem?_cons_zero]; rfl)
        case hq93 => exact fun _ _ _ h => h
        case hw93 => rfl
        case hy93 =>
          intro W hW
          go_simp
          first | done | with_reducible rfl
        case hk93 =>
        try simp only [Act.put, List.setIfInBounds_toArray, List.set_cons_zero, List.set_cons_succ]
        refine anyK_take 2 (oi := ?oo94) ?ho94 (by kernel_rfl) (by kernel_rfl) (by kernel_rfl) (by kernel_rfl) ?hq94 ?hw94 hT0 (fun _ => trivial) (v := ?vv94) ?hy94 ?hk94
        case ho94 => (simp only [List.getElem?_toArray, List.getElem?_cons_succ, List.getElem?_cons_zero]; rfl)
        case hq94 => exact fun _ _ _ h => h
        case hw94 => rfl
        case hy94 =>
          intro W hW
          go_simp
          first | done | with_reducible rfl
        case hk94 =>
        try simp only [Act.put, List.setIfInBounds_toArray, List.set_cons_zero, List.set_cons_succ]
        refine anyK_take 3 (oi := ?oo95) ?ho95 (by kernel_rfl) (by kernel_rfl) (by kernel_rfl) (by kernel_rfl) ?hq95 ?hw95 hT0 (fun _ => trivial) (v := ?vv95) ?hy95 ?hk95
        case ho95 => (simp only [List.getElem?_toArray, List.getElem?_cons_succ, List.getElem?_cons_zero]; rfl)
        case hq95 => exact fun _ _ _ h => h
        case hw95 => rfl
        case hy95 =>
          intro W hW
          go_simp
          first | done | with_reducible rfl
        case hk95 =>
        try simp only [Act.put, List.setIfInBounds_toArray, List.set_cons_zero, List.set_cons_succ]
        refine anyK_take 4 (oi := ?oo96) ?ho96 (by kernel_rfl) (by kernel_rfl) (by kernel_rfl) (by kernel_rfl) ?hq96 ?hw96 hT0 (fun _ => trivial) (v := ?vv96) ?hy96 ?hk96
        case ho96 => (simp only [List.getElem?_toArray, List.getElem?_cons_succ, List.getElem?_cons_zero]; rfl)
        case hq96 => exact fun _ _ _ h => h
        case hw96 => rfl
        case hy96 =>
          intro W hW
          go_simp
          first | done | with_reducible rfl
        case hk96 =>
        try simp only [Act.put, List.setIfInBounds_toArray, List.set_cons_zero, List.set_cons_succ]
        refine anyK_on1 5 (by kernel_rfl) ?_
        refine anyK_one 5 (o := ?oo97) ?ho97 ?hk97
        case ho97 => (simp only [List.getElem?_toArray, List.getElem?_cons_succ, List.getElem?_cons_zero]; rfl)
        case hk97 =>
        intro K hK
        go_simp
        refine (HRE.out _ (ext_trans XF.out yy)).mono ?_
        rintro e wa1 ⟨rfl, xx⟩
        try go_wp2_with fail
        replace yy := ext_trans yy xx
        have hT1 := keepK.out _ yy
        refine hK.out _ _ hT1 (fun _ => trivial) ?_
        clear hK K
        try simp only [Act.put, List.setIfInBounds_toArray, List.set_cons_zero, List.set_cons_succ]
        refine anyK_take 6 (oi := ?oo98) ?ho98 (by kernel_rfl) (by kernel_rfl) (by kernel_rfl) (by kernel_rfl) ?hq98 ?hw98 hT1 (fun _ => trivial) (v := ?vv98) ?hy98 ?hk98
        case ho98 => (simp only [List.getElem?_toArray, List.getElem?_cons_succ, List.getElem?_cons_zero]; rfl)
        case hq98 => exact fun _ _ _ h => h
        case hw98 => rfl
        case hy98 =>
          intro W hW
          go_simp
          first | done | with_reducible rfl
        case hk98 =>
        try simp only [Act.put, List.setIfInBounds_toArray, List.set_cons_zero, List.set_cons_succ]
        refine anyK_take 7 (oi := ?oo99) ?ho99 (by kernel_rfl) (by kernel_rfl) (by kernel_rfl) (by kernel_rfl) ?hq99 ?hw99 hT1 (fun _ => trivial) (v := ?vv99) ?hy99 ?hk99
        case ho99 => (simp only [List.getElem?_toArray, List.getElem?_cons_succ, List.getElem?_cons_zero]; rfl)
        case hq99 => exact fun _ _ _ h => h
        case hw99 => rfl
        case hy99 =>
          intro W hW
          go_simp
          first | done | with_reducible rfl
        case hk99 =>
        try simp only [Act.put, List.setIfInBounds_toArray, List.set_cons_zero, List.set_cons_succ]
        refine anyK_take 8 (oi := ?oo100) ?ho100 (by kernel_rfl) (by kernel_rfl) (by kernel_rfl) (by kernel_rfl) ?hq100 ?hw100 hT1 (fun _ => trivial) (v := ?vv100) ?hy100 ?hk100
        case ho100 => (simp only [List.getElem?_toArray, List.getElem?_cons_succ, List.getElem?_cons_zero]; rfl)
        case hq100 => exact fun _ _ _ h => h
        case hw100 => rfl
        case hy100 =>
          intro W hW
          go_simp
          first | done | with_reducible rfl
        case hk100 =>
        try simp only [Act.put, List.setIfInBounds_toArray, List.set_cons_zero, List.set_cons_succ]
        refine anyK_take 9 (oi := ?oo101) ?ho101 (by kernel_rfl) (by kernel_rfl) (by kernel_rfl) (by kernel_rfl) ?hq101 ?hw101 hT1 (fun _ => trivial) (v := ?vv101) ?hy101 ?hk101
        case ho101 => (simp only [List.getElem?_toArray, List.getElem?_cons_succ, List.getElem?_cons_zero]; rfl)
        case hq101 => exact fun _ _ _ h => h
        case hw101 => rfl
        case hy101 =>
          intro W hW
          obtain ⟨z0, z1, z2, z3, z4, z5⟩ := hW
          go_simp
          first | done | with_reducible rfl
        case hk101 =>
        try simp only [Act.put, List.setIfInBounds_toArray, List.set_cons_zero, List.set_cons_succ]
        refine anyK_take 10 (oi := ?oo102) ?ho102 (by kernel_rfl) (by kernel_rfl) (by kernel_rfl) (by kernel_rfl) ?hq102 ?hw102 hT1 (fun _ => trivial) (v := ?vv102) ?hy102 ?hk102
        case ho102 => (simp only [List.getElem?_toArray, List.getElem?_cons_succ, List.getElem?_cons_zero]; rfl)
        case hq102 => exact fun _ _ _ h => h
        case hw102 => rfl
        case hy102 =>
          intro W hW
          go_simp
          first | done | with_reducible rfl
        case hk102 =>
        try simp only [Act.put, List.setIfInBounds_toArray, List.set_cons_zero, List.set_cons_succ]
        refine anyK_on1 11 (by kernel_rfl) ?_
        refine anyK_one 11 (o := ?oo103) ?ho103 ?hk103
        case ho103 => (simp only [List.getElem?_toArray, List.getElem?_cons_succ, List.getElem?_cons_zero]; rfl)
        case hk103 =>
        intro K hK
        go_simp
        refine (HPO.out _ (ext_trans XF.out yy)).mono ?_
        rintro e wa2 ⟨v8, rfl, p8, xx⟩
        try go_wp2_with fail
        replace yy := ext_trans yy xx
        have HP8 := hide p8
        clear p8
        have hT2 := keepK.out _ yy
        refine hK.out _ _ hT2 (fun _ => trivial) ?_
        clear hK K
        try simp only [Act.put, List.setIfInBounds_toArray, List.set_cons_zero, List.set_cons_succ]
        refine anyK_on1 12 (by kernel_rfl) ?_
        refine anyK_one 12 (o := ?oo104) ?ho104 ?hk104
        case ho104 => (simp only [List.getElem?_toArray, List.getElem?_cons_succ, List.getElem?_cons_zero]; rfl)
        case hk104 =>
        intro K hK
        go_simp
        refine (HSM.out _ _ _ (HPF.out.ext yy).at_ HP8.out.at_).mono ?_
        rintro e wa3 ⟨rfl, xx⟩
        try go_wp2_with fail
        replace yy := ext_trans yy xx
        have hT3 := keepK.out _ yy
        refine hK.out _ _ hT3 (fun _ => trivial) ?_
        clear hK K
        try simp only [Act.put, List.setIfInBounds_toArray, List.set_cons_zero, List.set_cons_succ]
        refine anyK_take 13 (oi := ?oo105) ?ho105 (by kernel_rfl) (by kernel_rfl) (by kernel_rfl) (by kernel_rfl) ?hq105 ?hw105 hT3 (fun _ => trivial) (v := ?vv105) ?hy105 ?hk105
        case ho105 => (simp only [List.getElem?_toArray, List.getElem?_cons_succ, List.getElem?_cons_zero]; rfl)
        case hq105 => exact fun _ _ _ h => h
        case hw105 => rfl
        case hy105 =>
          intro W hW
          go_simp
          first | done | with_reducible rfl
        case hk105 =>
        try simp only [Act.put, List.setIfInBounds_toArray, List.set_cons_zero, List.set_cons_succ]
        refine anyK_take 14 (oi := ?oo106) ?ho106 (by kernel_rfl) (by kernel_rfl) (by kernel_rfl) (by kernel_rfl) ?hq106 ?hw106 hT3 (fun _ => trivial) (v := ?vv106) ?hy106 ?hk106
        case ho106 => (simp only [List.getElem?_toArray, List.getElem?_cons_succ, List.getElem?_cons_zero]; rfl)
        case hq106 => exact fun _ _ _ h => h
        case hw106 => rfl
        case hy106 =>
          intro W hW
          go_simp
          first | done | with_reducible rfl
        case hk106 =>
        try simp only [Act.put, List.setIfInBounds_toArray, List.set_cons_zero, List.set_cons_succ]
        refine anyK_done (by kernel_rfl) ?_ _
        clear keepK hT0 hT1 hT2 hT3
        go_wp2
        go_ret
        exact ⟨rfl, ext_trans XB.out (ext_trans HXW.out (ext_trans XF.out yy))⟩
      · skip
        refine anyK_one 8 (o := ?oo108) ?ho108 ?hk108
        case ho108 => (simp only [List.getElem?_toArray, List.getElem?_cons_succ, List.getElem?_cons_zero]; rfl)
        case hk108 =>
        intro K hK
        go_simp
        have hnb0 : wr.heap.size ≤ wm.heap.size := (yy : Ext wr wm).size
        have HNB0 := hide hnb0
        clear hnb0
        have KN : Hid (Blk (wm.alloc (.cells #[.slice none 0 0, .slice none 0 0, .slice none 0 0, .int .i64 0, .int .i64 0] 29)) wm.heap.size 29 #[.slice none 0 0, .slice none 0 0, .slice none 0 0, .int .i64 0, .int .i64 0]) := hide (Blk.new wm 29 #[.slice none 0 0, .slice none 0 0, .slice none 0 0, .int .i64 0, .int .i64 0])
        try (replace HM6 := hide (MovesAt.ext HM6.out (ext_alloc (Below.refl _ _) (.cells #[.slice none 0 0, .slice none 0 0, .slice none 0 0, .int .i64 0, .int .i64 0] 29))))
        try (replace HP7 := hide (HP7.out.ext (ext_alloc (Below.refl _ _) (.cells #[.slice none 0 0, .slice none 0 0, .slice none 0 0, .int .i64 0, .int .i64 0] 29))))
        generalize hBN : wm.heap.size = BN at *
        have HNB : Hid (wr.heap.size ≤ BN) := hide (by have h : wr.heap.size ≤ wm.heap.size := (yy : Ext wr wm).size; omega)
        clear hBN HNB0
        replace yy := ext_alloc yy (.cells #[.slice none 0 0, .slice none 0 0, .slice none 0 0, .int .i64 0, .int .i64 0] 29)
        have hT2 := keepK.out _ yy
        refine hK.out _ _ hT2 (fun _ => trivial) ?_
        clear hK K
        try simp only [Act.put, List.setIfInBounds_toArray, List.set_cons_zero, List.set_cons_succ]
        refine anyK_on1 3 (by kernel_rfl) ?_
        refine anyK_one 3 (o := ?oo109) ?ho109 ?hk109
        case ho109 => (simp only [List.getElem?_toArray, List.getElem?_cons_succ, List.getElem?_cons_zero]; rfl)
        case hk109 =>
        intro K hK
        go_simp
        refine (HRN.out _ _ yy HM6.out).mono ?_
        rintro e wn2 ⟨v7, rfl, p7, xx⟩
        try go_wp2_with fail
        replace yy := ext_trans yy xx
        have HP7 := hide p7
        obtain ⟨g0, d0, g1, d1, g2, d2, rfl, -⟩ := p7
        try (replace KN := hide (KN.out.ext xx))
        have hT3 := keepK.out _ yy
        refine hK.out _ _ hT3 (fun _ => trivial) ?_
        clear hK K
        try simp only [Act.put, List.setIfInBounds_toArray, List.set_cons_zero, List.set_cons_succ]
        refine anyK_take 4 (oi := ?oo110) ?ho110 (by kernel_rfl) (by kernel_rfl) (by kernel_rfl) (by kernel_rfl) ?hq110 ?hw110 hT3 (fun _ => trivial) (v := ?vv110) ?hy110 ?hk110
        case ho110 => (simp only [List.getElem?_toArray, List.getElem?_cons_succ, List.getElem?_cons_zero]; rfl)
        case hq110 => exact fun _ _ _ h => h
        case hw110 => rfl
        case hy110 =>
          intro W hW
          go_simp
          first | done | with_reducible rfl
        case hk110 =>
        try simp only [Act.put, List.setIfInBounds_toArray, List.set_cons_zero, List.set_cons_succ]
        refine anyK_take 5 (oi := ?oo111) ?ho111 (by kernel_rfl) (by kernel_rfl) (by kernel_rfl) (by kernel_rfl) ?hq111 ?hw111 hT3 (fun _ => trivial) (v := ?vv111) ?hy111 ?hk111
        case ho111 => (simp only [List.getElem?_toArray, List.getElem?_cons_succ, List.getElem?_cons_zero]; rfl)
        case hq111 => exact fun _ _ _ h => h
        case hw111 => rfl
        case hy111 =>
          intro W hW
          go_simp
          first | done | with_reducible rfl
        case hk111 =>
        try simp only [Act.put, List.setIfInBounds_toArray, List.set_cons_zero, List.set_cons_succ]
        refine anyK_take 6 (oi := ?oo112) ?ho112 (by kernel_rfl) (by kernel_rfl) (by kernel_rfl) (by kernel_rfl) ?hq112 ?hw112 hT3 (fun _ => trivial) (v := ?vv112) ?hy112 ?hk112
        case ho112 => (simp only [List.getElem?_toArray, List.getElem?_cons_succ, List.getElem?_cons_zero]; rfl)
        case hq112 => exact fun _ _ _ h => h
        case hw112 => rfl
        case hy112 =>
          intro W hW
          go_simp
          first | done | with_reducible rfl
        case hk112 =>
        try simp only [Act.put, List.setIfInBounds_toArray, List.set_cons_zero, List.set_cons_succ]
        refine anyK_take 7 (oi := ?oo113) ?ho113 (by kernel_rfl) (by kernel_rfl) (by kernel_rfl) (by kernel_rfl) ?hq113 ?hw113 hT3 (fun _ => trivial) (v := ?vv113) ?hy113 ?hk113
        case ho113 => (simp only [List.getElem?_toArray, List.getElem?_cons_succ, List.getElem?_cons_zero]; rfl)
        case hq113 => exact fun _ _ _ h => h
        case hw113 => rfl
        case hy113 =>
          intro W hW
          go_simp
          first | done | with_reducible rfl
        case hk113 =>
        try simp only [Act.put, List.setIfInBounds_toArray, List.set_cons_zero, List.set_cons_succ]
        refine anyK_on1 9 (by kernel_rfl) ?_
        refine anyK_one 9 (o := ?oo114) ?ho114 ?hk114
        case ho114 => (simp only [List.getElem?_toArray, List.getElem?_cons_succ, List.getElem?_cons_zero]; rfl)
        case hk114 =>
        intro K hK
        have q5 := KN.out.cell
        have z5 := KN.out.frozen
        have KPF := hide (blk_set5 KN.out (u0 := .slice (some ⟨g0, 0, none⟩) P.cells.length d0) (u1 := .slice (some ⟨g1, 0, none⟩) P.hand0.length d1) (u2 := .slice (some ⟨g2, 0, none⟩) P.hand1.length d2) (u3 := .int .i64 P.turn) (u4 := .int .i64 P.quiet))
        have HPF := hide (PosI.far5 (u0 := .slice (some ⟨g0, 0, none⟩) P.cells.length d0) (u1 := .slice (some ⟨g1, 0, none⟩) P.hand0.length d1) (u2 := .slice (some ⟨g2, 0, none⟩) P.hand1.length d2) (u3 := .int .i64 P.turn) (u4 := .int .i64 P.quiet) HP7.out KN.out)
        replace yy := ext5 (u0 := .slice (some ⟨g0, 0, none⟩) P.cells.length d0) (u1 := .slice (some ⟨g1, 0, none⟩) P.hand0.length d1) (u2 := .slice (some ⟨g2, 0, none⟩) P.hand1.length d2) (u3 := .int .i64 P.turn) (u4 := .int .i64 P.quiet) yy HNB.out
        go_simp
        clear q5 z5
        have hT4 := keepK.out _ yy
        refine hK.out _ _ hT4 (fun _ => trivial) ?_
        clear hK K
        try simp only [Act.put, List.setIfInBounds_toArray, List.set_cons_zero, List.set_cons_succ]
        refine anyK_take 10 (oi := ?oo115) ?ho115 (by kernel_rfl) (by kernel_rfl) (by kernel_rfl) (by kernel_rfl) ?hq115 ?hw115 hT4 (fun _ => trivial) (v := ?vv115) ?hy115 ?hk115
        case ho115 => (simp only [List.getElem?_toArray, List.getElem?_cons_succ, List.getElem?_cons_zero]; rfl)
        case hq115 => exact fun _ _ _ h => h
        case hw115 => rfl
        case hy115 =>
          intro W hW
          go_simp
          first | done | with_reducible rfl
        case hk115 =>
        try simp only [Act.put, List.setIfInBounds_toArray, List.set_cons_zero, List.set_cons_succ]
        refine anyK_take 11 (oi := ?oo116) ?ho116 (by kernel_rfl) (by kernel_rfl) (by kernel_rfl) (by kernel_rfl) ?hq116 ?hw116 hT4 (fun _ => trivial) (v := ?vv116) ?hy116 ?hk116
        case ho116 => (simp only [List.getElem?_toArray, List.getElem?_cons_succ, List.getElem?_cons_zero]; rfl)
        case hq116 => exact fun _ _ _ h => h
        case hw116 => rfl
        case hy116 =>
          intro W hW
          go_simp
          first | done | with_reducible rfl
        case hk116 =>
        try simp only [Act.put, List.setIfInBounds_toArray, List.set_cons_zero, List.set_cons_succ]
        refine anyK_done (by kernel_rfl) ?_ _
        clear keepK hT0 hT1 hT2 hT3 hT4
        have XF := hide yy
        clear yy KN HNB HP7 HM6
        generalize (((((wn2.setCell ⟨BN, 0, none⟩ (.slice (some ⟨g0, 0, none⟩) P.cells.length d0)).setCell ⟨BN, 1, none⟩ (.slice (some ⟨g1, 0, none⟩) P.hand0.length d1)).setCell ⟨BN, 2, none⟩ (.slice (some ⟨g2, 0, none⟩) P.hand1.length d2)).setCell ⟨BN, 3, none⟩ (.int .i64 P.turn)).setCell ⟨BN, 4, none⟩ (.int .i64 P.quiet)) = wf at *
        go_upto_region 21 with fail
        have keepK := hide (fun W (h : Ext wf W) => (show (fun W => W.cell? ⟨BN, 0, none⟩ = some (.slice (some ⟨g0, 0, none⟩) P.cells.length d0) ∧ W.cell? ⟨BN, 1, none⟩ = some (.slice (some ⟨g1, 0, none⟩) P.hand0.length d1) ∧ W.cell? ⟨BN, 2, none⟩ = some (.slice (some ⟨g2, 0, none⟩) P.hand1.length d2) ∧ W.cell? ⟨BN, 3, none⟩ = some (.int .i64 P.turn) ∧ W.cell? ⟨BN, 4, none⟩ = some (.int .i64 P.quiet) ∧ Ext wf W) W from ⟨(KPF.out.ext h).cell 0, (KPF.out.ext h).cell 1, (KPF.out.ext h).cell 2, (KPF.out.ext h).cell 3, (KPF.out.ext h).cell 4, h⟩))
        have yy : Ext wf wf.drew := Below.drew (Below.refl _ _)
        refine region_K (fun W => W.cell? ⟨BN, 0, none⟩ = some (.slice (some ⟨g0, 0, none⟩) P.cells.length d0) ∧ W.cell? ⟨BN, 1, none⟩ = some (.slice (some ⟨g1, 0, none⟩) P.hand0.length d1) ∧ W.cell? ⟨BN, 2, none⟩ = some (.slice (some ⟨g2, 0, none⟩) P.hand1.length d2) ∧ W.cell? ⟨BN, 3, none⟩ = some (.int .i64 P.turn) ∧ W.cell? ⟨BN, 4, none⟩ = some (.int .i64 P.quiet) ∧ Ext wf W) (fun _ => True) [] (by kernel_rfl) ?_
        have hT0 := keepK.out _ yy
        refine anyK_take 0 (oi := ?oo117) ?ho117 (by kernel_rfl) (by kernel_rfl) (by kernel_rfl) (by kernel_rfl) ?hq117 ?hw117 hT0 (fun _ => trivial) (v := ?vv117) ?hy117 ?hk117
        case ho117 => (simp only [List.getElem?_toArray, List.getElem?_cons_succ, List.getElem?_cons_zero]; rfl)
        case hq117 => exact fun _ _ _ h => h
        case hw117 => rfl
        case hy117 =>
          intro W hW
          go_simp
          first | done | with_reducible rfl
        case hk117 =>
        try simp only [Act.put, List.setIfInBounds_toArray, List.set_cons_zero, List.set_cons_succ]
        refine anyK_take 1 (oi := ?oo118) ?ho118 (by kernel_rfl) (by kernel_rfl) (by kernel_rfl) (by kernel_rfl) ?hq118 ?hw118 hT0 (fun _ => trivial) (v := ?vv118) ?hy118 ?hk118
        case ho118 => (simp only [List.getElem?_toArray, List.getElem?_cons_succ, List.getElem?_cons_zero]; rfl)
        case hq118 => exact fun _ _ _ h => h
        case hw118 => rfl
        case hy118 =>
          intro W hW
          go_simp
          first | done | with_reducible rfl
        case hk118 =>
        try simp only [Act.put, List.setIfInBounds_toArray, List.set_cons_zero, List.set_cons_succ]
        refine anyK_take 2 (oi := ?oo119) ?ho119 (by kernel_rfl) (by kernel_rfl) (by kernel_rfl) (by kernel_rfl) ?hq119 ?hw119 hT0 (fun _ => trivial) (v := ?vv119) ?hy119 ?hk119
        case ho119 => (simp only [List.getElem?_toArray, List.getElem?_cons_succ, List.getElem?_cons_zero]; rfl)
        case hq119 => exact fun _ _ _ h => h
        case hw119 => rfl
        case hy119 =>
          intro W hW
          go_simp
          first | done | with_reducible rfl
        case hk119 =>
        try simp only [Act.put, List.setIfInBounds_toArray, List.set_cons_zero, List.set_cons_succ]
        refine anyK_take 3 (oi := ?oo120) ?ho120 (by kernel_rfl) (by kernel_rfl) (by kernel_rfl) (by kernel_rfl) ?hq120 ?hw120 hT0 (fun _ => trivial) (v := ?vv120) ?hy120 ?hk120
        case ho120 => (simp only [List.getElem?_toArray, List.getElem?_cons_succ, List.getElem?_cons_zero]; rfl)
        case hq120 => exact fun _ _ _ h => h
        case hw120 => rfl
        case hy120 =>
          intro W hW
          go_simp
          first | done | with_reducible rfl
        case hk120 =>
        try simp only [Act.put, List.setIfInBounds_toArray, List.set_cons_zero, List.set_cons_succ]
        refine anyK_take 4 (oi := ?oo121) ?ho121 (by kernel_rfl) (by kernel_rfl) (by kernel_rfl) (by kernel_rfl) ?hq121 ?hw121 hT0 (fun _ => trivial) (v := ?vv121) ?hy121 ?hk121
        case ho121 => (simp only [List.getElem?_toArray, List.getElem?_cons_succ, List.getElem?_cons_zero]; rfl)
        case hq121 => exact fun _ _ _ h => h
        case hw121 => rfl
        case hy121 =>
          intro W hW
          go_simp
          first | done | with_reducible rfl
        case hk121 =>
        try simp only [Act.put, List.setIfInBounds_toArray, List.set_cons_zero, List.set_cons_succ]
        refine anyK_on1 5 (by kernel_rfl) ?_
        refine anyK_one 5 (o := ?oo122) ?ho122 ?hk122
        case ho122 => (simp only [List.getElem?_toArray, List.getElem?_cons_succ, List.getElem?_cons_zero]; rfl)
        case hk122 =>
        intro K hK
        go_simp
        refine (HRE.out _ (ext_trans XF.out yy)).mono ?_
        rintro e wa1 ⟨rfl, xx⟩
        try go_wp2_with fail
        replace yy := ext_trans yy xx
        have hT1 := keepK.out _ yy
        refine hK.out _ _ hT1 (fun _ => trivial) ?_
        clear hK K
        try simp only [Act.put, List.setIfInBounds_toArray, List.set_cons_zero, List.set_cons_succ]
        refine anyK_take 6 (oi := ?oo123) ?ho123 (by kernel_rfl) (by kernel_rfl) (by kernel_rfl) (by kernel_rfl) ?hq123 ?hw123 hT1 (fun _ => trivial) (v := ?vv123) ?hy123 ?hk123
        case ho123 => (simp only [List.getElem?_toArray, List.getElem?_cons_succ, List.getElem?_cons_zero]; rfl)
        case hq123 => exact fun _ _ _ h => h
        case hw123 => rfl
        case hy123 =>
          intro W hW
          go_simp
          first | done | with_reducible rfl
        case hk123 =>
        try simp only [Act.put, List.setIfInBounds_toArray, List.set_cons_zero, List.set_cons_succ]
        refine anyK_take 7 (oi := ?oo124) ?ho124 (by kernel_rfl) (by kernel_rfl) (by kernel_rfl) (by kernel_rfl) ?hq124 ?hw124 hT1 (fun _ => trivial) (v := ?vv124) ?hy124 ?hk124
        case ho124 => (simp only [List.getElem?_toArray, List.getElem?_cons_succ, List.getElem?_cons_zero]; rfl)
        case hq124 => exact fun _ _ _ h => h
        case hw124 => rfl
        case hy124 =>
          intro W hW
          go_simp
          first | done | with_reducible rfl
        case hk124 =>
        try simp only [Act.put, List.setIfInBounds_toArray, List.set_cons_zero, List.set_cons_succ]
        refine anyK_take 8 (oi := ?oo125) ?ho125 (by kernel_rfl) (by kernel_rfl) (by kernel_rfl) (by kernel_rfl) ?hq125 ?hw125 hT1 (fun _ => trivial) (v := ?vv125) ?hy125 ?hk125
        case ho125 => (simp only [List.getElem?_toArray, List.getElem?_cons_succ, List.getElem?_cons_zero]; rfl)
        case hq125 => exact fun _ _ _ h => h
        case hw125 => rfl
        case hy125 =>
          intro W hW
          go_simp
          first | done | with_reducible rfl
        case hk125 =>
        try simp only [Act.put, List.setIfInBounds_toArray, List.set_cons_zero, List.set_cons_succ]
        refine anyK_take 9 (oi := ?oo126) ?ho126 (by kernel_rfl) (by kernel_rfl) (by kernel_rfl) (by kernel_rfl) ?hq126 ?hw126 hT1 (fun _ => trivial) (v := ?vv126) ?hy126 ?hk126
        case ho126 => (simp only [List.getElem?_toArray, List.getElem?_cons_succ, List.getElem?_cons_zero]; rfl)
        case hq126 => exact fun _ _ _ h => h
        case hw126 => rfl
        case hy126 =>
          intro W hW
          obtain ⟨z0, z1, z2, z3, z4, z5⟩ := hW
          go_simp
          first | done | with_reducible rfl
        case hk126 =>
        try simp only [Act.put, List.setIfInBounds_toArray, List.set_cons_zero, List.set_cons_succ]
        refine anyK_take 10 (oi := ?oo127) ?ho127 (by kernel_rfl) (by kernel_rfl) (by kernel_rfl) (by kernel_rfl) ?hq127 ?hw127 hT1 (fun _ => trivial) (v := ?vv127) ?hy127 ?hk127
        case ho127 => (simp only [List.getElem?_toArray, List.getElem?_cons_succ, List.getElem?_cons_zero]; rfl)
        case hq127 => exact fun _ _ _ h => h
        case hw127 => rfl
        case hy127 =>
          intro W hW
          go_simp
          first | done | with_reducible rfl
        case hk127 =>
        try simp only [Act.put, List.setIfInBounds_toArray, List.set_cons_zero, List.set_cons_succ]
        refine anyK_on1 11 (by kernel_rfl) ?_
        refine anyK_one 11 (o := ?oo128) ?ho128 ?hk128
        case ho128 => (simp only [List.getElem?_toArray, List.getElem?_cons_succ, List.getElem?_cons_zero]; rfl)
        case hk128 =>
        intro K hK
        go_simp
        refine (HPO.out _ (ext_trans XF.out yy)).mono ?_
        rintro e wa2 ⟨v8, rfl, p8, xx⟩
        try go_wp2_with fail
        replace yy := ext_trans yy xx
        have HP8 := hide p8
        clear p8
        have hT2 := keepK.out _ yy
        refine hK.out _ _ hT2 (fun _ => trivial) ?_
        clear hK K
        try simp only [Act.put, List.setIfInBounds_toArray, List.set_cons_zero, List.set_cons_succ]
        refine anyK_on1 12 (by kernel_rfl) ?_
        refine anyK_one 12 (o := ?oo129) ?ho129 ?hk129
        case ho129 => (simp only [List.getElem?_toArray, List.getElem?_cons_succ, List.getElem?_cons_zero]; rfl)
        case hk129 =>
        intro K hK
        go_simp
        refine (HSM.out _ _ _ (HPF.out.ext yy).at_ HP8.out.at_).mono ?_
        rintro e wa3 ⟨rfl, xx⟩
        try go_wp2_with fail
        replace yy := ext_trans yy xx
        have hT3 := keepK.out _ yy
        refine hK.out _ _ hT3 (fun _ => trivial) ?_
        clear hK K
        try simp only [Act.put, List.setIfInBounds_toArray, List.set_cons_zero, List.set_cons_succ]
        refine anyK_take 13 (oi := ?oo130) ?ho130 (by kernel_rfl) (by kernel_rfl) (by kernel_rfl) (by kernel_rfl) ?hq130 ?hw130 hT3 (fun _ => trivial) (v := ?vv130) ?hy130 ?hk130
        case ho130 => (simp only [List.getElem?_toArray, List.getElem?_cons_succ, List.getElem?_cons_zero]; rfl)
        case hq130 => exact fun _ _ _ h => h
        case hw130 => rfl
        case hy130 =>
          intro W hW
          go_simp
          first | done | with_reducible rfl
        case hk130 =>
        try simp only [Act.put, List.setIfInBounds_toArray, List.set_cons_zero, List.set_cons_succ]
        refine anyK_take 14 (oi := ?oo131) ?ho131 (by kernel_rfl) (by kernel_rfl) (by kernel_rfl) (by kernel_rfl) ?hq131 ?hw131 hT3 (fun _ => trivial) (v := ?vv131) ?hy131 ?hk131
        case ho131 => (simp only [List.getElem?_toArray, List.getElem?_cons_succ, List.getElem?_cons_zero]; rfl)
        case hq131 => exact fun _ _ _ h => h
        case hw131 => rfl
        case hy131 =>
          intro W hW
          go_simp
          first | done | with_reducible rfl
        case hk131 =>
        try simp only [Act.put, List.setIfInBounds_toArray, List.set_cons_zero, List.set_cons_succ]
        refine anyK_done (by kernel_rfl) ?_ _
        clear keepK hT0 hT1 hT2 hT3
        go_wp2
        go_ret
        exact ⟨rfl, ext_trans XB.out (ext_trans HXW.out (ext_trans XF.out yy))⟩
    · skip
      refine anyK_one 8 (o := ?oo133) ?ho133 ?hk133
      case ho133 => (simp only [List.getElem?_toArray, List.getElem?_cons_succ, List.getElem?_cons_zero]; rfl)
      case hk133 =>
      intro K hK
      go_simp
      have hnb0 : wr.heap.size ≤ wr.heap.size := (yy : Ext wr wr.drew).size
      have HNB0 := hide hnb0
      clear hnb0
      have KN : Hid (Blk (wr.drew.alloc (.cells #[.slice none 0 0, .slice none 0 0, .slice none 0 0, .int .i64 0, .int .i64 0] 29)) wr.heap.size 29 #[.slice none 0 0, .slice none 0 0, .slice none 0 0, .int .i64 0, .int .i64 0]) := hide (Blk.new wr.drew 29 #[.slice none 0 0, .slice none 0 0, .slice none 0 0, .int .i64 0, .int .i64 0])
      try (replace HM6 := hide (MovesAt.ext HM6.out (ext_alloc (Below.refl _ _) (.cells #[.slice none 0 0, .slice none 0 0, .slice none 0 0, .int .i64 0, .int .i64 0] 29))))
      try (replace HP7 := hide (HP7.out.ext (ext_alloc (Below.refl _ _) (.cells #[.slice none 0 0, .slice none 0 0, .slice none 0 0, .int .i64 0, .int .i64 0] 29))))
      generalize hBN : wr.heap.size = BN at *
      have HNB : Hid (wr.heap.size ≤ BN) := hide (by have h : wr.heap.size ≤ wr.heap.size := (yy : Ext wr wr.drew).size; omega)
      clear hBN HNB0
      replace yy := ext_alloc yy (.cells #[.slice none 0 0, .slice none 0 0, .slice none 0 0, .int .i64 0, .int .i64 0] 29)
      have hT1 := keepK.out _ yy
      refine hK.out _ _ hT1 (fun _ => trivial) ?_
      clear hK K
      try simp only [Act.put, List.setIfInBounds_toArray, List.set_cons_zero, List.set_cons_succ]
      refine anyK_on1 2 (by kernel_rfl) ?_
      refine anyK_one 2 (o := ?oo134) ?ho134 ?hk134
      case ho134 => (simp only [List.getElem?_toArray, List.getElem?_cons_succ, List.getElem?_cons_zero]; rfl)
      case hk134 =>
      intro K hK
      go_simp
      refine (HMV.out _ yy).mono ?_
      rintro e wm ⟨v6, rfl, own6, xx⟩
      try go_wp2_with fail
      replace yy := ext_trans yy xx
      have HM6 := hide own6.at_
      clear own6
      try (replace KN := hide (KN.out.ext xx))
      have hT2 := keepK.out _ yy
      refine hK.out _ _ hT2 (fun _ => trivial) ?_
      clear hK K
      try simp only [Act.put, List.setIfInBounds_toArray, List.set_cons_zero, List.set_cons_succ]
      refine anyK_on1 3 (by kernel_rfl) ?_
      refine anyK_one 3 (o := ?oo135) ?ho135 ?hk135
      case ho135 => (simp only [List.getElem?_toArray, List.getElem?_cons_succ, List.getElem?_cons_zero]; rfl)
      case hk135 =>
      intro K hK
      go_simp
      refine (HRN.out _ _ yy HM6.out).mono ?_
      rintro e wn2 ⟨v7, rfl, p7, xx⟩
      try go_wp2_with fail
      replace yy := ext_trans yy xx
      have HP7 := hide p7
      obtain ⟨g0, d0, g1, d1, g2, d2, rfl, -⟩ := p7
      try (replace KN := hide (KN.out.ext xx))
      have hT3 := keepK.out _ yy
      refine hK.out _ _ hT3 (fun _ => trivial) ?_
      clear hK K
      try simp only [Act.put, List.setIfInBounds_toArray, List.set_cons_zero, List.set_cons_succ]
      refine anyK_take 4 (oi := ?oo136) ?ho136 (by kernel_rfl) (by kernel_rfl) (by kernel_rfl) (by kernel_rfl) ?hq136 ?hw136 hT3 (fun _ => trivial) (v := ?vv136) ?hy136 ?hk136
      case ho136 => (simp only [List.getElem?_toArray, List.getElem?_cons_succ, List.getElem?_cons_zero]; rfl)
      case hq136 => exact fun _ _ _ h => h
      case hw136 => rfl
      case hy136 =>
        intro W hW
        go_simp
        first | done | with_reducible rfl
      case hk136 =>
      try simp only [Act.put, List.setIfInBounds_toArray, List.set_cons_zero, List.set_cons_succ]
      refine anyK_take 5 (oi := ?oo137) ?ho137 (by kernel_rfl) (by kernel_rfl) (by kernel_rfl) (by kernel_rfl) ?hq137 ?hw137 hT3 (fun _ => trivial) (v := ?vv137) ?hy137 ?hk137
      case ho137 => (simp only [List.getElem?_toArray, List.getElem?_cons_succ, List.getElem?_cons_zero]; rfl)
      case hq137 => exact fun _ _ _ h => h
      case hw137 => rfl
      case hy137 =>
        intro W hW
        go_simp
        first | done | with_reducible rfl
      case hk137 =>
      try simp only [Act.put, List.setIfInBounds_toArray, List.set_cons_zero, List.set_cons_succ]
      refine anyK_take 6 (oi := ?oo138) ?ho138 (by kernel_rfl) (by kernel_rfl) (by kernel_rfl) (by kernel_rfl) ?hq138 ?hw138 hT3 (fun _ => trivial) (v := ?vv138) ?hy138 ?hk138
      case ho138 => (simp only [List.getElem?_toArray, List.getElem?_cons_succ, List.getElem?_cons_zero]; rfl)
      case hq138 => exact fun _ _ _ h => h
      case hw138 => rfl
      case hy138 =>
        intro W hW
        go_simp
        first | done | with_reducible rfl
      case hk138 =>
      try simp only [Act.put, List.setIfInBounds_toArray, List.set_cons_zero, List.set_cons_succ]
      refine anyK_take 7 (oi := ?oo139) ?ho139 (by kernel_rfl) (by kernel_rfl) (by kernel_rfl) (by kernel_rfl) ?hq139 ?hw139 hT3 (fun _ => trivial) (v := ?vv139) ?hy139 ?hk139
      case ho139 => (simp only [List.getElem?_toArray, List.getElem?_cons_succ, List.getElem?_cons_zero]; rfl)
      case hq139 => exact fun _ _ _ h => h
      case hw139 => rfl
      case hy139 =>
        intro W hW
        go_simp
        first | done | with_reducible rfl
      case hk139 =>
      try simp only [Act.put, List.setIfInBounds_toArray, List.set_cons_zero, List.set_cons_succ]
      refine anyK_on1 9 (by kernel_rfl) ?_
      refine anyK_one 9 (o := ?oo140) ?ho140 ?hk140
      case ho140 => (simp only [List.getElem?_toArray, List.getElem?_cons_succ, List.getElem?_cons_zero]; rfl)
      case hk140 =>
      intro K hK
      have q5 := KN.out.cell
      have z5 := KN.out.frozen
      have KPF := hide (blk_set5 KN.out (u0 := .slice (some ⟨g0, 0, none⟩) P.cells.length d0) (u1 := .slice (some ⟨g1, 0, none⟩) P.hand0.length d1) (u2 := .slice (some ⟨g2, 0, none⟩) P.hand1.length d2) (u3 := .int .i64 P.turn) (u4 := .int .i64 P.quiet))
      have HPF := hide (PosI.far5 (u0 := .slice (some ⟨g0, 0, none⟩) P.cells.length d0) (u1 := .slice (some ⟨g1, 0, none⟩) P.hand0.length d1) (u2 := .slice (some ⟨g2, 0, none⟩) P.hand1.length d2) (u3 := .int .i64 P.turn) (u4 := .int .i64 P.quiet) HP7.out KN.out)
      replace yy := ext5 (u0 := .slice (some ⟨g0, 0, none⟩) P.cells.length d0) (u1 := .slice (some ⟨g1, 0, none⟩) P.hand0.length d1) (u2 := .slice (some ⟨g2, 0, none⟩) P.hand1.length d2) (u3 := .int .i64 P.turn) (u4 := .int .i64 P.quiet) yy HNB.out
      go_simp
      clear q5 z5
      have hT4 := keepK.out _ yy
      refine hK.out _ _ hT4 (fun _ => trivial) ?_
      clear hK K
      try simp only [Act.put, List.setIfInBounds_toArray, List.set_cons_zero, List.set_cons_succ]
      refine anyK_take 10 (oi := ?oo141) ?ho141 (by kernel_rfl) (by kernel_rfl) (by kernel_rfl) (by kernel_rfl) ?hq141 ?hw141 hT4 (fun _ => trivial) (v := ?vv141) ?hy141 ?hk141
      case ho141 => (simp only [List.getElem?_toArray, List.getElem?_cons_succ, List.getElem?_cons_zero]; rfl)
      case hq141 => exact fun _ _ _ h => h
      case hw141 => rfl
      case hy141 =>
        intro W hW
        go_simp
        first | done | with_reducible rfl
      case hk141 =>
      try simp only [Act.put, List.setIfInBounds_toArray, List.set_cons_zero, List.set_cons_succ]
      refine anyK_take 11 (oi := ?oo142) ?ho142 (by kernel_rfl) (by kernel_rfl) (by kernel_rfl) (by kernel_rfl) ?hq142 ?hw142 hT4 (fun _ => trivial) (v := ?vv142) ?hy142 ?hk142
      case ho142 => (simp only [List.getElem?_toArray, List.getElem?_cons_succ, List.getElem?_cons_zero]; rfl)
      case hq142 => exact fun _ _ _ h => h
      case hw142 => rfl
      case hy142 =>
        intro W hW
        go_simp
        first | done | with_reducible rfl
      case hk142 =>
      try simp only [Act.put, List.setIfInBounds_toArray, List.set_cons_zero, List.set_cons_succ]
      refine anyK_done (by kernel_rfl) ?_ _
      clear keepK hT0 hT1 hT2 hT3 hT4
      have XF := hide yy
      clear yy KN HNB HP7 HM6
      generalize (((((wn2.setCell ⟨BN, 0, none⟩ (.slice (some ⟨g0, 0, none⟩) P.cells.length d0)).setCell ⟨BN, 1, none⟩ (.slice (some ⟨g1, 0, none⟩) P.hand0.length d1)).setCell ⟨BN, 2, none⟩ (.slice (some ⟨g2, 0, none⟩) P.hand1.length d2)).setCell ⟨BN, 3, none⟩ (.int .i64 P.turn)).setCell ⟨BN, 4, none⟩ (.int .i64 P.quiet)) = wf at *
      go_upto_region 21 with fail
      have keepK := hide (fun W (h : Ext wf W) => (show (fun W => W.cell? ⟨BN, 0, none⟩ = some (.slice (some ⟨g0, 0, none⟩) P.cells.length d0) ∧ W.cell? ⟨BN, 1, none⟩ = some (.slice (some ⟨g1, 0, none⟩) P.hand0.length d1) ∧ W.cell? ⟨BN, 2, none⟩ = some (.slice (some ⟨g2, 0, none⟩) P.hand1.length d2) ∧ W.cell? ⟨BN, 3, none⟩ = some (.int .i64 P.turn) ∧ W.cell? ⟨BN, 4, none⟩ = some (.int .i64 P.quiet) ∧ Ext wf W) W from ⟨(KPF.out.ext h).cell 0, (KPF.out.ext h).cell 1, (KPF.out.ext h).cell 2, (KPF.out.ext h).cell 3, (KPF.out.ext h).cell 4, h⟩))
      have yy : Ext wf wf.drew := Below.drew (Below.refl _ _)
      refine region_K (fun W => W.cell? ⟨BN, 0, none⟩ = some (.slice (some ⟨g0, 0, none⟩) P.cells.length d0) ∧ W.cell? ⟨BN, 1, none⟩ = some (.slice (some ⟨g1, 0, none⟩) P.hand0.length d1) ∧ W.cell? ⟨BN, 2, none⟩ = some (.slice (some ⟨g2, 0, none⟩) P.hand1.length d2) ∧ W.cell? ⟨BN, 3, none⟩ = some (.int .i64 P.turn) ∧ W.cell? ⟨BN, 4, none⟩ = some (.int .i64 P.quiet) ∧ Ext wf W) (fun _ => True) [] (by kernel_rfl) ?_
      have hT0 := keepK.out _ yy
      refine anyK_take 0 (oi := ?oo143) ?ho143 (by kernel_rfl) (by kernel_rfl) (by kernel_rfl) (by kernel_rfl) ?hq143 ?hw143 hT0 (fun _ => trivial) (v := ?vv143) ?hy143 ?hk143
      case ho143 => (simp only [List.getElem?_toArray, List.getElem?_cons_succ, List.getElem?_cons_zero]; rfl)
      case hq143 => exact fun _ _ _ h => h
      case hw143 => rfl
      case hy143 =>
        intro W hW
        go_simp
        first | done | with_reducible rfl
      case hk143 =>
      try simp only [Act.put, List.setIfInBounds_toArray, List.set_cons_zero, List.set_cons_succ]
      refine anyK_take 1 (oi := ?oo144) ?ho144 (by kernel_rfl) (by kernel_rfl) (by kernel_rfl) (by kernel_rfl) ?hq144 ?hw144 hT0 (fun _ => trivial) (v := ?vv144) ?hy144 ?hk144
      case ho144 => (simp only [List.getElem?_toArray, List.getElem?_cons_succ, List.getElem?_cons_zero]; rfl)
      case hq144 => exact fun _ _ _ h => h
      case hw144 => rfl
      case hy144 =>
        intro W hW
        go_simp
        first | done | with_reducible rfl
      case hk144 =>
      try simp only [Act.put, List.setIfInBounds_toArray, List.set_cons_zero, List.set_cons_succ]
      refine anyK_take 2 (oi := ?oo145) ?ho145 (by kernel_rfl) (by kernel_rfl) (by kernel_rfl) (by kernel_rfl) ?hq145 ?hw145 hT0 (fun _ => trivial) (v := ?vv145) ?hy145 ?hk145
      case ho145 => (simp only [List.getElem?_toArray, List.getElem?_cons_succ, List.getElem?_cons_zero]; rfl)
      case hq145 => exact fun _ _ _ h => h
      case hw145 => rfl
      case hy145 =>
        intro W hW
        go_simp
        first | done | with_reducible rfl
      case hk145 =>
      try simp only [Act.put, List.setIfInBounds_toArray, List.set_cons_zero, List.set_cons_succ]
      refine anyK_take 3 (oi := ?oo146) ?ho146 (by kernel_rfl) (by kernel_rfl) (by kernel_rfl) (by kernel_rfl) ?hq146 ?hw146 hT0 (fun _ => trivial) (v := ?vv146) ?hy146 ?hk146
      case ho146 => (simp only [List.getElem?_toArray, List.getElem?_cons_succ, List.getElem?_cons_zero]; rfl)
      case hq146 => exact fun _ _ _ h => h
      case hw146 => rfl
      case hy146 =>
        intro W hW
        go_simp
        first | done | with_reducible rfl
      case hk146 =>
      try simp only [Act.put, List.setIfInBounds_toArray, List.set_cons_zero, List.set_cons_succ]
      refine anyK_take 4 (oi := ?oo147) ?ho147 (by kernel_rfl) (by kernel_rfl) (by kernel_rfl) (by kernel_rfl) ?hq147 ?hw147 hT0 (fun _ => trivial) (v := ?vv147) ?hy147 ?hk147
      case ho147 => (simp only [List.getElem?_toArray, List.getElem?_cons_succ, List.getElem?_cons_zero]; rfl)
      case hq147 => exact fun _ _ _ h => h
      case hw147 => rfl
      case hy147 =>
        intro W hW
        go_simp
        first | done | with_reducible rfl
      case hk147 =>
      try simp only [Act.put, List.setIfInBounds_toArray, List.set_cons_zero, List.set_cons_succ]
      refine anyK_on1 5 (by kernel_rfl) ?_
      refine anyK_one 5 (o := ?oo148) ?ho148 ?hk148
      case ho148 => (simp only [List.getElem?_toArray, List.getElem?_cons_succ, List.getElem?_cons_zero]; rfl)
      case hk148 =>
      intro K hK
      go_simp
      refine (HRE.out _ (ext_trans XF.out yy)).mono ?_
      rintro e wa1 ⟨rfl, xx⟩
      try go_wp2_with fail
      replace yy := ext_trans yy xx
      have hT1 := keepK.out _ yy
      refine hK.out _ _ hT1 (fun _ => trivial) ?_
      clear hK K
      try simp only [Act.put, List.setIfInBounds_toArray, List.set_cons_zero, List.set_cons_succ]
      refine anyK_take 6 (oi := ?oo149) ?ho149 (by kernel_rfl) (by kernel_rfl) (by kernel_rfl) (by kernel_rfl) ?hq149 ?hw149 hT1 (fun _ => trivial) (v := ?vv149) ?hy149 ?hk149
      case ho149 => (simp only [List.getElem?_toArray, List.getElem?_cons_succ, List.getElem?_cons_zero]; rfl)
      case hq149 => exact fun _ _ _ h => h
      case hw149 => rfl
      case hy149 =>
        intro W hW
        go_simp
        first | done | with_reducible rfl
      case hk149 =>
      try simp only [Act.put, List.setIfInBounds_toArray, List.set_cons_zero, List.set_cons_succ]
      refine anyK_take 7 (oi := ?oo150) ?ho150 (by kernel_rfl) (by kernel_rfl) (by kernel_rfl) (by kernel_rfl) ?hq150 ?hw150 hT1 (fun _ => trivial) (v := ?vv150) ?hy150 ?hk150
      case ho150 => (simp only [List.getElem?_toArray, List.getElem?_cons_succ, List.getElem?_cons_zero]; rfl)
      case hq150 => exact fun _ _ _ h => h
      case hw150 => rfl
      case hy150 =>
        intro W hW
        go_simp
        first | done | with_reducible rfl
      case hk150 =>
      try simp only [Act.put, List.setIfInBounds_toArray, List.set_cons_zero, List.set_cons_succ]
      refine anyK_take 8 (oi := ?oo151) ?ho151 (by kernel_rfl) (by kernel_rfl) (by kernel_rfl) (by kernel_rfl) ?hq151 ?hw151 hT1 (fun _ => trivial) (v := ?vv151) ?hy151 ?hk151
      case ho151 => (simp only [List.getElem?_toArray, List.getElem?_cons_succ, List.getElem?_cons_zero]; rfl)
      case hq151 => exact fun _ _ _ h => h
      case hw151 => rfl
      case hy151 =>
        intro W hW
        go_simp
        first | done | with_reducible rfl
      case hk151 =>
      try simp only [Act.put, List.setIfInBounds_toArray, List.set_cons_zero, List.set_cons_succ]
      refine anyK_take 9 (oi := ?oo152) ?ho152 (by kernel_rfl) (by kernel_rfl) (by kernel_rfl) (by kernel_rfl) ?hq152 ?hw152 hT1 (fun _ => trivial) (v := ?vv152) ?hy152 ?hk152
      case ho152 => (simp only [List.getElem?_toArray, List.getElem?_cons_succ, List.getElem?_cons_zero]; rfl)
      case hq152 => exact fun _ _ _ h => h
      case hw152 => rfl
      case hy152 =>
        intro W hW
        obtain ⟨z0, z1, z2, z3, z4, z5⟩ := hW
        go_simp
        first | done | with_reducible rfl
      case hk152 =>
      try simp only [Act.put, List.setIfInBounds_toArray, List.set_cons_zero, List.set_cons_succ]
      refine anyK_take 10 (oi := ?oo153) ?ho153 (by kernel_rfl) (by kernel_rfl) (by kernel_rfl) (by kernel_rfl) ?hq153 ?hw153 hT1 (fun _ => trivial) (v := ?vv153) ?hy153 ?hk153
      case ho153 => (simp only [List.getElem?_toArray, List.getElem?_cons_succ, List.getElem?_cons_zero]; rfl)
      case hq153 => exact fun _ _ _ h => h
      case hw153 => rfl
      case hy153 =>
        intro W hW
        go_simp
        first | done | with_reducible rfl
      case hk153 =>
      try simp only [Act.put, List.setIfInBounds_toArray, List.set_cons_zero, List.set_cons_succ]
      refine anyK_on1 11 (by kernel_rfl) ?_
      refine anyK_one 11 (o := ?oo154) ?ho154 ?hk154
      case ho154 => (simp only [List.getElem?_toArray, List.getElem?_cons_succ, List.getElem?_cons_zero]; rfl)
      case hk154 =>
      intro K hK
      go_simp
      refine (HPO.out _ (ext_trans XF.out yy)).mono ?_
      rintro e wa2 ⟨v8, rfl, p8, xx⟩
      try go_wp2_with fail
      replace yy := ext_trans yy xx
      have HP8 := hide p8
      clear p8
      have hT2 := keepK.out _ yy
      refine hK.out _ _ hT2 (fun _ => trivial) ?_
      clear hK K
      try simp only [Act.put, List.setIfInBounds_toArray, List.set_cons_zero, List.set_cons_succ]
      refine anyK_on1 12 (by kernel_rfl) ?_
      refine anyK_one 12 (o := ?oo155) ?ho155 ?hk155
      case ho155 => (simp only [List.getElem?_toArray, List.getElem?_cons_succ, List.getElem?_cons_zero]; rfl)
      case hk155 =>
      intro K hK
      go_simp
      refine (HSM.out _ _ _ (HPF.out.ext yy).at_ HP8.out.at_).mono ?_
      rintro e wa3 ⟨rfl, xx⟩
      try go_wp2_with fail
      replace yy := ext_trans yy xx
      have hT3 := keepK.out _ yy
      refine hK.out _ _ hT3 (fun _ => trivial) ?_
      clear hK K
      try simp only [Act.put, List.setIfInBounds_toArray, List.set_cons_zero, List.set_cons_succ]
      refine anyK_take 13 (oi := ?oo156) ?ho156 (by kernel_rfl) (by kernel_rfl) (by kernel_rfl) (by kernel_rfl) ?hq156 ?hw156 hT3 (fun _ => trivial) (v := ?vv156) ?hy156 ?hk156
      case ho156 => (simp only [List.getElem?_toArray, List.getElem?_cons_succ, List.getElem?_cons_zero]; rfl)
      case hq156 => exact fun _ _ _ h => h
      case hw156 => rfl
      case hy156 =>
        intro W hW
        go_simp
        first | done | with_reducible rfl
      case hk156 =>
      try simp only [Act.put, List.setIfInBounds_toArray, List.set_cons_zero, List.set_cons_succ]
      refine anyK_take 14 (oi := ?oo157) ?ho157 (by kernel_rfl) (by kernel_rfl) (by kernel_rfl) (by kernel_rfl) ?hq157 ?hw157 hT3 (fun _ => trivial) (v := ?vv157) ?hy157 ?hk157
      case ho157 => (simp only [List.getElem?_toArray, List.getElem?_cons_succ, List.getElem?_cons_zero]; rfl)
      case hq157 => exact fun _ _ _ h => h
      case hw157 => rfl
      case hy157 =>
        intro W hW
        go_simp
        first | done | with_reducible rfl
      case hk157 =>
      try simp only [Act.put, List.setIfInBounds_toArray, List.set_cons_zero, List.set_cons_succ]
      refine anyK_done (by kernel_rfl) ?_ _
      clear keepK hT0 hT1 hT2 hT3
      go_wp2
      go_ret
      exact ⟨rfl, ext_trans XB.out (ext_trans HXW.out (ext_trans XF.out yy))⟩
set_option maxHeartbeats 8000000 in
set_option maxRecDepth 100000 in
theorem plainReplays_go (v : Value) (R : RulesM) (A : Option Addr) (n c : Nat) (z : List Int) (w : World) (hR : RulesAt w v R) (hV : Valid R) (b : Nat) (o : Nat) (hA : A = some ⟨b, o, none⟩) (hn : n ≤ c) (hz : IntsAt w A (z.take n)) (hzl : (z.take n).length = n) (hcm : c ≤ maxLen) :
    Calls Try.prog 12 #[v, .slice A n c] w fun e w' => e = .returned (.bool true) ∧ Ext w w' := by
  have HNW := hide (fun W (v1 : Value) (h1 : RulesAt W v1 R) => New_yes R v1 W h1 hV)
  have HV := hide hV
  clear hV
  obtain ⟨q, hq⟩ : ∃ q : Int, min (n : Int) 30 = q := ⟨_, rfl⟩
  have hmin : ∀ W ats ty, (Builtin.min_ ats ty #[.int .i64 (n : Int), .int .i64 30]).run Try.prog W = .ok (.int .i64 q) W := fun W ats ty => by rw [← hq]; exact run_min3 W ats ty n 30
  subst hA
  have HZ := hide hz
  have HZL := hide hzl
  have q0 : 0 ≤ q := by omega
  have qc : q ≤ (c : Int) := by omega
  have q30 : q ≤ 30 := by omega
  obtain ⟨qn, hqn⟩ := Int.eq_ofNat_of_zero_le q0
  have hqn' : q = (qn : Int) := hqn
  subst hqn'
  have hq1 : qn ≤ n := by omega
  have hq2 : qn ≤ 30 := by omega
  have hq3 : qn ≤ c := by omega
  have hqw : IntKind.i64.wrap (qn : Int) = (qn : Int) := by rw [IntKind.wrap_i64]; omega
  have HQ := hide (And.intro hq1 (And.intro hq2 hq3))
  clear hq hqn hz hzl hn hcm
  have hR0 := hR
  obtain ⟨pA, pc, sA, sc, eA, ec, rfl, -⟩ := hR0
  go_enter Try.func12, Try.ntmps12
  go_wp2_with fail
  obtain ⟨xa, kR⟩ := blks1 w #[.string R.name, .int .i64 R.width, .int .i64 R.height, .slice pA R.pieces.length pc, .slice sA R.start.length sc, .bool R.falls, .bool R.keeps, .slice eA R.ends.length ec, .int .i64 R.blocked, .int .i64 R.quiet, .int .i64 R.rept] 26
  replace hR := hR.ext xa
  have X := xa
  clear xa
  generalize (w.alloc (.cells #[.string R.name, .int .i64 R.width, .int .i64 R.height, .slice pA R.pieces.length pc, .slice sA R.start.length sc, .bool R.falls, .bool R.keeps, .slice eA R.ends.length ec, .int .i64 R.blocked, .int .i64 R.quiet, .int .i64 R.rept] 26)) = w2 at *
  generalize w.heap.size = BR at *
  refine (played_any _).mono ?_
  rintro e w3 ⟨rfl, x⟩
  replace hR := hR.ext x
  replace kR := kR.ext x
  replace X := ext_trans X x
  clear x
  go_wp2_with fail
  refine (plays_any _).mono ?_
  rintro e w4 ⟨rfl, x⟩
  replace hR := hR.ext x
  replace kR := kR.ext x
  replace X := ext_trans X x
  clear x
  have fR := kR.cell
  go_wp2_with fail
  have HR := hide hR
  have KR := hide kR
  have XB := hide X
  refine (HNW.out _ _ hR).mono ?_
  rintro e wn ⟨BG, rfl, hG⟩
  have HG := hide hG
  clear hG fR hR kR X HNW
  go_wp2
  go_loopw [39] (fun i wr => ∃ (k : Nat) (ps : List PosM) (ms : List MoveM), k ≤ qn ∧ i = .int .i64 k ∧ GameAt w4 wr BG R ps ms ∧ Hid (Played R ps ms ∧ ms.length ≤ k)) (fun i _ => qn - (intOf i).toNat)
  case atStart => exact ⟨0, _, _, Nat.zero_le _, rfl, HG.out, hide ⟨played_nil R, Nat.le_refl _⟩⟩
  case round =>
    clear HG
    obtain ⟨k, ps, ms, hk, rfl, hG, hP⟩ := hrel
    have HPD := hP
    obtain ⟨P, hP1, hP2⟩ := hP.out.1.last
    have hl : ps.length ≤ 100000 := by have := hP.out.1.len; have := hP.out.1.bd; omega
    have hlm : ms.length ≤ 100000 := by have := hP.out.1.bd; omega
    have hS := hP.out.1.sound HV.out
    have HSP := hide (hS P (last_mem hP2))
    have HGA := hide hG
    have HPO := hide (fun W (x : Ext wr W) => GPosition_any (hG.ext x) (by omega) (fit_of HV.out hS) hP2)
    have HRE := hide (fun W (x : Ext wr W) => GResult_any (hG.ext x) (by omega) HV.out hS hP2)
    have HRr := hide (HR.out.ext hG.old)
    have KRr := hide (KR.out.ext hG.old)
    have HXW := hide hG.old
    by_cases hlt : k < qn
    · have HAL := hide (fun (v : Value) W (x : Ext wr W) (h : PosAt W v P) => All_yes R P _ v W (HRr.out.ext x) h HV.out HSP.out)
      have HPY := hide (fun (m : MoveM) (hr : resultG R ps P = 0) (hm : m ∈ listM R P) W (x : Ext wr W) => Play_yes (hG.ext x) hl hlm HV.out hS hP2 m hr hm (by have := hP.out.2; have := HQ.out.2.1; omega))
      have HOV := hide (fun (hr : resultG R ps P ≠ 0) W (x : Ext wr W) => Play_over (hG.ext x) hl hlm HV.out hS hP2 ⟨0, 0, 0⟩ hr)
      have HSN := hide (fun (m : MoveM) (hr : resultG R ps P = 0) (hm : m ∈ listM R P) => hP.out.1.snoc hP2 (play4 hr hm (by have := hP.out.2; have := HQ.out.2.1; omega)))
      have HGL := hide (fun (h : listM R P = []) (hg : resultG R ps P = 0) => (by
        unfold resultG at hg
        split at hg
        · omega
        · exact absurd h (moves_open' HSP.out.turn hg) : False))
      have HLL := hide (listM_len HV.out HSP.out)
      obtain ⟨b', o', eA, hcell⟩ := (HZ.out.ext (ext_trans XB.out HXW.out)) k (by rw [HZL.out]; have := HQ.out.1; omega)
      simp only [Option.some.injEq, Addr.mk.injEq, and_true] at eA
      obtain ⟨rfl, rfl⟩ := eA
      have j0 : (0 : Int) ≤ (k : Int) := by omega
      have j1 : (k : Int) < (qn : Int) := by omega
      generalize (z.take n).getD k 0 = pick at *
      by_cases hn1 : pick = -1
      · have t0 : (pick == -1) = true := by simpa using hn1
        clear hn1
        rcases List.eq_nil_or_concat ms with hms | ⟨ms', m, hms⟩
        · have HGb : Hid (GameAt w4 wr BG R ps []) := hide (by rw [← hms]; exact hG)
          clear hG hP hP1 hP2 hl hS hms
          go_wp2_with fail
          refine (Back_no (ms := []) HGb.out).mono ?_
          rintro e wy ⟨rfl, xy⟩
          have HGn := hide (HGA.out.ext xy)
          clear xy hcell
          go_wp2
          go_roundw
          case rel => exact ⟨k + 1, _, _, by omega, by go_num, HGn.out, hide ⟨HPD.out.1, by have := HPD.out.2; omega⟩⟩
          case measure => simp [intOf]; omega
        · obtain ⟨ps', P', hps⟩ : ∃ ps' P', ps = ps' ++ [P'] := by
            have hne : ps ≠ [] := by rintro rfl; simp at hP2
            exact ⟨ps.dropLast, ps.getLast hne, (List.dropLast_concat_getLast hne).symm⟩
          have HGb : Hid (GameAt w4 wr BG R (ps' ++ [P']) (ms' ++ [m])) := hide (by rw [← hps, show ms' ++ [m] = ms by rw [hms, List.concat_eq_append]]; exact hG)
          have HPb : Hid (Played R ps' ms' ∧ ms'.length ≤ k) := hide (by
            have h1 := hP.out.1
            have h2 := hP.out.2
            rw [hps, hms, List.concat_eq_append] at h1
            rw [hms, List.concat_eq_append] at h2
            exact ⟨h1.pop, by simp at h2; omega⟩)
          have b1 : ps'.length ≤ 100000 := by rw [hps] at hl; simp at hl; omega
          have b2 : ms'.length ≤ 100000 := by rw [hms, List.concat_eq_append] at hlm; simp at hlm; omega
          clear hG hP hP1 hP2 hl hS hms hps hlm
          go_wp2_with fail
          refine (Back_yes HGb.out b1 b2).mono ?_
          rintro e wy ⟨rfl, hGn⟩
          have HGn := hide hGn
          clear hGn hcell
          go_wp2
          go_roundw
          case rel => exact ⟨k + 1, ps', ms', by omega, by go_num, HGn.out, hide ⟨HPb.out.1, by have := HPb.out.2; omega⟩⟩
          case measure => simp [intOf]; omega
      · have t0 : (pick == -1) = false := by simpa using hn1
        clear hG hP hP1 hP2 hl hS hn1
        generalize makeM R P = MK at *
        generalize listM R P = L at *
        generalize resultG R ps P = G at *
        go_upto_region 11 with fail
        clear hcell
        have keepK := hide (fun W (h : Ext wr W) => (show (fun W => W.cell? ⟨BR, 0, none⟩ = some (.string R.name) ∧ W.cell? ⟨BR, 1, none⟩ = some (.int .i64 R.width) ∧ W.cell? ⟨BR, 2, none⟩ = some (.int .i64 R.height) ∧ W.cell? ⟨BR, 3, none⟩ = some (.slice pA R.pieces.length pc) ∧ W.cell? ⟨BR, 4, none⟩ = some (.slice sA R.start.length sc) ∧ W.cell? ⟨BR, 5, none⟩ = some (.bool R.falls) ∧ W.cell? ⟨BR, 6, none⟩ = some (.bool R.keeps) ∧ W.cell? ⟨BR, 7, none⟩ = some (.slice eA R.ends.length ec) ∧ W.cell? ⟨BR, 8, none⟩ = some (.int .i64 R.blocked) ∧ W.cell? ⟨BR, 9, none⟩ = some (.int .i64 R.quiet) ∧ W.cell? ⟨BR, 10, none⟩ = some (.int .i64 R.rept) ∧ Ext wr W) W from ⟨(KRr.out.ext h).cell 0, (KRr.out.ext h).cell 1, (KRr.out.ext h).cell 2, (KRr.out.ext h).cell 3, (KRr.out.ext h).cell 4, (KRr.out.ext h).cell 5, (KRr.out.ext h).cell 6, (KRr.out.ext h).cell 7, (KRr.out.ext h).cell 8, (KRr.out.ext h).cell 9, (KRr.out.ext h).cell 10, h⟩))
        have yy : Ext wr wr.drew := Below.drew (Below.refl _ _)
        refine region_K (fun W => W.cell? ⟨BR, 0, none⟩ = some (.string R.name) ∧ W.cell? ⟨BR, 1, none⟩ = some (.int .i64 R.width) ∧ W.cell? ⟨BR, 2, none⟩ = some (.int .i64 R.height) ∧ W.cell? ⟨BR, 3, none⟩ = some (.slice pA R.pieces.length pc) ∧ W.cell? ⟨BR, 4, none⟩ = some (.slice sA R.start.length sc) ∧ W.cell? ⟨BR, 5, none⟩ = some (.bool R.falls) ∧ W.cell? ⟨BR, 6, none⟩ = some (.bool R.keeps) ∧ W.cell? ⟨BR, 7, none⟩ = some (.slice eA R.ends.length ec) ∧ W.cell? ⟨BR, 8, none⟩ = some (.int .i64 R.blocked) ∧ W.cell? ⟨BR, 9, none⟩ = some (.int .i64 R.quiet) ∧ W.cell? ⟨BR, 10, none⟩ = some (.int .i64 R.rept) ∧ Ext wr W) (fun _ => True) [] (by kernel_rfl) ?_
        have hT0 := keepK.out _ yy
        refine anyK_take 0 (oi := ?oo159) ?ho159 (by kernel_rfl) (by kernel_rfl) (by kernel_rfl) (by kernel_rfl) ?hq159 ?hw159 hT0 (fun _ => trivial) (v := ?vv159) ?hy159 ?hk159
        case ho159 => (simp only [List.getElem?_toArray, List.getElem?_cons_succ, List.getElem?_cons_zero]; rfl)
        case hq159 => exact fun _ _ _ h => h
        case hw159 => rfl
        case hy159 =>
          intro W hW
          obtain ⟨z0, z1, z2, z3, z4, z5, z6, z7, z8, z9, z10, z11⟩ := hW
          go_simp
          first | done | with_reducible rfl
        case hk159 =>
        try simp only [Act.put, List.setIfInBounds_toArray, List.set_cons_zero, List.set_cons_succ]
        refine anyK_take 1 (oi := ?oo160) ?ho160 (by kernel_rfl) (by kernel_rfl) (by kernel_rfl) (by kernel_rfl) ?hq160 ?hw160 hT0 (fun _ => trivial) (v := ?vv160) ?hy160 ?hk160
        case ho160 => (simp only [List.getElem?_toArray, List.getElem?_cons_succ, List.getElem?_cons_zero]; rfl)
        case hq160 => exact fun _ _ _ h => h
        case hw160 => rfl
        case hy160 =>
          intro W hW
          go_simp
          first | done | with_reducible rfl
        case hk160 =>
        try simp only [Act.put, List.setIfInBounds_toArray, List.set_cons_zero, List.set_cons_succ]
        refine anyK_on1 2 (by kernel_rfl) ?_
        refine anyK_one 2 (o := ?oo161) ?ho161 ?hk161
        case ho161 => (simp only [List.getElem?_toArray, List.getElem?_cons_succ, List.getElem?_cons_zero]; rfl)
        case hk161 =>
        intro K hK
        go_simp
        refine (HPO.out _ yy).mono ?_
        rintro e wv ⟨v7, rfl, p7, xx⟩
        try go_wp2_with fail
        replace yy := ext_trans yy xx
        have HP7 := hide p7
        clear p7
        have hT1 := keepK.out _ yy
        refine hK.out _ _ hT1 (fun _ => trivial) ?_
        clear hK K
        try simp only [Act.put, List.setIfInBounds_toArray, List.set_cons_zero, List.set_cons_succ]
        refine anyK_on1 3 (by kernel_rfl) ?_
        refine anyK_one 3 (o := ?oo162) ?ho162 ?hk162
        case ho162 => (simp only [List.getElem?_toArray, List.getElem?_cons_succ, List.getElem?_cons_zero]; rfl)
        case hk162 =>
        intro K hK
        go_simp
        refine (HAL.out _ _ yy HP7.out.at_).mono ?_
        rintro e ww ⟨v8, rfl, own8, xx⟩
        try go_wp2_with fail
        replace yy := ext_trans yy xx
        replace own8 := own8.at_
        have HL8 := hide own8
        clear own8
        have hT2 := keepK.out _ yy
        refine hK.out _ _ hT2 (fun _ => trivial) ?_
        clear hK K
        try simp only [Act.put, List.setIfInBounds_toArray, List.set_cons_zero, List.set_cons_succ]
        refine anyK_take 4 (oi := ?oo163) ?ho163 (by kernel_rfl) (by kernel_rfl) (by kernel_rfl) (by kernel_rfl) ?hq163 ?hw163 hT2 (fun _ => trivial) (v := ?vv163) ?hy163 ?hk163
        case ho163 => (simp only [List.getElem?_toArray, List.getElem?_cons_succ, List.getElem?_cons_zero]; rfl)
        case hq163 => exact fun _ _ _ h => h
        case hw163 => rfl
        case hy163 =>
          intro W hW
          go_simp
          first | done | with_reducible rfl
        case hk163 =>
        try simp only [Act.put, List.setIfInBounds_toArray, List.set_cons_zero, List.set_cons_succ]
        refine anyK_take 5 (oi := ?oo164) ?ho164 (by kernel_rfl) (by kernel_rfl) (by kernel_rfl) (by kernel_rfl) ?hq164 ?hw164 hT2 (fun _ => trivial) (v := ?vv164) ?hy164 ?hk164
        case ho164 => (simp only [List.getElem?_toArray, List.getElem?_cons_succ, List.getElem?_cons_zero]; rfl)
        case hq164 => exact fun _ _ _ h => h
        case hw164 => rfl
        case hy164 =>
          intro W hW
          go_simp
          first | done | with_reducible rfl
        case hk164 =>
        try simp only [Act.put, List.setIfInBounds_toArray, List.set_cons_zero, List.set_cons_succ]
        refine anyK_take 6 (oi := ?oo165) ?ho165 (by kernel_rfl) (by kernel_rfl) (by kernel_rfl) (by kernel_rfl) ?hq165 ?hw165 hT2 (fun _ => trivial) (v := ?vv165) ?hy165 ?hk165
        case ho165 => (simp only [List.getElem?_toArray, List.getElem?_cons_succ, List.getElem?_cons_zero]; rfl)
        case hq165 => exact fun _ _ _ h => h
        case hw165 => rfl
        case hy165 =>
          intro W hW
          go_simp
          first | done | with_reducible rfl
        case hk165 =>
        try simp only [Act.put, List.setIfInBounds_toArray, List.set_cons_zero, List.set_cons_succ]
        refine anyK_take 7 (oi := ?oo166) ?ho166 (by kernel_rfl) (by kernel_rfl) (by kernel_rfl) (by kernel_rfl) ?hq166 ?hw166 hT2 (fun _ => trivial) (v := ?vv166) ?hy166 ?hk166
        case ho166 => (simp only [List.getElem?_toArray, List.getElem?_cons_succ, List.getElem?_cons_zero]; rfl)
        case hq166 => exact fun _ _ _ h => h
        case hw166 => rfl
        case hy166 =>
          intro W hW
          go_simp
          first | done | with_reducible rfl
        case hk166 =>
        try simp only [Act.put, List.setIfInBounds_toArray, List.set_cons_zero, List.set_cons_succ]
        refine anyK_take 8 (oi := ?oo167) ?ho167 (by kernel_rfl) (by kernel_rfl) (by kernel_rfl) (by kernel_rfl) ?hq167 ?hw167 hT2 (fun _ => trivial) (v := ?vv167) ?hy167 ?hk167
        case ho167 => (simp only [List.getElem?_toArray, List.getElem?_cons_succ, List.getElem?_cons_zero]; rfl)
        case hq167 => exact fun _ _ _ h => h
        case hw167 => rfl
        case hy167 =>
          intro W hW
          go_simp
          first | done | with_reducible rfl
        case hk167 =>
        try simp only [Act.put, List.setIfInBounds_toArray, List.set_cons_zero, List.set_cons_succ]
        refine anyK_done (by kernel_rfl) ?_ _
        clear keepK hT0 hT1 hT2
        have X9 := hide yy
        clear yy xx HP7
        have HL9 := HL8.out
        obtain ⟨A8, c8, rfl, -⟩ := HL9
        by_cases hL : L = []
        · have hg := HGL.out hL
          have tl : ((L.length : Int) == 0) = true := by simp [hL]
          clear hL
          have HOV2 := hide (HOV.out hg)
          go_wp2_with fail
          refine (HOV2.out _ X9.out).mono ?_
          rintro e wy ⟨rfl, xy⟩
          have HGn := hide (HGA.out.ext (ext_trans X9.out xy))
          clear xy
          go_wp2
          go_roundw
          case rel => exact ⟨k + 1, _, _, by omega, by go_num, HGn.out, hide ⟨HPD.out.1, by have := HPD.out.2; omega⟩⟩
          case measure => simp [intOf]; omega
        · have tl : ((L.length : Int) == 0) = false := by simpa using hL
          have hpos : ¬ L.length = 0 := fun h => hL (List.eq_nil_of_length_eq_zero h)
          have HSM := hide (fun W (h : MovesAt W (.slice A8 L.length c8) L) => some_move L pick _ W h HLL.out hL)
          clear hL
          go_wp2_with fail
          refine (HRE.out _ X9.out).mono ?_
          rintro e wx ⟨rfl, xx⟩
          have X10 := hide (ext_trans X9.out xx)
          have HL10 := hide (MovesAt.ext HL8.out xx)
          clear xx
          by_cases hg : G = 0
          · subst hg
            go_wp2_with fail
            refine (HSM.out _ HL10.out).mono ?_
            rintro e wy ⟨m, hm, rfl, xy⟩
            have HPY2 := hide (HPY.out m (by first | rfl | trivial) hm _ (ext_trans X10.out xy))
            have HSN2 := hide (HSN.out m (by first | rfl | trivial) hm)
            clear hm xy
            go_wp2_with fail
            refine HPY2.out.mono ?_
            rintro e wz ⟨rfl, hG2⟩
            have HG2 := hide hG2
            clear hG2
            go_wp2
            go_roundw
            case rel => exact ⟨k + 1, _, _, by omega, by go_num, HG2.out, hide ⟨HSN2.out, by have := HPD.out.2; simp; omega⟩⟩
            case measure => simp [intOf]; omega
          · have tg : (G != 0) = true := by simpa using hg
            have HOV2 := hide (HOV.out hg)
            go_wp2_with fail
            refine (HOV2.out _ X10.out).mono ?_
            rintro e wy ⟨rfl, xy⟩
            have HGn := hide (HGA.out.ext (ext_trans X10.out xy))
            clear xy
            go_wp2
            go_roundw
            case rel => exact ⟨k + 1, _, _, by omega, by go_num, HGn.out, hide ⟨HPD.out.1, by have := HPD.out.2; omega⟩⟩
            case measure => simp [intOf]; omega
    · obtain rfl : k = qn := by omega
      have HMV := hide (fun W (x : Ext wr W) => GMoves_any (hG.ext x) hlm)
      have HRN := hide (fun (u : Value) W (x : Ext wr W) (h : MovesAt W u ms) => Run_yes R _ u ps ms P W (HRr.out.ext x) HV.out h hP.out.1 hP2)
      have HFT := fit_of HV.out hS P (last_mem hP2)
      have HSM := hide (fun W (v1 v2 : Value) (h1 : PosAt W v1 P) (h2 : PosAt W v2 P) => same_yes P v1 v2 W h1 h2 HFT.2.2.2.1 HFT.2.2.2.2.1 HFT.2.2.2.2.2)
      clear hG hP hP1 hP2 hl hS hlm HFT
      generalize resultG R ps P = G at *
      go_upto_region 20 with fail
      have keepK := hide (fun W (h : Ext wr W) => (show (fun W => W.cell? ⟨BR, 0, none⟩ = some (.string R.name) ∧ W.cell? ⟨BR, 1, none⟩ = some (.int .i64 R.width) ∧ W.cell? ⟨BR, 2, none⟩ = some (.int .i64 R.height) ∧ W.cell? ⟨BR, 3, none⟩ = some (.slice pA R.pieces.length pc) ∧ W.cell? ⟨BR, 4, none⟩ = some (.slice sA R.start.length sc) ∧ W.cell? ⟨BR, 5, none⟩ = some (.bool R.falls) ∧ W.cell? ⟨BR, 6, none⟩ = some (.bool R.keeps) ∧ W.cell? ⟨BR, 7, none⟩ = some (.slice eA R.ends.length ec) ∧ W.cell? ⟨BR, 8, none⟩ = some (.int .i64 R.blocked) ∧ W.cell? ⟨BR, 9, none⟩ = some (.int .i64 R.quiet) ∧ W.cell? ⟨BR, 10, none⟩ = some (.int .i64 R.rept) ∧ Ext wr W) W from ⟨(KRr.out.ext h).cell 0, (KRr.out.ext h).cell 1, (KRr.out.ext h).cell 2, (KRr.out.ext h).cell 3, (KRr.out.ext h).cell 4, (KRr.out.ext h).cell 5, (KRr.out.ext h).cell 6, (KRr.out.ext h).cell 7, (KRr.out.ext h).cell 8, (KRr.out.ext h).cell 9, (KRr.out.ext h).cell 10, h⟩))
      have yy : Ext wr wr.drew := Below.drew (Below.refl _ _)
      refine region_K (fun W => W.cell? ⟨BR, 0, none⟩ = some (.string R.name) ∧ W.cell? ⟨BR, 1, none⟩ = some (.int .i64 R.width) ∧ W.cell? ⟨BR, 2, none⟩ = some (.int .i64 R.height) ∧ W.cell? ⟨BR, 3, none⟩ = some (.slice pA R.pieces.length pc) ∧ W.cell? ⟨BR, 4, none⟩ = some (.slice sA R.start.length sc) ∧ W.cell? ⟨BR, 5, none⟩ = some (.bool R.falls) ∧ W.cell? ⟨BR, 6, none⟩ = some (.bool R.keeps) ∧ W.cell? ⟨BR, 7, none⟩ = some (.slice eA R.ends.length ec) ∧ W.cell? ⟨BR, 8, none⟩ = some (.int .i64 R.blocked) ∧ W.cell? ⟨BR, 9, none⟩ = some (.int .i64 R.quiet) ∧ W.cell? ⟨BR, 10, none⟩ = some (.int .i64 R.rept) ∧ Ext wr W) (fun _ => True) [] (by kernel_rfl) ?_
      have hT0 := keepK.out _ yy
      refine anyK_take 0 (oi := ?oo168) ?ho168 (by kernel_rfl) (by kernel_rfl) (by kernel_rfl) (by kernel_rfl) ?hq168 ?hw168 hT0 (fun _ => trivial) (v := ?vv168) ?hy168 ?hk168
      case ho168 => (simp only [List.getElem?_toArray, List.getElem?_cons_succ, List.getElem?_cons_zero]; rfl)
      case hq168 => exact fun _ _ _ h => h
      case hw168 => rfl
      case hy168 =>
        intro W hW
        obtain ⟨z0, z1, z2, z3, z4, z5, z6, z7, z8, z9, z10, z11⟩ := hW
        go_simp
        first | done | with_reducible rfl
      case hk168 =>
      try simp only [Act.put, List.setIfInBounds_toArray, List.set_cons_zero, List.set_cons_succ]
      refine anyK_take 1 (oi := ?oo169) ?ho169 (by kernel_rfl) (by kernel_rfl) (by kernel_rfl) (by kernel_rfl) ?hq169 ?hw169 hT0 (fun _ => trivial) (v := ?vv169) ?hy169 ?hk169
      case ho169 => (simp only [List.getElem?_toArray, List.getElem?_cons_succ, List.getElem?_cons_zero]; rfl)
      case hq169 => exact fun _ _ _ h => h
      case hw169 => rfl
      case hy169 =>
        intro W hW
        go_simp
        first | done | with_reducible rfl
      case hk169 =>
      try simp only [Act.put, List.setIfInBounds_toArray, List.set_cons_zero, List.set_cons_succ]
      refine anyK_on2 2 8 (by kernel_rfl) ?_ ?_
      · skip
        refine anyK_one 2 (o := ?oo170) ?ho170 ?hk170
        case ho170 => (simp only [List.getElem?_toArray, List.getElem?_cons_succ, List.getElem?_cons_zero]; rfl)
        case hk170 =>
        intro K hK
        go_simp
        refine (HMV.out _ yy).mono ?_
        rintro e wm ⟨v6, rfl, own6, xx⟩
        try go_wp2_with fail
        replace yy := ext_trans yy xx
        have HM6 := hide own6.at_
        clear own6
        try (replace KN := hide (KN.out.ext xx))
        have hT1 := keepK.out _ yy
        refine hK.out _ _ hT1 (fun _ => trivial) ?_
        clear hK K
        try simp only [Act.put, List.setIfInBounds_toArray, List.set_cons_zero, List.set_cons_succ]
        refine anyK_on2 3 8 (by kernel_rfl) ?_ ?_
        · skip
          refine anyK_one 3 (o := ?oo171) ?ho171 ?hk171
          case ho171 => (simp only [List.getElem?_toArray, List.getElem?_cons_succ, List.getElem?_cons_zero]; rfl)
          case hk171 =>
          intro K hK
          go_simp
          refine (HRN.out _ _ yy HM6.out).mono ?_
          rintro e wn2 ⟨v7, rfl, p7, xx⟩
          try go_wp2_with fail
          replace yy := ext_trans yy xx
          have HP7 := hide p7
          obtain ⟨g0, d0, g1, d1, g2, d2, rfl, -⟩ := p7
          try (replace KN := hide (KN.out.ext xx))
          have hT2 := keepK.out _ yy
          refine hK.out _ _ hT2 (fun _ => trivial) ?_
          clear hK K
          try simp only [Act.put, List.setIfInBounds_toArray, List.set_cons_zero, List.set_cons_succ]
          refine anyK_take 4 (oi := ?oo172) ?ho172 (by kernel_rfl) (by kernel_rfl) (by kernel_rfl) (by kernel_rfl) ?hq172 ?hw172 hT2 (fun _ => trivial) (v := ?vv172) ?hy172 ?hk172
          case ho172 => (simp only [List.getElem?_toArray, List.getElem?_cons_succ, List.getElem?_cons_zero]; rfl)
          case hq172 => exact fun _ _ _ h => h
          case hw172 => rfl
          case hy172 =>
            intro W hW
            go_simp
            first | done | with_reducible rfl
          case hk172 =>
          try simp only [Act.put, List.setIfInBounds_toArray, List.set_cons_zero, List.set_cons_succ]
          refine anyK_take 5 (oi := ?oo173) ?ho173 (by kernel_rfl) (by kernel_rfl) (by kernel_rfl) (by kernel_rfl) ?hq173 ?hw173 hT2 (fun _ => trivial) (v := ?vv173) ?hy173 ?hk173
          case ho173 => (simp only [List.getElem?_toArray, List.getElem?_cons_succ, List.getElem?_cons_zero]; rfl)
          case hq173 => exact fun _ _ _ h => h
          case hw173 => rfl
          case hy173 =>
            intro W hW
            go_simp
            first | done | with_reducible rfl
          case hk173 =>
          try simp only [Act.put, List.setIfInBounds_toArray, List.set_cons_zero, List.set_cons_succ]
          refine anyK_take 6 (oi := ?oo174) ?ho174 (by kernel_rfl) (by kernel_rfl) (by kernel_rfl) (by kernel_rfl) ?hq174 ?hw174 hT2 (fun _ => trivial) (v := ?vv174) ?hy174 ?hk174
          case ho174 => (simp only [List.getElem?_toArray, List.getElem?_cons_succ, List.getElem?_cons_zero]; rfl)
          case hq174 => exact fun _ _ _ h => h
          case hw174 => rfl
          case hy174 =>
            intro W hW
            go_simp
            first | done | with_reducible rfl
          case hk174 =>
          try simp only [Act.put, List.setIfInBounds_toArray, List.set_cons_zero, List.set_cons_succ]
          refine anyK_take 7 (oi := ?oo175) ?ho175 (by kernel_rfl) (by kernel_rfl) (by kernel_rfl) (by kernel_rfl) ?hq175 ?hw175 hT2 (fun _ => trivial) (v := ?vv175) ?hy175 ?hk175
          case ho175 => (simp only [List.getElem?_toArray, List.getElem?_cons_succ, List.getElem?_cons_zero]; rfl)
          case hq175 => exact fun _ _ _ h => h
          case hw175 => rfl
          case hy175 =>
            intro W hW
            go_simp
            first | done | with_reducible rfl
          case hk175 =>
          try simp only [Act.put, List.setIfInBounds_toArray, List.set_cons_zero, List.set_cons_succ]
          refine anyK_on1 8 (by kernel_rfl) ?_
          refine anyK_one 8 (o := ?oo176) ?ho176 ?hk176
          case ho176 => (simp only [List.getElem?_toArray, List.getElem?_cons_succ, List.getElem?_cons_zero]; rfl)
          case hk176 =>
          intro K hK
          go_simp
          have hnb0 : wr.heap.size ≤ wn2.heap.size := (yy : Ext wr wn2).size
          have HNB0 := hide hnb0
          clear hnb0
          have KN : Hid (Blk (wn2.alloc (.cells #[.slice none 0 0, .slice none 0 0, .slice none 0 0, .int .i64 0, .int .i64 0] 29)) wn2.heap.size 29 #[.slice none 0 0, .slice none 0 0, .slice none 0 0, .int .i64 0, .int .i64 0]) := hide (Blk.new wn2 29 #[.slice none 0 0, .slice none 0 0, .slice none 0 0, .int .i64 0, .int .i64 0])
          try (replace HM6 := hide (MovesAt.ext HM6.out (ext_alloc (Below.refl _ _) (.cells #[.slice none 0 0, .slice none 0 0, .slice none 0 0, .int .i64 0, .int .i64 0] 29))))
          try (replace HP7 := hide (HP7.out.ext (ext_alloc (Below.refl _ _) (.cells #[.slice none 0 0, .slice none 0 0, .slice none 0 0, .int .i64 0, .int .i64 0] 29))))
          generalize hBN : wn2.heap.size = BN at *
          have HNB : Hid (wr.heap.size ≤ BN) := hide (by have h : wr.heap.size ≤ wn2.heap.size := (yy : Ext wr wn2).size; omega)
          clear hBN HNB0
          replace yy := ext_alloc yy (.cells #[.slice none 0 0, .slice none 0 0, .slice none 0 0, .int .i64 0, .int .i64 0] 29)
          have hT3 := keepK.out _ yy
          refine hK.out _ _ hT3 (fun _ => trivial) ?_
          clear hK K
          try simp only [Act.put, List.setIfInBounds_toArray, List.set_cons_zero, List.set_cons_succ]
          refine anyK_on1 9 (by kernel_rfl) ?_
          refine anyK_one 9 (o := ?oo177) ?ho177 ?hk177
          case ho177 => (simp only [List.getElem?_toArray, List.getElem?_cons_succ, List.getElem?_cons_zero]; rfl)
          case hk177 =>
          intro K hK
          have q5 := KN.out.cell
          have z5 := KN.out.frozen
          have KPF := hide (blk_set5 KN.out (u0 := .slice (some ⟨g0, 0, none⟩) P.cells.length d0) (u1 := .slice (some ⟨g1, 0, none⟩) P.hand0.length d1) (u2 := .slice (some ⟨g2, 0, none⟩) P.hand1.length d2) (u3 := .int .i64 P.turn) (u4 := .int .i64 P.quiet))
          have HPF := hide (PosI.far5 (u0 := .slice (some ⟨g0, 0, none⟩) P.cells.length d0) (u1 := .slice (some ⟨g1, 0, none⟩) P.hand0.length d1) (u2 := .slice (some ⟨g2, 0, none⟩) P.hand1.length d2) (u3 := .int .i64 P.turn) (u4 := .int .i64 P.quiet) HP7.out KN.out)
          replace yy := ext5 (u0 := .slice (some ⟨g0, 0, none⟩) P.cells.length d0) (u1 := .slice (some ⟨g1, 0, none⟩) P.hand0.length d1) (u2 := .slice (some ⟨g2, 0, none⟩) P.hand1.length d2) (u3 := .int .i64 P.turn) (u4 := .int .i64 P.quiet) yy HNB.out
          go_simp
          clear q5 z5
          have hT4 := keepK.out _ yy
          refine hK.out _ _ hT4 (fun _ => trivial) ?_
          clear hK K
          try simp only [Act.put, List.setIfInBounds_toArray, List.set_cons_zero, List.set_cons_succ]
          refine anyK_take 10 (oi := ?oo178) ?ho178 (by kernel_rfl) (by kernel_rfl) (by kernel_rfl) (by kernel_rfl) ?hq178 ?hw178 hT4 (fun _ => trivial) (v := ?vv178) ?hy178 ?hk178
          case ho178 => (simp only [List.getElem?_toArray, List.getElem?_cons_succ, List.getElem?_cons_zero]; rfl)
          case hq178 => exact fun _ _ _ h => h
          case hw178 => rfl
          case hy178 =>
            intro W hW
            go_simp
            first | done | with_reducible rfl
          case hk178 =>
          try simp only [Act.put, List.setIfInBounds_toArray, List.set_cons_zero, List.set_cons_succ]
          refine anyK_take 11 (oi := ?oo179) ?ho179 (by kernel_rfl) (by kernel_rfl) (by kernel_rfl) (by kernel_rfl) ?hq179 ?hw179 hT4 (fun _ => trivial) (v := ?vv179) ?hy179 ?hk179
          case ho179 => (simp only [List.getElem?_toArray, List.getElem?_cons_succ, List.getElem?_cons_zero]; rfl)
          case hq179 => exact fun _ _ _ h => h
          case hw179 => rfl
          case hy179 =>
            intro W hW
            go_simp
            first | done | with_reducible rfl
          case hk179 =>
          try simp only [Act.put, List.setIfInBounds_toArray, List.set_cons_zero, List.set_cons_succ]
          refine anyK_done (by kernel_rfl) ?_ _
          clear keepK hT0 hT1 hT2 hT3 hT4
          have XF := hide yy
          clear yy KN HNB HP7 HM6
          generalize ((((((wn2.alloc (.cells #[.slice none 0 0, .slice none 0 0, .slice none 0 0, .int .i64 0, .int .i64 0] 29)).setCell ⟨BN, 0, none⟩ (.slice (some ⟨g0, 0, none⟩) P.cells.length d0)).setCell ⟨BN, 1, none⟩ (.slice (some ⟨g1, 0, none⟩) P.hand0.length d1)).setCell ⟨BN, 2, none⟩ (.slice (some ⟨g2, 0, none⟩) P.hand1.length d2)).setCell ⟨BN, 3, none⟩ (.int .i64 P.turn)).setCell ⟨BN, 4, none⟩ (.int .i64 P.quiet)) = wf at *
          go_upto_region 21 with fail
          have keepK := hide (fun W (h : Ext wf W) => (show (fun W => W.cell? ⟨BN, 0, none⟩ = some (.slice (some ⟨g0, 0, none⟩) P.cells.length d0) ∧ W.cell? ⟨BN, 1, none⟩ = some (.slice (some ⟨g1, 0, none⟩) P.hand0.length d1) ∧ W.cell? ⟨BN, 2, none⟩ = some (.slice (some ⟨g2, 0, none⟩) P.hand1.length d2) ∧ W.cell? ⟨BN, 3, none⟩ = some (.int .i64 P.turn) ∧ W.cell? ⟨BN, 4, none⟩ = some (.int .i64 P.quiet) ∧ Ext wf W) W from ⟨(KPF.out.ext h).cell 0, (KPF.out.ext h).cell 1, (KPF.out.ext h).cell 2, (KPF.out.ext h).cell 3, (KPF.out.ext h).cell 4, h⟩))
          have yy : Ext wf wf.drew := Below.drew (Below.refl _ _)
          refine region_K (fun W => W.cell? ⟨BN, 0, none⟩ = some (.slice (some ⟨g0, 0, none⟩) P.cells.length d0) ∧ W.cell? ⟨BN, 1, none⟩ = some (.slice (some ⟨g1, 0, none⟩) P.hand0.length d1) ∧ W.cell? ⟨BN, 2, none⟩ = some (.slice (some ⟨g2, 0, none⟩) P.hand1.length d2) ∧ W.cell? ⟨BN, 3, none⟩ = some (.int .i64 P.turn) ∧ W.cell? ⟨BN, 4, none⟩ = some (.int .i64 P.quiet) ∧ Ext wf W) (fun _ => True) [] (by kernel_rfl) ?_
          have hT0 := keepK.out _ yy
          refine anyK_take 0 (oi := ?oo180) ?ho180 (by kernel_rfl) (by kernel_rfl) (by kernel_rfl) (by kernel_rfl) ?hq180 ?hw180 hT0 (fun _ => trivial) (v := ?vv180) ?hy180 ?hk180
          case ho180 => (simp only [List.getElem?_toArray, List.getElem?_cons_succ, List.getElem?_cons_zero]; rfl)
          case hq180 => exact fun _ _ _ h => h
          case hw180 => rfl
          case hy180 =>
            intro W hW
            go_simp
            first | done | with_reducible rfl
          case hk180 =>
          try simp only [Act.put, List.setIfInBounds_toArray, List.set_cons_zero, List.set_cons_succ]
          refine anyK_take 1 (oi := ?oo181) ?ho181 (by kernel_rfl) (by kernel_rfl) (by kernel_rfl) (by kernel_rfl) ?hq181 ?hw181 hT0 (fun _ => trivial) (v := ?vv181) ?hy181 ?hk181
          case ho181 => (simp only [List.getElem?_toArray, List.getElem?_cons_succ, List.getElem?_cons_zero]; rfl)
          case hq181 => exact fun _ _ _ h => h
          case hw181 => rfl
          case hy181 =>
            intro W hW
            go_simp
            first | done | with_reducible rfl
          case hk181 =>
          try simp only [Act.put, List.setIfInBounds_toArray, List.set_cons_zero, List.set_cons_succ]
          refine anyK_take 2 (oi := ?oo182) ?ho182 (by kernel_rfl) (by kernel_rfl) (by kernel_rfl) (by kernel_rfl) ?hq182 ?hw182 hT0 (fun _ => trivial) (v := ?vv182) ?hy182 ?hk182
          case ho182 => (simp only [List.getElem?_toArray, List.getElem?_cons_succ, List.getElem?_cons_zero]; rfl)
          case hq182 => exact fun _ _ _ h => h
          case hw182 => rfl
          case hy182 =>
            intro W hW
            go_simp
            first | done | with_reducible rfl
          case hk182 =>
          try simp only [Act.put, List.setIfInBounds_toArray, List.set_cons_zero, List.set_cons_succ]
          refine anyK_take 3 (oi := ?oo183) ?ho183 (by kernel_rfl) (by kernel_rfl) (by kernel_rfl) (by kernel_rfl) ?hq183 ?hw183 hT0 (fun _ => trivial) (v := ?vv183) ?hy183 ?hk183
          case ho183 => (simp only [List.getElem?_toArray, List.getElem?_cons_succ, List.getElem?_cons_zero]; rfl)
          case hq183 => exact fun _ _ _ h => h
          case hw183 => rfl
          case hy183 =>
            intro W hW
            go_simp
            first | done | with_reducible rfl
          case hk183 =>
          try simp only [Act.put, List.setIfInBounds_toArray, List.set_cons_zero, List.set_cons_succ]
          refine anyK_take 4 (oi := ?oo184) ?ho184 (by kernel_rfl) (by kernel_rfl) (by kernel_rfl) (by kernel_rfl) ?hq184 ?hw184 hT0 (fun _ => trivial) (v := ?vv184) ?hy184 ?hk184
          case ho184 => (simp only [List.getElem?_toArray, List.getElem?_cons_succ, List.getElem?_cons_zero]; rfl)
          case hq184 => exact fun _ _ _ h => h
          case hw184 => rfl
          case hy184 =>
            intro W hW
            go_simp
            first | done | with_reducible rfl
          case hk184 =>
          try simp only [Act.put, List.setIfInBounds_toArray, List.set_cons_zero, List.set_cons_succ]
          refine anyK_on1 5 (by kernel_rfl) ?_
          refine anyK_one 5 (o := ?oo185) ?ho185 ?hk185
          case ho185 => (simp only [List.getElem?_toArray, List.getElem?_cons_succ, List.getElem?_cons_zero]; rfl)
          case hk185 =>
          intro K hK
          go_simp
          refine (HRE.out _ (ext_trans XF.out yy)).mono ?_
          rintro e wa1 ⟨rfl, xx⟩
          try go_wp2_with fail
          replace yy := ext_trans yy xx
          have hT1 := keepK.out _ yy
          refine hK.out _ _ hT1 (fun _ => trivial) ?_
          clear hK K
          try simp only [Act.put, List.setIfInBounds_toArray, List.set_cons_zero, List.set_cons_succ]
          refine anyK_take 6 (oi := ?oo186) ?ho186 (by kernel_rfl) (by kernel_rfl) (by kernel_rfl) (by kernel_rfl) ?hq186 ?hw186 hT1 (fun _ => trivial) (v := ?vv186) ?hy186 ?hk186
          case ho186 => (simp only [List.getElem?_toArray, List.getElem?_cons_succ, List.getElem?_cons_zero]; rfl)
          case hq186 => exact fun _ _ _ h => h
          case hw186 => rfl
          case hy186 =>
            intro W hW
            go_simp
            first | done | with_reducible rfl
          case hk186 =>
          try simp only [Act.put, List.setIfInBounds_toArray, List.set_cons_zero, List.set_cons_succ]
          refine anyK_take 7 (oi := ?oo187) ?ho187 (by kernel_rfl) (by kernel_rfl) (by kernel_rfl) (by kernel_rfl) ?hq187 ?hw187 hT1 (fun _ => trivial) (v := ?vv187) ?hy187 ?hk187
          case ho187 => (simp only [List.getElem?_toArray, List.getElem?_cons_succ, List.getElem?_cons_zero]; rfl)
          case hq187 => exact fun _ _ _ h => h
          case hw187 => rfl
          case hy187 =>
            intro W hW
            go_simp
            first | done | with_reducible rfl
          case hk187 =>
          try simp only [Act.put, List.setIfInBounds_toArray, List.set_cons_zero, List.set_cons_succ]
          refine anyK_take 8 (oi := ?oo188) ?ho188 (by kernel_rfl) (by kernel_rfl) (by kernel_rfl) (by kernel_rfl) ?hq188 ?hw188 hT1 (fun _ => trivial) (v := ?vv188) ?hy188 ?hk188
          case ho188 => (simp only [List.getElem?_toArray, List.getElem?_cons_succ, List.getElem?_cons_zero]; rfl)
          case hq188 => exact fun _ _ _ h => h
          case hw188 => rfl
          case hy188 =>
            intro W hW
            go_simp
            first | done | with_reducible rfl
          case hk188 =>
          try simp only [Act.put, List.setIfInBounds_toArray, List.set_cons_zero, List.set_cons_succ]
          refine anyK_take 9 (oi := ?oo189) ?ho189 (by kernel_rfl) (by kernel_rfl) (by kernel_rfl) (by kernel_rfl) ?hq189 ?hw189 hT1 (fun _ => trivial) (v := ?vv189) ?hy189 ?hk189
          case ho189 => (simp only [List.getElem?_toArray, List.getElem?_cons_succ, List.getElem?_cons_zero]; rfl)
          case hq189 => exact fun _ _ _ h => h
          case hw189 => rfl
          case hy189 =>
            intro W hW
            obtain ⟨z0, z1, z2, z3, z4, z5⟩ := hW
            go_simp
            first | done | with_reducible rfl
          case hk189 =>
          try simp only [Act.put, List.setIfInBounds_toArray, List.set_cons_zero, List.set_cons_succ]
          refine anyK_take 10 (oi := ?oo190) ?ho190 (by kernel_rfl) (by kernel_rfl) (by kernel_rfl) (by kernel_rfl) ?hq190 ?hw190 hT1 (fun _ => trivial) (v := ?vv190) ?hy190 ?hk190
          case ho190 => (simp only [List.getElem?_toArray, List.getElem?_cons_succ, List.getElem?_cons_zero]; rfl)
          case hq190 => exact fun _ _ _ h => h
          case hw190 => rfl
          case hy190 =>
            intro W hW
            go_simp
            first | done | with_reducible rfl
          case hk190 =>
          try simp only [Act.put, List.setIfInBounds_toArray, List.set_cons_zero, List.set_cons_succ]
          refine anyK_on1 11 (by kernel_rfl) ?_
          refine anyK_one 11 (o := ?oo191) ?ho191 ?hk191
          case ho191 => (simp only [List.getElem?_toArray, List.getElem?_cons_succ, List.getElem?_cons_zero]; rfl)
          case hk191 =>
          intro K hK
          go_simp
          refine (HPO.out _ (ext_trans XF.out yy)).mono ?_
          rintro e wa2 ⟨v8, rfl, p8, xx⟩
          try go_wp2_with fail
          replace yy := ext_trans yy xx
          have HP8 := hide p8
          clear p8
          have hT2 := keepK.out _ yy
          refine hK.out _ _ hT2 (fun _ => trivial) ?_
          clear hK K
          try simp only [Act.put, List.setIfInBounds_toArray, List.set_cons_zero, List.set_cons_succ]
          refine anyK_on1 12 (by kernel_rfl) ?_
          refine anyK_one 12 (o := ?oo192) ?ho192 ?hk192
          case ho192 => (simp only [List.getElem?_toArray, List.getElem?_cons_succ, List.getElem?_cons_zero]; rfl)
          case hk192 =>
          intro K hK
          go_simp
          refine (HSM.out _ _ _ (HPF.out.ext yy).at_ HP8.out.at_).mono ?_
          rintro e wa3 ⟨rfl, xx⟩
          try go_wp2_with fail
          replace yy := ext_trans yy xx
          have hT3 := keepK.out _ yy
          refine hK.out _ _ hT3 (fun _ => trivial) ?_
          clear hK K
          try simp only [Act.put, List.setIfInBounds_toArray, List.set_cons_zero, List.set_cons_succ]
          refine anyK_take 13 (oi := ?oo193) ?ho193 (by kernel_rfl) (by kernel_rfl) (by kernel_rfl) (by kernel_rfl) ?hq193 ?hw193 hT3 (fun _ => trivial) (v := ?vv193) ?hy193 ?hk193
          case ho193 => (simp only [List.getElem?_toArray, List.getElem?_cons_succ, List.getElem?_cons_zero]; rfl)
          case hq193 => exact fun _ _ _ h => h
          case hw193 => rfl
          case hy193 =>
            intro W hW
            go_simp
            first | done | with_reducible rfl
          case hk193 =>
          try simp only [Act.put, List.setIfInBounds_toArray, List.set_cons_zero, List.set_cons_succ]
          refine anyK_take 14 (oi := ?oo194) ?ho194 (by kernel_rfl) (by kernel_rfl) (by kernel_rfl) (by kernel_rfl) ?hq194 ?hw194 hT3 (fun _ => trivial) (v := ?vv194) ?hy194 ?hk194
          case ho194 => (simp only [List.getElem?_toArray, List.getElem?_cons_succ, List.getElem?_cons_zero]; rfl)
          case hq194 => exact fun _ _ _ h => h
          case hw194 => rfl
          case hy194 =>
            intro W hW
            go_simp
            first | done | with_reducible rfl
          case hk194 =>
          try simp only [Act.put, List.setIfInBounds_toArray, List.set_cons_zero, List.set_cons_succ]
          refine anyK_done (by kernel_rfl) ?_ _
          clear keepK hT0 hT1 hT2 hT3
          go_wp2
          go_ret
          exact ⟨rfl, ext_trans XB.out (ext_trans HXW.out (ext_trans XF.out yy))⟩
        · skip
          refine anyK_one 8 (o := ?oo196) ?ho196 ?hk196
          case ho196 => (simp only [List.getElem?_toArray, List.getElem?_cons_succ, List.getElem?_cons_zero]; rfl)
          case hk196 =>
          intro K hK
          go_simp
          have hnb0 : wr.heap.size ≤ wm.heap.size := (yy : Ext wr wm).size
          have HNB0 := hide hnb0
          clear hnb0
          have KN : Hid (Blk (wm.alloc (.cells #[.slice none 0 0, .slice none 0 0, .slice none 0 0, .int .i64 0, .int .i64 0] 29)) wm.heap.size 29 #[.slice none 0 0, .slice none 0 0, .slice none 0 0, .int .i64 0, .int .i64 0]) := hide (Blk.new wm 29 #[.slice none 0 0, .slice none 0 0, .slice none 0 0, .int .i64 0, .int .i64 0])
          try (replace HM6 := hide (MovesAt.ext HM6.out (ext_alloc (Below.refl _ _) (.cells #[.slice none 0 0, .slice none 0 0, .slice none 0 0, .int .i64 0, .int .i64 0] 29))))
          try (replace HP7 := hide (HP7.out.ext (ext_alloc (Below.refl _ _) (.cells #[.slice none 0 0, .slice none 0 0, .slice none 0 0, .int .i64 0, .int .i64 0] 29))))
          generalize hBN : wm.heap.size = BN at *
          have HNB : Hid (wr.heap.size ≤ BN) := hide (by have h : wr.heap.size ≤ wm.heap.size := (yy : Ext wr wm).size; omega)
          clear hBN HNB0
          replace yy := ext_alloc yy (.cells #[.slice none 0 0, .slice none 0 0, .slice none 0 0, .int .i64 0, .int .i64 0] 29)
          have hT2 := keepK.out _ yy
          refine hK.out _ _ hT2 (fun _ => trivial) ?_
          clear hK K
          try simp only [Act.put, List.setIfInBounds_toArray, List.set_cons_zero, List.set_cons_succ]
          refine anyK_on1 3 (by kernel_rfl) ?_
          refine anyK_one 3 (o := ?oo197) ?ho197 ?hk197
          case ho197 => (simp only [List.getElem?_toArray, List.getElem?_cons_succ, List.getElem?_cons_zero]; rfl)
          case hk197 =>
          intro K hK
          go_simp
          refine (HRN.out _ _ yy HM6.out).mono ?_
          rintro e wn2 ⟨v7, rfl, p7, xx⟩
          try go_wp2_with fail
          replace yy := ext_trans yy xx
          have HP7 := hide p7
          obtain ⟨g0, d0, g1, d1, g2, d2, rfl, -⟩ := p7
          try (replace KN := hide (KN.out.ext xx))
          have hT3 := keepK.out _ yy
          refine hK.out _ _ hT3 (fun _ => trivial) ?_
          clear hK K
          try simp only [Act.put, List.setIfInBounds_toArray, List.set_cons_zero, List.set_cons_succ]
          refine anyK_take 4 (oi := ?oo198) ?ho198 (by kernel_rfl) (by kernel_rfl) (by kernel_rfl) (by kernel_rfl) ?hq198 ?hw198 hT3 (fun _ => trivial) (v := ?vv198) ?hy198 ?hk198
          case ho198 => (simp only [List.getElem?_toArray, List.getElem?_cons_succ, List.getElem?_cons_zero]; rfl)
          case hq198 => exact fun _ _ _ h => h
          case hw198 => rfl
          case hy198 =>
            intro W hW
            go_simp
            first | done | with_reducible rfl
          case hk198 =>
          try simp only [Act.put, List.setIfInBounds_toArray, List.set_cons_zero, List.set_cons_succ]
          refine anyK_take 5 (oi := ?oo199) ?ho199 (by kernel_rfl) (by kernel_rfl) (by kernel_rfl) (by kernel_rfl) ?hq199 ?hw199 hT3 (fun _ => trivial) (v := ?vv199) ?hy199 ?hk199
          case ho199 => (simp only [List.getElem?_toArray, List.getElem?_cons_succ, List.getElem?_cons_zero]; rfl)
          case hq199 => exact fun _ _ _ h => h
          case hw199 => rfl
          case hy199 =>
            intro W hW
            go_simp
            first | done | with_reducible rfl
          case hk199 =>
          try simp only [Act.put, List.setIfInBounds_toArray, List.set_cons_zero, List.set_cons_succ]
          refine anyK_take 6 (oi := ?oo200) ?ho200 (by kernel_rfl) (by kernel_rfl) (by kernel_rfl) (by kernel_rfl) ?hq200 ?hw200 hT3 (fun _ => trivial) (v := ?vv200) ?hy200 ?hk200
          case ho200 => (simp only [List.getElem?_toArray, List.getElem?_cons_succ, List.getElem?_cons_zero]; rfl)
          case hq200 => exact fun _ _ _ h => h
          case hw200 => rfl
          case hy200 =>
            intro W hW
            go_simp
            first | done | with_reducible rfl
          case hk200 =>
          try simp only [Act.put, List.setIfInBounds_toArray, List.set_cons_zero, List.set_cons_succ]
          refine anyK_take 7 (oi := ?oo201) ?ho201 (by kernel_rfl) (by kernel_rfl) (by kernel_rfl) (by kernel_rfl) ?hq201 ?hw201 hT3 (fun _ => trivial) (v := ?vv201) ?hy201 ?hk201
          case ho201 => (simp only [List.getElem?_toArray, List.getElem?_cons_succ, List.getElem?_cons_zero]; rfl)
          case hq201 => exact fun _ _ _ h => h
          case hw201 => rfl
          case hy201 =>
            intro W hW
            go_simp
            first | done | with_reducible rfl
          case hk201 =>
          try simp only [Act.put, List.setIfInBounds_toArray, List.set_cons_zero, List.set_cons_succ]
          refine anyK_on1 9 (by kernel_rfl) ?_
          refine anyK_one 9 (o := ?oo202) ?ho202 ?hk202
          case ho202 => (simp only [List.getElem?_toArray, List.getElem?_cons_succ, List.getElem?_cons_zero]; rfl)
          case hk202 =>
          intro K hK
          have q5 := KN.out.cell
          have z5 := KN.out.frozen
          have KPF := hide (blk_set5 KN.out (u0 := .slice (some ⟨g0, 0, none⟩) P.cells.length d0) (u1 := .slice (some ⟨g1, 0, none⟩) P.hand0.length d1) (u2 := .slice (some ⟨g2, 0, none⟩) P.hand1.length d2) (u3 := .int .i64 P.turn) (u4 := .int .i64 P.quiet))
          have HPF := hide (PosI.far5 (u0 := .slice (some ⟨g0, 0, none⟩) P.cells.length d0) (u1 := .slice (some ⟨g1, 0, none⟩) P.hand0.length d1) (u2 := .slice (some ⟨g2, 0, none⟩) P.hand1.length d2) (u3 := .int .i64 P.turn) (u4 := .int .i64 P.quiet) HP7.out KN.out)
          replace yy := ext5 (u0 := .slice (some ⟨g0, 0, none⟩) P.cells.length d0) (u1 := .slice (some ⟨g1, 0, none⟩) P.hand0.length d1) (u2 := .slice (some ⟨g2, 0, none⟩) P.hand1.length d2) (u3 := .int .i64 P.turn) (u4 := .int .i64 P.quiet) yy HNB.out
          go_simp
          clear q5 z5
          have hT4 := keepK.out _ yy
          refine hK.out _ _ hT4 (fun _ => trivial) ?_
          clear hK K
          try simp only [Act.put, List.setIfInBounds_toArray, List.set_cons_zero, List.set_cons_succ]
          refine anyK_take 10 (oi := ?oo203) ?ho203 (by kernel_rfl) (by kernel_rfl) (by kernel_rfl) (by kernel_rfl) ?hq203 ?hw203 hT4 (fun _ => trivial) (v := ?vv203) ?hy203 ?hk203
          case ho203 => (simp only [List.getElem?_toArray, List.getElem?_cons_succ, List.getElem?_cons_zero]; rfl)
          case hq203 => exact fun _ _ _ h => h
          case hw203 => rfl
          case hy203 =>
            intro W hW
            go_simp
            first | done | with_reducible rfl
          case hk203 =>
          try simp only [Act.put, List.setIfInBounds_toArray, List.set_cons_zero, List.set_cons_succ]
          refine anyK_take 11 (oi := ?oo204) ?ho204 (by kernel_rfl) (by kernel_rfl) (by kernel_rfl) (by kernel_rfl) ?hq204 ?hw204 hT4 (fun _ => trivial) (v := ?vv204) ?hy204 ?hk204
          case ho204 => (simp only [List.getElem?_toArray, List.getElem?_cons_succ, List.getElem?_cons_zero]; rfl)
          case hq204 => exact fun _ _ _ h => h
          case hw204 => rfl
          case hy204 =>
            intro W hW
            go_simp
            first | done | with_reducible rfl
          case hk204 =>
          try simp only [Act.put, List.setIfInBounds_toArray, List.set_cons_zero, List.set_cons_succ]
          refine anyK_done (by kernel_rfl) ?_ _
          clear keepK hT0 hT1 hT2 hT3 hT4
          have XF := hide yy
          clear yy KN HNB HP7 HM6
          generalize (((((wn2.setCell ⟨BN, 0, none⟩ (.slice (some ⟨g0, 0, none⟩) P.cells.length d0)).setCell ⟨BN, 1, none⟩ (.slice (some ⟨g1, 0, none⟩) P.hand0.length d1)).setCell ⟨BN, 2, none⟩ (.slice (some ⟨g2, 0, none⟩) P.hand1.length d2)).setCell ⟨BN, 3, none⟩ (.int .i64 P.turn)).setCell ⟨BN, 4, none⟩ (.int .i64 P.quiet)) = wf at *
          go_upto_region 21 with fail
          have keepK := hide (fun W (h : Ext wf W) => (show (fun W => W.cell? ⟨BN, 0, none⟩ = some (.slice (some ⟨g0, 0, none⟩) P.cells.length d0) ∧ W.cell? ⟨BN, 1, none⟩ = some (.slice (some ⟨g1, 0, none⟩) P.hand0.length d1) ∧ W.cell? ⟨BN, 2, none⟩ = some (.slice (some ⟨g2, 0, none⟩) P.hand1.length d2) ∧ W.cell? ⟨BN, 3, none⟩ = some (.int .i64 P.turn) ∧ W.cell? ⟨BN, 4, none⟩ = some (.int .i64 P.quiet) ∧ Ext wf W) W from ⟨(KPF.out.ext h).cell 0, (KPF.out.ext h).cell 1, (KPF.out.ext h).cell 2, (KPF.out.ext h).cell 3, (KPF.out.ext h).cell 4, h⟩))
          have yy : Ext wf wf.drew := Below.drew (Below.refl _ _)
          refine region_K (fun W => W.cell? ⟨BN, 0, none⟩ = some (.slice (some ⟨g0, 0, none⟩) P.cells.length d0) ∧ W.cell? ⟨BN, 1, none⟩ = some (.slice (some ⟨g1, 0, none⟩) P.hand0.length d1) ∧ W.cell? ⟨BN, 2, none⟩ = some (.slice (some ⟨g2, 0, none⟩) P.hand1.length d2) ∧ W.cell? ⟨BN, 3, none⟩ = some (.int .i64 P.turn) ∧ W.cell? ⟨BN, 4, none⟩ = some (.int .i64 P.quiet) ∧ Ext wf W) (fun _ => True) [] (by kernel_rfl) ?_
          have hT0 := keepK.out _ yy
          refine anyK_take 0 (oi := ?oo205) ?ho205 (by kernel_rfl) (by kernel_rfl) (by kernel_rfl) (by kernel_rfl) ?hq205 ?hw205 hT0 (fun _ => trivial) (v := ?vv205) ?hy205 ?hk205
          case ho205 => (simp only [List.getElem?_toArray, List.getElem?_cons_succ, List.getElem?_cons_zero]; rfl)
          case hq205 => exact fun _ _ _ h => h
          case hw205 => rfl
          case hy205 =>
            intro W hW
            go_simp
            first | done | with_reducible rfl
          case hk205 =>
          try simp only [Act.put, List.setIfInBounds_toArray, List.set_cons_zero, List.set_cons_succ]
          refine anyK_take 1 (oi := ?oo206) ?ho206 (by kernel_rfl) (by kernel_rfl) (by kernel_rfl) (by kernel_rfl) ?hq206 ?hw206 hT0 (fun _ => trivial) (v := ?vv206) ?hy206 ?hk206
          case ho206 => (simp only [List.getElem?_toArray, List.getElem?_cons_succ, List.getElem?_cons_zero]; rfl)
          case hq206 => exact fun _ _ _ h => h
          case hw206 => rfl
          case hy206 =>
            intro W hW
            go_simp
            first | done | with_reducible rfl
          case hk206 =>
          try simp only [Act.put, List.setIfInBounds_toArray, List.set_cons_zero, List.set_cons_succ]
          refine anyK_take 2 (oi := ?oo207) ?ho207 (by kernel_rfl) (by kernel_rfl) (by kernel_rfl) (by kernel_rfl) ?hq207 ?hw207 hT0 (fun _ => trivial) (v := ?vv207) ?hy207 ?hk207
          case ho207 => (simp only [List.getElem?_toArray, List.getElem?_cons_succ, List.getElem?_cons_zero]; rfl)
          case hq207 => exact fun _ _ _ h => h
          case hw207 => rfl
          case hy207 =>
            intro W hW
            go_simp
            first | done | with_reducible rfl
          case hk207 =>
          try simp only [Act.put, List.setIfInBounds_toArray, List.set_cons_zero, List.set_cons_succ]
          refine anyK_take 3 (oi := ?oo208) ?ho208 (by kernel_rfl) (by kernel_rfl) (by kernel_rfl) (by kernel_rfl) ?hq208 ?hw208 hT0 (fun _ => trivial) (v := ?vv208) ?hy208 ?hk208
          case ho208 => (simp only [List.getElem?_toArray, List.getElem?_cons_succ, List.getElem?_cons_zero]; rfl)
          case hq208 => exact fun _ _ _ h => h
          case hw208 => rfl
          case hy208 =>
            intro W hW
            go_simp
            first | done | with_reducible rfl
          case hk208 =>
          try simp only [Act.put, List.setIfInBounds_toArray, List.set_cons_zero, List.set_cons_succ]
          refine anyK_take 4 (oi := ?oo209) ?ho209 (by kernel_rfl) (by kernel_rfl) (by kernel_rfl) (by kernel_rfl) ?hq209 ?hw209 hT0 (fun _ => trivial) (v := ?vv209) ?hy209 ?hk209
          case ho209 => (simp only [List.getElem?_toArray, List.getElem?_cons_succ, List.getElem?_cons_zero]; rfl)
          case hq209 => exact fun _ _ _ h => h
          case hw209 => rfl
          case hy209 =>
            intro W hW
            go_simp
            first | done | with_reducible rfl
          case hk209 =>
          try simp only [Act.put, List.setIfInBounds_toArray, List.set_cons_zero, List.set_cons_succ]
          refine anyK_on1 5 (by kernel_rfl) ?_
          refine anyK_one 5 (o := ?oo210) ?ho210 ?hk210
          case ho210 => (simp only [List.getElem?_toArray, List.getElem?_cons_succ, List.getElem?_cons_zero]; rfl)
          case hk210 =>
          intro K hK
          go_simp
          refine (HRE.out _ (ext_trans XF.out yy)).mono ?_
          rintro e wa1 ⟨rfl, xx⟩
          try go_wp2_with fail
          replace yy := ext_trans yy xx
          have hT1 := keepK.out _ yy
          refine hK.out _ _ hT1 (fun _ => trivial) ?_
          clear hK K
          try simp only [Act.put, List.setIfInBounds_toArray, List.set_cons_zero, List.set_cons_succ]
          refine anyK_take 6 (oi := ?oo211) ?ho211 (by kernel_rfl) (by kernel_rfl) (by kernel_rfl) (by kernel_rfl) ?hq211 ?hw211 hT1 (fun _ => trivial) (v := ?vv211) ?hy211 ?hk211
          case ho211 => (simp only [List.getElem?_toArray, List.getElem?_cons_succ, List.getElem?_cons_zero]; rfl)
          case hq211 => exact fun _ _ _ h => h
          case hw211 => rfl
          case hy211 =>
            intro W hW
            go_simp
            first | done | with_reducible rfl
          case hk211 =>
          try simp only [Act.put, List.setIfInBounds_toArray, List.set_cons_zero, List.set_cons_succ]
          refine anyK_take 7 (oi := ?oo212) ?ho212 (by kernel_rfl) (by kernel_rfl) (by kernel_rfl) (by kernel_rfl) ?hq212 ?hw212 hT1 (fun _ => trivial) (v := ?vv212) ?hy212 ?hk212
          case ho212 => (simp only [List.getElem?_toArray, List.getElem?_cons_succ, List.getElem?_cons_zero]; rfl)
          case hq212 => exact fun _ _ _ h => h
          case hw212 => rfl
          case hy212 =>
            intro W hW
            go_simp
            first | done | with_reducible rfl
          case hk212 =>
          try simp only [Act.put, List.setIfInBounds_toArray, List.set_cons_zero, List.set_cons_succ]
          refine anyK_take 8 (oi := ?oo213) ?ho213 (by kernel_rfl) (by kernel_rfl) (by kernel_rfl) (by kernel_rfl) ?hq213 ?hw213 hT1 (fun _ => trivial) (v := ?vv213) ?hy213 ?hk213
          case ho213 => (simp only [List.getElem?_toArray, List.getElem?_cons_succ, List.getElem?_cons_zero]; rfl)
          case hq213 => exact fun _ _ _ h => h
          case hw213 => rfl
          case hy213 =>
            intro W hW
            go_simp
            first | done | with_reducible rfl
          case hk213 =>
          try simp only [Act.put, List.setIfInBounds_toArray, List.set_cons_zero, List.set_cons_succ]
          refine anyK_take 9 (oi := ?oo214) ?ho214 (by kernel_rfl) (by kernel_rfl) (by kernel_rfl) (by kernel_rfl) ?hq214 ?hw214 hT1 (fun _ => trivial) (v := ?vv214) ?hy214 ?hk214
          case ho214 => (simp only [List.getElem?_toArray, List.getElem?_cons_succ, List.getElem?_cons_zero]; rfl)
          case hq214 => exact fun _ _ _ h => h
          case hw214 => rfl
          case hy214 =>
            intro W hW
            obtain ⟨z0, z1, z2, z3, z4, z5⟩ := hW
            go_simp
            first | done | with_reducible rfl
          case hk214 =>
          try simp only [Act.put, List.setIfInBounds_toArray, List.set_cons_zero, List.set_cons_succ]
          refine anyK_take 10 (oi := ?oo215) ?ho215 (by kernel_rfl) (by kernel_rfl) (by kernel_rfl) (by kernel_rfl) ?hq215 ?hw215 hT1 (fun _ => trivial) (v := ?vv215) ?hy215 ?hk215
          case ho215 => (simp only [List.getElem?_toArray, List.getElem?_cons_succ, List.getElem?_cons_zero]; rfl)
          case hq215 => exact fun _ _ _ h => h
          case hw215 => rfl
          case hy215 =>
            intro W hW
            go_simp
            first | done | with_reducible rfl
          case hk215 =>
          try simp only [Act.put, List.setIfInBounds_toArray, List.set_cons_zero, List.set_cons_succ]
          refine anyK_on1 11 (by kernel_rfl) ?_
          refine anyK_one 11 (o := ?oo216) ?ho216 ?hk216
          case ho216 => (simp only [List.getElem?_toArray, List.getElem?_cons_succ, List.getElem?_cons_zero]; rfl)
          case hk216 =>
          intro K hK
          go_simp
          refine (HPO.out _ (ext_trans XF.out yy)).mono ?_
          rintro e wa2 ⟨v8, rfl, p8, xx⟩
          try go_wp2_with fail
          replace yy := ext_trans yy xx
          have HP8 := hide p8
          clear p8
          have hT2 := keepK.out _ yy
          refine hK.out _ _ hT2 (fun _ => trivial) ?_
          clear hK K
          try simp only [Act.put, List.setIfInBounds_toArray, List.set_cons_zero, List.set_cons_succ]
          refine anyK_on1 12 (by kernel_rfl) ?_
          refine anyK_one 12 (o := ?oo217) ?ho217 ?hk217
          case ho217 => (simp only [List.getElem?_toArray, List.getElem?_cons_succ, List.getElem?_cons_zero]; rfl)
          case hk217 =>
          intro K hK
          go_simp
          refine (HSM.out _ _ _ (HPF.out.ext yy).at_ HP8.out.at_).mono ?_
          rintro e wa3 ⟨rfl, xx⟩
          try go_wp2_with fail
          replace yy := ext_trans yy xx
          have hT3 := keepK.out _ yy
          refine hK.out _ _ hT3 (fun _ => trivial) ?_
          clear hK K
          try simp only [Act.put, List.setIfInBounds_toArray, List.set_cons_zero, List.set_cons_succ]
          refine anyK_take 13 (oi := ?oo218) ?ho218 (by kernel_rfl) (by kernel_rfl) (by kernel_rfl) (by kernel_rfl) ?hq218 ?hw218 hT3 (fun _ => trivial) (v := ?vv218) ?hy218 ?hk218
          case ho218 => (simp only [List.getElem?_toArray, List.getElem?_cons_succ, List.getElem?_cons_zero]; rfl)
          case hq218 => exact fun _ _ _ h => h
          case hw218 => rfl
          case hy218 =>
            intro W hW
            go_simp
            first | done | with_reducible rfl
          case hk218 =>
          try simp only [Act.put, List.setIfInBounds_toArray, List.set_cons_zero, List.set_cons_succ]
          refine anyK_take 14 (oi := ?oo219) ?ho219 (by kernel_rfl) (by kernel_rfl) (by kernel_rfl) (by kernel_rfl) ?hq219 ?hw219 hT3 (fun _ => trivial) (v := ?vv219) ?hy219 ?hk219
          case ho219 => (simp only [List.getElem?_toArray, List.getElem?_cons_succ, List.getElem?_cons_zero]; rfl)
          case hq219 => exact fun _ _ _ h => h
          case hw219 => rfl
          case hy219 =>
            intro W hW
            go_simp
            first | done | with_reducible rfl
          case hk219 =>
          try simp only [Act.put, List.setIfInBounds_toArray, List.set_cons_zero, List.set_cons_succ]
          refine anyK_done (by kernel_rfl) ?_ _
          clear keepK hT0 hT1 hT2 hT3
          go_wp2
          go_ret
          exact ⟨rfl, ext_trans XB.out (ext_trans HXW.out (ext_trans XF.out yy))⟩
      · skip
        refine anyK_one 8 (o := ?oo221) ?ho221 ?hk221
        case ho221 => (simp only [List.getElem?_toArray, List.getElem?_cons_succ, List.getElem?_cons_zero]; rfl)
        case hk221 =>
        intro K hK
        go_simp
        have hnb0 : wr.heap.size ≤ wr.heap.size := (yy : Ext wr wr.drew).size
        have HNB0 := hide hnb0
        clear hnb0
        have KN : Hid (Blk (wr.drew.alloc (.cells #[.slice none 0 0, .slice none 0 0, .slice none 0 0, .int .i64 0, .int .i64 0] 29)) wr.heap.size 29 #[.slice none 0 0, .slice none 0 0, .slice none 0 0, .int .i64 0, .int .i64 0]) := hide (Blk.new wr.drew 29 #[.slice none 0 0, .slice none 0 0, .slice none 0 0, .int .i64 0, .int .i64 0])
        try (replace HM6 := hide (MovesAt.ext HM6.out (ext_alloc (Below.refl _ _) (.cells #[.slice none 0 0, .slice none 0 0, .slice none 0 0, .int .i64 0, .int .i64 0] 29))))
        try (replace HP7 := hide (HP7.out.ext (ext_alloc (Below.refl _ _) (.cells #[.slice none 0 0, .slice none 0 0, .slice none 0 0, .int .i64 0, .int .i64 0] 29))))
        generalize hBN : wr.heap.size = BN at *
        have HNB : Hid (wr.heap.size ≤ BN) := hide (by have h : wr.heap.size ≤ wr.heap.size := (yy : Ext wr wr.drew).size; omega)
        clear hBN HNB0
        replace yy := ext_alloc yy (.cells #[.slice none 0 0, .slice none 0 0, .slice none 0 0, .int .i64 0, .int .i64 0] 29)
        have hT1 := keepK.out _ yy
        refine hK.out _ _ hT1 (fun _ => trivial) ?_
        clear hK K
        try simp only [Act.put, List.setIfInBounds_toArray, List.set_cons_zero, List.set_cons_succ]
        refine anyK_on1 2 (by kernel_rfl) ?_
        refine anyK_one 2 (o := ?oo222) ?ho222 ?hk222
        case ho222 => (simp only [List.getElem?_toArray, List.getElem?_cons_succ, List.getElem?_cons_zero]; rfl)
        case hk222 =>
        intro K hK
        go_simp
        refine (HMV.out _ yy).mono ?_
        rintro e wm ⟨v6, rfl, own6, xx⟩
        try go_wp2_with fail
        replace yy := ext_trans yy xx
        have HM6 := hide own6.at_
        clear own6
        try (replace KN := hide (KN.out.ext xx))
        have hT2 := keepK.out _ yy
        refine hK.out _ _ hT2 (fun _ => trivial) ?_
        clear hK K
        try simp only [Act.put, List.setIfInBounds_toArray, List.set_cons_zero, List.set_cons_succ]
        refine anyK_on1 3 (by kernel_rfl) ?_
        refine anyK_one 3 (o := ?oo223) ?ho223 ?hk223
        case ho223 => (simp only [List.getElem?_toArray, List.getElem?_cons_succ, List.getElem?_cons_zero]; rfl)
        case hk223 =>
        intro K hK
        go_simp
        refine (HRN.out _ _ yy HM6.out).mono ?_
        rintro e wn2 ⟨v7, rfl, p7, xx⟩
        try go_wp2_with fail
        replace yy := ext_trans yy xx
        have HP7 := hide p7
        obtain ⟨g0, d0, g1, d1, g2, d2, rfl, -⟩ := p7
        try (replace KN := hide (KN.out.ext xx))
        have hT3 := keepK.out _ yy
        refine hK.out _ _ hT3 (fun _ => trivial) ?_
        clear hK K
        try simp only [Act.put, List.setIfInBounds_toArray, List.set_cons_zero, List.set_cons_succ]
        refine anyK_take 4 (oi := ?oo224) ?ho224 (by kernel_rfl) (by kernel_rfl) (by kernel_rfl) (by kernel_rfl) ?hq224 ?hw224 hT3 (fun _ => trivial) (v := ?vv224) ?hy224 ?hk224
        case ho224 => (simp only [List.getElem?_toArray, List.getElem?_cons_succ, List.getElem?_cons_zero]; rfl)
        case hq224 => exact fun _ _ _ h => h
        case hw224 => rfl
        case hy224 =>
          intro W hW
          go_simp
          first | done | with_reducible rfl
        case hk224 =>
        try simp only [Act.put, List.setIfInBounds_toArray, List.set_cons_zero, List.set_cons_succ]
        refine anyK_take 5 (oi := ?oo225) ?ho225 (by kernel_rfl) (by kernel_rfl) (by kernel_rfl) (by kernel_rfl) ?hq225 ?hw225 hT3 (fun _ => trivial) (v := ?vv225) ?hy225 ?hk225
        case ho225 => (simp only [List.getElem?_toArray, List.getElem?_cons_succ, List.getElem?_cons_zero]; rfl)
        case hq225 => exact fun _ _ _ h => h
        case hw225 => rfl
        case hy225 =>
          intro W hW
          go_simp
          first | done | with_reducible rfl
        case hk225 =>
        try simp only [Act.put, List.setIfInBounds_toArray, List.set_cons_zero, List.set_cons_succ]
        refine anyK_take 6 (oi := ?oo226) ?ho226 (by kernel_rfl) (by kernel_rfl) (by kernel_rfl) (by kernel_rfl) ?hq226 ?hw226 hT3 (fun _ => trivial) (v := ?vv226) ?hy226 ?hk226
        case ho226 => (simp only [List.getElem?_toArray, List.getElem?_cons_succ, List.getElem?_cons_zero]; rfl)
        case hq226 => exact fun _ _ _ h => h
        case hw226 => rfl
        case hy226 =>
          intro W hW
          go_simp
          first | done | with_reducible rfl
        case hk226 =>
        try simp only [Act.put, List.setIfInBounds_toArray, List.set_cons_zero, List.set_cons_succ]
        refine anyK_take 7 (oi := ?oo227) ?ho227 (by kernel_rfl) (by kernel_rfl) (by kernel_rfl) (by kernel_rfl) ?hq227 ?hw227 hT3 (fun _ => trivial) (v := ?vv227) ?hy227 ?hk227
        case ho227 => (simp only [List.getElem?_toArray, List.getElem?_cons_succ, List.getElem?_cons_zero]; rfl)
        case hq227 => exact fun _ _ _ h => h
        case hw227 => rfl
        case hy227 =>
          intro W hW
          go_simp
          first | done | with_reducible rfl
        case hk227 =>
        try simp only [Act.put, List.setIfInBounds_toArray, List.set_cons_zero, List.set_cons_succ]
        refine anyK_on1 9 (by kernel_rfl) ?_
        refine anyK_one 9 (o := ?oo228) ?ho228 ?hk228
        case ho228 => (simp only [List.getElem?_toArray, List.getElem?_cons_succ, List.getElem?_cons_zero]; rfl)
        case hk228 =>
        intro K hK
        have q5 := KN.out.cell
        have z5 := KN.out.frozen
        have KPF := hide (blk_set5 KN.out (u0 := .slice (some ⟨g0, 0, none⟩) P.cells.length d0) (u1 := .slice (some ⟨g1, 0, none⟩) P.hand0.length d1) (u2 := .slice (some ⟨g2, 0, none⟩) P.hand1.length d2) (u3 := .int .i64 P.turn) (u4 := .int .i64 P.quiet))
        have HPF := hide (PosI.far5 (u0 := .slice (some ⟨g0, 0, none⟩) P.cells.length d0) (u1 := .slice (some ⟨g1, 0, none⟩) P.hand0.length d1) (u2 := .slice (some ⟨g2, 0, none⟩) P.hand1.length d2) (u3 := .int .i64 P.turn) (u4 := .int .i64 P.quiet) HP7.out KN.out)
        replace yy := ext5 (u0 := .slice (some ⟨g0, 0, none⟩) P.cells.length d0) (u1 := .slice (some ⟨g1, 0, none⟩) P.hand0.length d1) (u2 := .slice (some ⟨g2, 0, none⟩) P.hand1.length d2) (u3 := .int .i64 P.turn) (u4 := .int .i64 P.quiet) yy HNB.out
        go_simp
        clear q5 z5
        have hT4 := keepK.out _ yy
        refine hK.out _ _ hT4 (fun _ => trivial) ?_
        clear hK K
        try simp only [Act.put, List.setIfInBounds_toArray, List.set_cons_zero, List.set_cons_succ]
        refine anyK_take 10 (oi := ?oo229) ?ho229 (by kernel_rfl) (by kernel_rfl) (by kernel_rfl) (by kernel_rfl) ?hq229 ?hw229 hT4 (fun _ => trivial) (v := ?vv229) ?hy229 ?hk229
        case ho229 => (simp only [List.getElem?_toArray, List.getElem?_cons_succ, List.getElem?_cons_zero]; rfl)
        case hq229 => exact fun _ _ _ h => h
        case hw229 => rfl
        case hy229 =>
          intro W hW
          go_simp
          first | done | with_reducible rfl
        case hk229 =>
        try simp only [Act.put, List.setIfInBounds_toArray, List.set_cons_zero, List.set_cons_succ]
        refine anyK_take 11 (oi := ?oo230) ?ho230 (by kernel_rfl) (by kernel_rfl) (by kernel_rfl) (by kernel_rfl) ?hq230 ?hw230 hT4 (fun _ => trivial) (v := ?vv230) ?hy230 ?hk230
        case ho230 => (simp only [List.getElem?_toArray, List.getElem?_cons_succ, List.getElem?_cons_zero]; rfl)
        case hq230 => exact fun _ _ _ h => h
        case hw230 => rfl
        case hy230 =>
          intro W hW
          go_simp
          first | done | with_reducible rfl
        case hk230 =>
        try simp only [Act.put, List.setIfInBounds_toArray, List.set_cons_zero, List.set_cons_succ]
        refine anyK_done (by kernel_rfl) ?_ _
        clear keepK hT0 hT1 hT2 hT3 hT4
        have XF := hide yy
        clear yy KN HNB HP7 HM6
        generalize (((((wn2.setCell ⟨BN, 0, none⟩ (.slice (some ⟨g0, 0, none⟩) P.cells.length d0)).setCell ⟨BN, 1, none⟩ (.slice (some ⟨g1, 0, none⟩) P.hand0.length d1)).setCell ⟨BN, 2, none⟩ (.slice (some ⟨g2, 0, none⟩) P.hand1.length d2)).setCell ⟨BN, 3, none⟩ (.int .i64 P.turn)).setCell ⟨BN, 4, none⟩ (.int .i64 P.quiet)) = wf at *
        go_upto_region 21 with fail
        have keepK := hide (fun W (h : Ext wf W) => (show (fun W => W.cell? ⟨BN, 0, none⟩ = some (.slice (some ⟨g0, 0, none⟩) P.cells.length d0) ∧ W.cell? ⟨BN, 1, none⟩ = some (.slice (some ⟨g1, 0, none⟩) P.hand0.length d1) ∧ W.cell? ⟨BN, 2, none⟩ = some (.slice (some ⟨g2, 0, none⟩) P.hand1.length d2) ∧ W.cell? ⟨BN, 3, none⟩ = some (.int .i64 P.turn) ∧ W.cell? ⟨BN, 4, none⟩ = some (.int .i64 P.quiet) ∧ Ext wf W) W from ⟨(KPF.out.ext h).cell 0, (KPF.out.ext h).cell 1, (KPF.out.ext h).cell 2, (KPF.out.ext h).cell 3, (KPF.out.ext h).cell 4, h⟩))
        have yy : Ext wf wf.drew := Below.drew (Below.refl _ _)
        refine region_K (fun W => W.cell? ⟨BN, 0, none⟩ = some (.slice (some ⟨g0, 0, none⟩) P.cells.length d0) ∧ W.cell? ⟨BN, 1, none⟩ = some (.slice (some ⟨g1, 0, none⟩) P.hand0.length d1) ∧ W.cell? ⟨BN, 2, none⟩ = some (.slice (some ⟨g2, 0, none⟩) P.hand1.length d2) ∧ W.cell? ⟨BN, 3, none⟩ = some (.int .i64 P.turn) ∧ W.cell? ⟨BN, 4, none⟩ = some (.int .i64 P.quiet) ∧ Ext wf W) (fun _ => True) [] (by kernel_rfl) ?_
        have hT0 := keepK.out _ yy
        refine anyK_take 0 (oi := ?oo231) ?ho231 (by kernel_rfl) (by kernel_rfl) (by kernel_rfl) (by kernel_rfl) ?hq231 ?hw231 hT0 (fun _ => trivial) (v := ?vv231) ?hy231 ?hk231
        case ho231 => (simp only [List.getElem?_toArray, List.getElem?_cons_succ, List.getElem?_cons_zero]; rfl)
        case hq231 => exact fun _ _ _ h => h
        case hw231 => rfl
        case hy231 =>
          intro W hW
          go_simp
          first | done | with_reducible rfl
        case hk231 =>
        try simp only [Act.put, List.setIfInBounds_toArray, List.set_cons_zero, List.set_cons_succ]
        refine anyK_take 1 (oi := ?oo232) ?ho232 (by kernel_rfl) (by kernel_rfl) (by kernel_rfl) (by kernel_rfl) ?hq232 ?hw232 hT0 (fun _ => trivial) (v := ?vv232) ?hy232 ?hk232
        case ho232 => (simp only [List.getElem?_toArray, List.getElem?_cons_succ, List.getElem?_cons_zero]; rfl)
        case hq232 => exact fun _ _ _ h => h
        case hw232 => rfl
        case hy232 =>
          intro W hW
          go_simp
          first | done | with_reducible rfl
        case hk232 =>
        try simp only [Act.put, List.setIfInBounds_toArray, List.set_cons_zero, List.set_cons_succ]
        refine anyK_take 2 (oi := ?oo233) ?ho233 (by kernel_rfl) (by kernel_rfl) (by kernel_rfl) (by kernel_rfl) ?hq233 ?hw233 hT0 (fun _ => trivial) (v := ?vv233) ?hy233 ?hk233
        case ho233 => (simp only [List.getElem?_toArray, List.getElem?_cons_succ, List.getElem?_cons_zero]; rfl)
        case hq233 => exact fun _ _ _ h => h
        case hw233 => rfl
        case hy233 =>
          intro W hW
          go_simp
          first | done | with_reducible rfl
        case hk233 =>
        try simp only [Act.put, List.setIfInBounds_toArray, List.set_cons_zero, List.set_cons_succ]
        refine anyK_take 3 (oi := ?oo234) ?ho234 (by kernel_rfl) (by kernel_rfl) (by kernel_rfl) (by kernel_rfl) ?hq234 ?hw234 hT0 (fun _ => trivial) (v := ?vv234) ?hy234 ?hk234
        case ho234 => (simp only [List.getElem?_toArray, List.getElem?_cons_succ, List.getElem?_cons_zero]; rfl)
        case hq234 => exact fun _ _ _ h => h
        case hw234 => rfl
        case hy234 =>
          intro W hW
          go_simp
          first | done | with_reducible rfl
        case hk234 =>
        try simp only [Act.put, List.setIfInBounds_toArray, List.set_cons_zero, List.set_cons_succ]
        refine anyK_take 4 (oi := ?oo235) ?ho235 (by kernel_rfl) (by kernel_rfl) (by kernel_rfl) (by kernel_rfl) ?hq235 ?hw235 hT0 (fun _ => trivial) (v := ?vv235) ?hy235 ?hk235
        case ho235 => (simp only [List.getElem?_toArray, List.getElem?_cons_succ, List.getElem?_cons_zero]; rfl)
        case hq235 => exact fun _ _ _ h => h
        case hw235 => rfl
        case hy235 =>
          intro W hW
          go_simp
          first | done | with_reducible rfl
        case hk235 =>
        try simp only [Act.put, List.setIfInBounds_toArray, List.set_cons_zero, List.set_cons_succ]
        refine anyK_on1 5 (by kernel_rfl) ?_
        refine anyK_one 5 (o := ?oo236) ?ho236 ?hk236
        case ho236 => (simp only [List.getElem?_toArray, List.getElem?_cons_succ, List.getElem?_cons_zero]; rfl)
        case hk236 =>
        intro K hK
        go_simp
        refine (HRE.out _ (ext_trans XF.out yy)).mono ?_
        rintro e wa1 ⟨rfl, xx⟩
        try go_wp2_with fail
        replace yy := ext_trans yy xx
        have hT1 := keepK.out _ yy
        refine hK.out _ _ hT1 (fun _ => trivial) ?_
        clear hK K
        try simp only [Act.put, List.setIfInBounds_toArray, List.set_cons_zero, List.set_cons_succ]
        refine anyK_take 6 (oi := ?oo237) ?ho237 (by kernel_rfl) (by kernel_rfl) (by kernel_rfl) (by kernel_rfl) ?hq237 ?hw237 hT1 (fun _ => trivial) (v := ?vv237) ?hy237 ?hk237
        case ho237 => (simp only [List.getElem?_toArray, List.getElem?_cons_succ, List.getElem?_cons_zero]; rfl)
        case hq237 => exact fun _ _ _ h => h
        case hw237 => rfl
        case hy237 =>
          intro W hW
          go_simp
          first | done | with_reducible rfl
        case hk237 =>
        try simp only [Act.put, List.setIfInBounds_toArray, List.set_cons_zero, List.set_cons_succ]
        refine anyK_take 7 (oi := ?oo238) ?ho238 (by kernel_rfl) (by kernel_rfl) (by kernel_rfl) (by kernel_rfl) ?hq238 ?hw238 hT1 (fun _ => trivial) (v := ?vv238) ?hy238 ?hk238
        case ho238 => (simp only [List.getElem?_toArray, List.getElem?_cons_succ, List.getElem?_cons_zero]; rfl)
        case hq238 => exact fun _ _ _ h => h
        case hw238 => rfl
        case hy238 =>
          intro W hW
          go_simp
          first | done | with_reducible rfl
        case hk238 =>
        try simp only [Act.put, List.setIfInBounds_toArray, List.set_cons_zero, List.set_cons_succ]
        refine anyK_take 8 (oi := ?oo239) ?ho239 (by kernel_rfl) (by kernel_rfl) (by kernel_rfl) (by kernel_rfl) ?hq239 ?hw239 hT1 (fun _ => trivial) (v := ?vv239) ?hy239 ?hk239
        case ho239 => (simp only [List.getElem?_toArray, List.getElem?_cons_succ, List.getElem?_cons_zero]; rfl)
        case hq239 => exact fun _ _ _ h => h
        case hw239 => rfl
        case hy239 =>
          intro W hW
          go_simp
          first | done | with_reducible rfl
        case hk239 =>
        try simp only [Act.put, List.setIfInBounds_toArray, List.set_cons_zero, List.set_cons_succ]
        refine anyK_take 9 (oi := ?oo240) ?ho240 (by kernel_rfl) (by kernel_rfl) (by kernel_rfl) (by kernel_rfl) ?hq240 ?hw240 hT1 (fun _ => trivial) (v := ?vv240) ?hy240 ?hk240
        case ho240 => (simp only [List.getElem?_toArray, List.getElem?_cons_succ, List.getElem?_cons_zero]; rfl)
        case hq240 => exact fun _ _ _ h => h
        case hw240 => rfl
        case hy240 =>
          intro W hW
          obtain ⟨z0, z1, z2, z3, z4, z5⟩ := hW
          go_simp
          first | done | with_reducible rfl
        case hk240 =>
        try simp only [Act.put, List.setIfInBounds_toArray, List.set_cons_zero, List.set_cons_succ]
        refine anyK_take 10 (oi := ?oo241) ?ho241 (by kernel_rfl) (by kernel_rfl) (by kernel_rfl) (by kernel_rfl) ?hq241 ?hw241 hT1 (fun _ => trivial) (v := ?vv241) ?hy241 ?hk241
        case ho241 => (simp only [List.getElem?_toArray, List.getElem?_cons_succ, List.getElem?_cons_zero]; rfl)
        case hq241 => exact fun _ _ _ h => h
        case hw241 => rfl
        case hy241 =>
          intro W hW
          go_simp
          first | done | with_reducible rfl
        case hk241 =>
        try simp only [Act.put, List.setIfInBounds_toArray, List.set_cons_zero, List.set_cons_succ]
        refine anyK_on1 11 (by kernel_rfl) ?_
        refine anyK_one 11 (o := ?oo242) ?ho242 ?hk242
        case ho242 => (simp only [List.getElem?_toArray, List.getElem?_cons_succ, List.getElem?_cons_zero]; rfl)
        case hk242 =>
        intro K hK
        go_simp
        refine (HPO.out _ (ext_trans XF.out yy)).mono ?_
        rintro e wa2 ⟨v8, rfl, p8, xx⟩
        try go_wp2_with fail
        replace yy := ext_trans yy xx
        have HP8 := hide p8
        clear p8
        have hT2 := keepK.out _ yy
        refine hK.out _ _ hT2 (fun _ => trivial) ?_
        clear hK K
        try simp only [Act.put, List.setIfInBounds_toArray, List.set_cons_zero, List.set_cons_succ]
        refine anyK_on1 12 (by kernel_rfl) ?_
        refine anyK_one 12 (o := ?oo243) ?ho243 ?hk243
        case ho243 => (simp only [List.getElem?_toArray, List.getElem?_cons_succ, List.getElem?_cons_zero]; rfl)
        case hk243 =>
        intro K hK
        go_simp
        refine (HSM.out _ _ _ (HPF.out.ext yy).at_ HP8.out.at_).mono ?_
        rintro e wa3 ⟨rfl, xx⟩
        try go_wp2_with fail
        replace yy := ext_trans yy xx
        have hT3 := keepK.out _ yy
        refine hK.out _ _ hT3 (fun _ => trivial) ?_
        clear hK K
        try simp only [Act.put, List.setIfInBounds_toArray, List.set_cons_zero, List.set_cons_succ]
        refine anyK_take 13 (oi := ?oo244) ?ho244 (by kernel_rfl) (by kernel_rfl) (by kernel_rfl) (by kernel_rfl) ?hq244 ?hw244 hT3 (fun _ => trivial) (v := ?vv244) ?hy244 ?hk244
        case ho244 => (simp only [List.getElem?_toArray, List.getElem?_cons_succ, List.getElem?_cons_zero]; rfl)
        case hq244 => exact fun _ _ _ h => h
        case hw244 => rfl
        case hy244 =>
          intro W hW
          go_simp
          first | done | with_reducible rfl
        case hk244 =>
        try simp only [Act.put, List.setIfInBounds_toArray, List.set_cons_zero, List.set_cons_succ]
        refine anyK_take 14 (oi := ?oo245) ?ho245 (by kernel_rfl) (by kernel_rfl) (by kernel_rfl) (by kernel_rfl) ?hq245 ?hw245 hT3 (fun _ => trivial) (v := ?vv245) ?hy245 ?hk245
        case ho245 => (simp only [List.getElem?_toArray, List.getElem?_cons_succ, List.getElem?_cons_zero]; rfl)
        case hq245 => exact fun _ _ _ h => h
        case hw245 => rfl
        case hy245 =>
          intro W hW
          go_simp
          first | done | with_reducible rfl
        case hk245 =>
        try simp only [Act.put, List.setIfInBounds_toArray, List.set_cons_zero, List.set_cons_succ]
        refine anyK_done (by kernel_rfl) ?_ _
        clear keepK hT0 hT1 hT2 hT3
        go_wp2
        go_ret
        exact ⟨rfl, ext_trans XB.out (ext_trans HXW.out (ext_trans XF.out yy))⟩
theorem plainReplays_law (v : Value) (R : RulesM) (A : Option Addr) (n c : Nat) (z : List Int) (w : World) (hR : RulesAt w v R) (hr : IsRow w A n c z) :
    Calls Try.prog 12 #[v, .slice A n c] w fun e w' => e = .returned (.bool true) ∧ Ext w w' := by
  by_cases he : rulesE R = 0
  · have hV := valid_of he
    obtain ⟨h1, h2, h3, h4⟩ := hr.ints
    rcases hr with ⟨rfl, rfl, rfl, rfl⟩ | ⟨x, rfl, a1, a2, a3, a4, a5⟩
    · exact plainReplays_nil v R _ _ _ [] w hR hV rfl rfl rfl
    · by_cases h0 : c = 0
      · exact plainReplays_zero v R _ n c z w hR hV x rfl (by omega) h0
      · have hx := spot_none (a4 0 (by omega))
        rw [show x.add 0 = x from rfl] at hx
        exact plainReplays_go v R _ n c z w hR hV _ _ (by rw [← hx]) a1 h1 h2 a2
  · exact plainReplays_bad v R A n c z w hR he

end Go.Proofs.Ytmofipijjokjfaa
