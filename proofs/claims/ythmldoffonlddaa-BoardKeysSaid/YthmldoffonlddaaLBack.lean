/- Walk: boarded; the law BoardBack. -/
import Derived.Test.YthmldoffonlddaaGBoard
import Derived.Test.YthmldoffonlddaaGSmall
import Derived.Test.YthmldoffonlddaaGSamples
import Derived.BigFrame
namespace Go.Proofs.Ythmldoffonlddaa
open Go.ChangeShapes Go.WideShapes Go.ChangeAt Go.RowKit Go.Shelf
set_option linter.unusedVariables false
set_option linter.unusedSimpArgs false
theorem run_min3 (W : World) (ats : Array TypeId) (ty : TypeId) (a b : Int) : (Builtin.min_ ats ty #[.int .i64 a, .int .i64 b]).run Try.prog W = .ok (.int .i64 (min a b)) W := by
  have e : min a b = if b < a then b else a := by split <;> omega
  rw [e]
  simp [Builtin.min_, Builtin.min2]
theorem near_b : (⟨-1, 2, 0⟩ : MoveM) ∈ listM threeR nearP ∧ resultM threeR (makeM threeR nearP ⟨-1, 2, 0⟩) = 1 := by decide +kernel
set_option maxHeartbeats 8000000 in
set_option maxRecDepth 100000 in
theorem boarded_any (w : World) : Calls Try.prog 14 #[] w fun e w' => e = .returned (.bool true) ∧ Ext w w' := by
  have hQ : ∃ Q, Q = makeM threeR nearP ⟨-1, 2, 0⟩ := ⟨_, rfl⟩
  obtain ⟨Q, hQ⟩ := hQ
  have hm2 : (⟨-1, 2, 0⟩ : MoveM) ∈ listM threeR nearP := near_b.1
  have hQ1 : resultM threeR Q = 1 := by rw [hQ]; exact near_b.2
  have hS1 : ∀ q ∈ [nearP], Sound threeR q := fun q h => by rw [List.mem_singleton.1 h]; exact sound_near
  have hS2 : ∀ q ∈ [nearP] ++ [Q], Sound threeR q := fun q h => by
    rcases List.mem_append.1 h with h | h
    · exact hS1 q h
    · rw [List.mem_singleton.1 h, hQ]
      exact sound_make valid_three sound_near (mem_listM.1 hm2)
  have HDO := hide (fun (w0 W : World) (BG : Nat) (hG : BoardAt w0 W BG threeR [nearP]) => BDo_yes hG (by decide) valid_three hS1 (P := nearP) rfl ⟨-1, 2, 0⟩ result_near hm2)
  rw [← hQ] at HDO
  have HRE := hide (fun (w0 W : World) (BG : Nat) (hG : BoardAt w0 W BG threeR ([nearP] ++ [Q])) => BResult_any hG (by simp) valid_three hS2 (P := Q) (by simp))
  rw [hQ1] at HRE
  have HMV := hide (fun (w0 W : World) (BG : Nat) (hG : BoardAt w0 W BG threeR ([nearP] ++ [Q])) => BMoves_any hG (by simp) valid_three hS2 (P := Q) (by simp))
  rw [show movesM threeR Q = [] from if_neg (by rw [hQ1]; decide)] at HMV
  have HOV := hide (fun (w0 W : World) (BG : Nat) (hG : BoardAt w0 W BG threeR ([nearP] ++ [Q])) => BDo_over hG (by simp) valid_three hS2 (P := Q) (by simp) ⟨-1, 5, 0⟩ (by rw [hQ1]; decide))
  have HPO := hide (fun (w0 W : World) (BG : Nat) (hG : BoardAt w0 W BG threeR [nearP]) => BPosition_any hG (by simp) (fit_of valid_three hS1) (P := nearP) rfl)
  have HTU := hide (fun (w0 W : World) (BG : Nat) (hG : BoardAt w0 W BG threeR [nearP]) => BTurn_any hG (by simp) (P := nearP) rfl)
  have HSM := hide (fun W (v1 v2 : Value) (h1 : PosAt W v1 nearP) (h2 : PosAt W v2 nearP) => same_yes nearP v1 v2 W h1 h2 (by decide) (by decide) (by decide))
  clear hS1 hS2 hm2 hQ1
  go_enter Try.func14, Try.ntmps14
  go_wp2_with fail
  refine (three_any _).mono ?_
  rintro e w2 ⟨v1, rfl, h1, x⟩
  have X := x
  clear x
  go_wp2_with fail
  refine (near_any _).mono ?_
  rintro e w3 ⟨v2, rfl, h2, x⟩
  replace h1 := h1.ext x
  replace X := ext_trans X x
  clear x
  replace h2 := h2.at_
  go_wp2_with fail
  have XW := hide X
  refine (BNew_yes threeR nearP _ _ _ h1 h2 valid_three sound_near).mono ?_
  rintro e wg ⟨BG, rfl, hG⟩
  have HG := hide hG
  clear h1 h2 X hG
  go_wp2_with fail
  refine (put_any 2 _).mono ?_
  rintro e wa ⟨rfl, xa⟩
  have HGa := hide (HG.out.ext xa)
  clear HG xa
  go_wp2_with fail
  refine (HDO.out _ _ _ HGa.out).mono ?_
  rintro e wb ⟨rfl, hb⟩
  have HGb := hide hb
  clear hb HGa
  go_wp2_with fail
  refine (HRE.out _ _ _ HGb.out).mono ?_
  rintro e wc ⟨rfl, xc⟩
  have HGc := hide (HGb.out.ext xc)
  clear HGb xc
  go_wp2_with fail
  refine (BLen_any HGc.out (by simp) (by simp)).mono ?_
  rintro e wd ⟨rfl, xd⟩
  have HGd := hide (HGc.out.ext xd)
  clear HGc xd
  rw [show ((([nearP] ++ [Q] : List PosM).length : Nat) : Int) - 1 = 1 from by simp]
  go_wp2_with fail
  refine (HMV.out _ _ _ HGd.out).mono ?_
  rintro e we ⟨ve, rfl, oe, xe⟩
  obtain ⟨Ae, ce, rfl, -⟩ := oe
  simp only [List.length_nil]
  have HGe := hide (HGd.out.ext xe)
  clear HGd xe
  go_wp2_with fail
  refine (put_any 5 _).mono ?_
  rintro e wf ⟨rfl, xf⟩
  have HGf := hide (HGe.out.ext xf)
  clear HGe xf
  go_wp2_with fail
  refine (HOV.out _ _ _ HGf.out).mono ?_
  rintro e wg ⟨rfl, xg⟩
  have HGg := hide (HGf.out.ext xg)
  clear HGf xg
  go_wp2_with fail
  refine (BUndo_yes (ps := [nearP]) HGg.out (by decide) (by decide)).mono ?_
  rintro e wh ⟨rfl, hh⟩
  have HGh := hide hh
  clear HGg hh
  go_wp2_with fail
  refine (HPO.out _ _ _ HGh.out).mono ?_
  rintro e wi ⟨vi, rfl, pi, xi⟩
  have HGi := hide (HGh.out.ext xi)
  have HPi := hide pi.at_
  clear HGh xi pi
  go_wp2_with fail
  refine (near_any _).mono ?_
  rintro e wj ⟨vj, rfl, hj, xj⟩
  have HGj := hide (HGi.out.ext xj)
  have HPj := hide (HPi.out.ext xj)
  have HNj := hide hj.at_
  clear HGi xj hj HPi
  go_wp2_with fail
  refine (HSM.out _ _ _ HPj.out HNj.out).mono ?_
  rintro e wk ⟨rfl, xk⟩
  have HGk := hide (HGj.out.ext xk)
  clear HGj xk HPj HNj
  go_wp2_with fail
  refine (HTU.out _ _ _ HGk.out).mono ?_
  rintro e wl ⟨rfl, xl⟩
  have XF := ext_trans XW.out (HGk.out.ext xl).old
  clear HGk xl
  rw [show nearP.turn = 0 from rfl]
  go_wp2
  all_goals go_ret
  all_goals exact ⟨by first | rfl | simp, XF⟩
set_option maxHeartbeats 8000000 in
set_option maxRecDepth 100000 in
theorem boardBack_bad (v : Value) (R : RulesM) (u : Value) (P : PosM) (A : Option Addr) (n c : Nat) (z : List Int) (w : World) (hR : RulesAt w v R) (hP : PosAt w u P) (he : checkE R P ≠ 0) :
    Calls Try.prog 3 #[v, u, .slice A n c] w fun e w' => e = .returned (.bool true) ∧ Ext w w' := by
  have HNW := hide (fun W (v1 v2 : Value) (h1 : RulesAt W v1 R) (h2 : PosAt W v2 P) => BNew_no R P v1 v2 W h1 h2 he)
  have t0 : (checkE R P != 0) = true := by simpa using he
  clear he
  generalize checkE R P = E at *
  have hR0 := hR
  have hP0 := hP
  obtain ⟨pA, pc, sA, sc, eA, ec, rfl, -⟩ := hR0
  obtain ⟨cA, cc, aA, ac, bA, bc, rfl, -⟩ := hP0
  go_enter Try.func3, Try.ntmps3
  go_wp2_with fail
  obtain ⟨xa, kR, kP⟩ := blks2 w #[.string R.name, .int .i64 R.width, .int .i64 R.height, .slice pA R.pieces.length pc, .slice sA R.start.length sc, .bool R.falls, .bool R.keeps, .slice eA R.ends.length ec, .int .i64 R.blocked, .int .i64 R.quiet, .int .i64 R.rept] 26 #[.slice cA P.cells.length cc, .slice aA P.hand0.length ac, .slice bA P.hand1.length bc, .int .i64 P.turn, .int .i64 P.quiet] 29
  replace hR := hR.ext xa
  replace hP := hP.ext xa
  have X := xa
  clear xa
  generalize ((w.alloc (.cells #[.string R.name, .int .i64 R.width, .int .i64 R.height, .slice pA R.pieces.length pc, .slice sA R.start.length sc, .bool R.falls, .bool R.keeps, .slice eA R.ends.length ec, .int .i64 R.blocked, .int .i64 R.quiet, .int .i64 R.rept] 26)).alloc (.cells #[.slice cA P.cells.length cc, .slice aA P.hand0.length ac, .slice bA P.hand1.length bc, .int .i64 P.turn, .int .i64 P.quiet] 29)) = w2 at *
  generalize w.heap.size + 1 = BP at *
  generalize w.heap.size = BR at *
  refine (boarded_any _).mono ?_
  rintro e w3 ⟨rfl, x⟩
  replace hR := hR.ext x
  replace hP := hP.ext x
  replace kR := kR.ext x
  replace kP := kP.ext x
  replace X := ext_trans X x
  clear x
  have fR := kR.cell
  have fP := kP.cell
  go_wp2_with fail
  refine (HNW.out _ _ _ hR hP).mono ?_
  rintro e w4 ⟨rfl, x⟩
  replace hR := hR.ext x
  replace hP := hP.ext x
  replace kR := kR.ext x
  replace kP := kP.ext x
  replace X := ext_trans X x
  replace fR := kR.cell
  replace fP := kP.cell
  clear x
  clear fR fP
  go_wp2
  all_goals go_ret
  all_goals exact ⟨by first | rfl | simp, X⟩
set_option maxHeartbeats 8000000 in
set_option maxRecDepth 100000 in
theorem boardBack_nil (v : Value) (R : RulesM) (u : Value) (P : PosM) (A : Option Addr) (n c : Nat) (z : List Int) (w : World) (hR : RulesAt w v R) (hP : PosAt w u P) (hV : Valid R) (hS : Sound R P) (hA : A = none) (hn : n = 0) (hc : c = 0) :
    Calls Try.prog 3 #[v, u, .slice A n c] w fun e w' => e = .returned (.bool true) ∧ Ext w w' := by
  have HNW := hide (fun W (v1 v2 : Value) (h1 : RulesAt W v1 R) (h2 : PosAt W v2 P) => BNew_yes R P v1 v2 W h1 h2 hV hS)
  have HVS := hide (And.intro hV hS)
  clear hV hS
  obtain ⟨q, hq⟩ : ∃ q : Int, min (n : Int) 20 = q := ⟨_, rfl⟩
  have hmin : ∀ W ats ty, (Builtin.min_ ats ty #[.int .i64 (n : Int), .int .i64 20]).run Try.prog W = .ok (.int .i64 q) W := fun W ats ty => by rw [← hq]; exact run_min3 W ats ty n 20
  subst hA hn hc
  obtain rfl : q = 0 := by omega
  clear hq
  have hR0 := hR
  have hP0 := hP
  obtain ⟨pA, pc, sA, sc, eA, ec, rfl, -⟩ := hR0
  obtain ⟨cA, cc, aA, ac, bA, bc, rfl, -⟩ := hP0
  go_enter Try.func3, Try.ntmps3
  go_wp2_with fail
  obtain ⟨xa, kR, kP⟩ := blks2 w #[.string R.name, .int .i64 R.width, .int .i64 R.height, .slice pA R.pieces.length pc, .slice sA R.start.length sc, .bool R.falls, .bool R.keeps, .slice eA R.ends.length ec, .int .i64 R.blocked, .int .i64 R.quiet, .int .i64 R.rept] 26 #[.slice cA P.cells.length cc, .slice aA P.hand0.length ac, .slice bA P.hand1.length bc, .int .i64 P.turn, .int .i64 P.quiet] 29
  replace hR := hR.ext xa
  replace hP := hP.ext xa
  have X := xa
  clear xa
  generalize ((w.alloc (.cells #[.string R.name, .int .i64 R.width, .int .i64 R.height, .slice pA R.pieces.length pc, .slice sA R.start.length sc, .bool R.falls, .bool R.keeps, .slice eA R.ends.length ec, .int .i64 R.blocked, .int .i64 R.quiet, .int .i64 R.rept] 26)).alloc (.cells #[.slice cA P.cells.length cc, .slice aA P.hand0.length ac, .slice bA P.hand1.length bc, .int .i64 P.turn, .int .i64 P.quiet] 29)) = w2 at *
  generalize w.heap.size + 1 = BP at *
  generalize w.heap.size = BR at *
  refine (boarded_any _).mono ?_
  rintro e w3 ⟨rfl, x⟩
  replace hR := hR.ext x
  replace hP := hP.ext x
  replace kR := kR.ext x
  replace kP := kP.ext x
  replace X := ext_trans X x
  clear x
  have fR := kR.cell
  have fP := kP.cell
  go_wp2_with fail
  have HP := hide hP
  have KP := hide kP
  have XB := hide X
  refine (HNW.out _ _ _ hR hP).mono ?_
  rintro e wn ⟨BG, rfl, hG⟩
  have HG := hide hG
  clear hG fR fP hR hP kR kP X HNW
  have HK0 := hide (BKey_any HG.out (by simp) HVS.out.1 (fun Q h => by rw [List.mem_singleton.1 h]; exact HVS.out.2) (P := P) rfl)
  go_wp2_with fail
  refine HK0.out.mono ?_
  rintro e wm ⟨rfl, xm⟩
  have HGm := hide (HG.out.ext xm)
  clear HG xm HK0
  have HKY := hide (fun W (hG : BoardAt w3 W BG R [P]) => BKey_any hG (by simp) HVS.out.1 (fun Q h => by rw [List.mem_singleton.1 h]; exact HVS.out.2) (P := P) rfl)
  generalize keyM P = key at *
  go_wp2
  go_loopw [38] (fun i wr => i = .int .i64 0 ∧ wr = wm) (fun _ _ => 0)
  case atStart => exact ⟨rfl, rfl⟩
  case round =>
    obtain ⟨rfl, rfl⟩ := hrel
    have HPS : Hid (([P] : List PosM)[0]? = some P ∧ (∀ Q ∈ [P], Sound R Q) ∧ ([P] : List PosM).length ≤ 100 ∧ 1 ≤ ([P] : List PosM).length) := hide ⟨rfl, fun Q h => by rw [List.mem_singleton.1 h]; exact HVS.out.2, by simp, by simp⟩
    obtain ⟨ps, hps⟩ : ∃ ps, ps = [P] := ⟨_, rfl⟩
    rw [← hps] at HGm HPS
    clear hps
    go_wp2_with fail
    have hl1 : 1 ≤ ps.length := HPS.out.2.2.2
    have hlen := HPS.out.2.2.1
    refine (BLen_any HGm.out (by omega) hl1).mono ?_
    rintro e wy ⟨rfl, xy⟩
    have HGy := hide (HGm.out.ext xy)
    clear xy HGm
    go_wp2
    go_loopw [13] (fun i wr => ∃ k : Nat, k + 1 ≤ ps.length ∧ i = .int .i64 k ∧ BoardAt w3 wr BG R (ps.take (k + 1))) (fun i _ => (intOf i).toNat)
    case atStart =>
      obtain ⟨m, hm⟩ : ∃ m, ps.length = m + 1 := ⟨ps.length - 1, by omega⟩
      exact ⟨m, by omega, by rw [hm]; simp, by rw [List.take_of_length_le (by omega)]; exact HGy.out⟩
    case round =>
      obtain ⟨k, hk, rfl, hG⟩ := hrel
      have HGx := hide hG
      clear HGy hG
      by_cases h0 : k = 0
      · subst h0
        have e1 : ps.take (0 + 1) = [P] := by
          obtain ⟨Q, l, rfl⟩ : ∃ Q l, ps = Q :: l := by
            rcases ps with _ | ⟨Q, l⟩
            · simp at hl1
            · exact ⟨Q, l, rfl⟩
          have := HPS.out.1
          simp only [List.getElem?_cons_zero, Option.some.injEq] at this
          rw [this]; rfl
        rw [e1] at HGx
        clear e1 hk hl1 hlen
        have KPx := hide (KP.out.ext HGx.out.old)
        have HPO := hide (fun W (hG : BoardAt w3 W BG R [P]) => BPosition_any hG (by simp) (fit_of HVS.out.1 (fun Q h => by rw [List.mem_singleton.1 h]; exact HVS.out.2)) (P := P) rfl)
        have HSM := hide (fun W (v1 v2 : Value) (h1 : PosAt W v1 P) (h2 : PosAt W v2 P) => by
          obtain ⟨-, -, -, f3, f4, f5⟩ := fit_of (R := R) (ps := [P]) HVS.out.1 (fun Q hQ => by rw [List.mem_singleton.1 hQ]; exact HVS.out.2) P (by simp)
          exact same_yes P v1 v2 W h1 h2 f3 f4 f5)
        generalize hwx : wr = wx at *
        clear hwx
        go_upto_region 20 with fail
        have keepK := hide (fun W (h : Ext wx W) => (show (fun W => W.cell? ⟨BP, 0, none⟩ = some (.slice cA P.cells.length cc) ∧ W.cell? ⟨BP, 1, none⟩ = some (.slice aA P.hand0.length ac) ∧ W.cell? ⟨BP, 2, none⟩ = some (.slice bA P.hand1.length bc) ∧ W.cell? ⟨BP, 3, none⟩ = some (.int .i64 P.turn) ∧ W.cell? ⟨BP, 4, none⟩ = some (.int .i64 P.quiet) ∧ Ext wx W) W from ⟨(KPx.out.ext h).cell 0, (KPx.out.ext h).cell 1, (KPx.out.ext h).cell 2, (KPx.out.ext h).cell 3, (KPx.out.ext h).cell 4, h⟩))
        have yy : Ext wx wx.drew := Below.drew (Below.refl _ _)
        refine region_K (fun W => W.cell? ⟨BP, 0, none⟩ = some (.slice cA P.cells.length cc) ∧ W.cell? ⟨BP, 1, none⟩ = some (.slice aA P.hand0.length ac) ∧ W.cell? ⟨BP, 2, none⟩ = some (.slice bA P.hand1.length bc) ∧ W.cell? ⟨BP, 3, none⟩ = some (.int .i64 P.turn) ∧ W.cell? ⟨BP, 4, none⟩ = some (.int .i64 P.quiet) ∧ Ext wx W) (fun _ => True) [] (by kernel_rfl) ?_
        have hT0 := keepK.out _ yy
        refine anyK_take 0 (oi := ?oo1) ?ho1 (by kernel_rfl) (by kernel_rfl) (by kernel_rfl) (by kernel_rfl) ?hq1 ?hw1 hT0 (fun _ => trivial) (v := ?vv1) ?hy1 ?hk1
        case ho1 => (simp only [List.getElem?_toArray, List.getElem?_cons_succ, List.getElem?_cons_zero]; rfl)
        case hq1 => exact fun _ _ _ h => h
        case hw1 => rfl
        case hy1 =>
          intro W hW
          go_simp
          first | done | with_reducible rfl
        case hk1 =>
        try simp only [Act.put, List.setIfInBounds_toArray, List.set_cons_zero, List.set_cons_succ]
        refine anyK_take 2 (oi := ?oo2) ?ho2 (by kernel_rfl) (by kernel_rfl) (by kernel_rfl) (by kernel_rfl) ?hq2 ?hw2 hT0 (fun _ => trivial) (v := ?vv2) ?hy2 ?hk2
        case ho2 => (simp only [List.getElem?_toArray, List.getElem?_cons_succ, List.getElem?_cons_zero]; rfl)
        case hq2 => exact fun _ _ _ h => h
        case hw2 => rfl
        case hy2 =>
          intro W hW
          go_simp
          first | done | with_reducible rfl
        case hk2 =>
        try simp only [Act.put, List.setIfInBounds_toArray, List.set_cons_zero, List.set_cons_succ]
        refine anyK_on1 1 (by kernel_rfl) ?_
        refine anyK_one 1 (o := ?oo3) ?ho3 ?hk3
        case ho3 => (simp only [List.getElem?_toArray, List.getElem?_cons_succ, List.getElem?_cons_zero]; rfl)
        case hk3 =>
        intro K hK
        go_simp
        refine (HKY.out _ (HGx.out.ext yy)).mono ?_
        rintro e wc ⟨rfl, xx⟩
        try go_wp2_with fail
        replace yy := ext_trans yy xx
        have hT1 := keepK.out _ yy
        refine hK.out _ _ hT1 (fun _ => trivial) ?_
        clear hK K
        try simp only [Act.put, List.setIfInBounds_toArray, List.set_cons_zero, List.set_cons_succ]
        refine anyK_take 3 (oi := ?oo4) ?ho4 (by kernel_rfl) (by kernel_rfl) (by kernel_rfl) (by kernel_rfl) ?hq4 ?hw4 hT1 (fun _ => trivial) (v := ?vv4) ?hy4 ?hk4
        case ho4 => (simp only [List.getElem?_toArray, List.getElem?_cons_succ, List.getElem?_cons_zero]; rfl)
        case hq4 => exact fun _ _ _ h => h
        case hw4 => rfl
        case hy4 =>
          intro W hW
          go_simp
          first | done | with_reducible rfl
        case hk4 =>
        try simp only [Act.put, List.setIfInBounds_toArray, List.set_cons_zero, List.set_cons_succ]
        refine anyK_take 4 (oi := ?oo5) ?ho5 (by kernel_rfl) (by kernel_rfl) (by kernel_rfl) (by kernel_rfl) ?hq5 ?hw5 hT1 (fun _ => trivial) (v := ?vv5) ?hy5 ?hk5
        case ho5 => (simp only [List.getElem?_toArray, List.getElem?_cons_succ, List.getElem?_cons_zero]; rfl)
        case hq5 => exact fun _ _ _ h => h
        case hw5 => rfl
        case hy5 =>
          intro W hW
          go_simp
          first | done | with_reducible rfl
        case hk5 =>
        try simp only [Act.put, List.setIfInBounds_toArray, List.set_cons_zero, List.set_cons_succ]
        refine anyK_take 5 (oi := ?oo6) ?ho6 (by kernel_rfl) (by kernel_rfl) (by kernel_rfl) (by kernel_rfl) ?hq6 ?hw6 hT1 (fun _ => trivial) (v := ?vv6) ?hy6 ?hk6
        case ho6 => (simp only [List.getElem?_toArray, List.getElem?_cons_succ, List.getElem?_cons_zero]; rfl)
        case hq6 => exact fun _ _ _ h => h
        case hw6 => rfl
        case hy6 =>
          intro W hW
          go_simp
          first | done | with_reducible rfl
        case hk6 =>
        try simp only [Act.put, List.setIfInBounds_toArray, List.set_cons_zero, List.set_cons_succ]
        refine anyK_take 7 (oi := ?oo7) ?ho7 (by kernel_rfl) (by kernel_rfl) (by kernel_rfl) (by kernel_rfl) ?hq7 ?hw7 hT1 (fun _ => trivial) (v := ?vv7) ?hy7 ?hk7
        case ho7 => (simp only [List.getElem?_toArray, List.getElem?_cons_succ, List.getElem?_cons_zero]; rfl)
        case hq7 => exact fun _ _ _ h => h
        case hw7 => rfl
        case hy7 =>
          intro W hW
          obtain ⟨z0, z1, z2, z3, z4, z5⟩ := hW
          go_simp
          first | done | with_reducible rfl
        case hk7 =>
        try simp only [Act.put, List.setIfInBounds_toArray, List.set_cons_zero, List.set_cons_succ]
        refine anyK_on1 6 (by kernel_rfl) ?_
        refine anyK_one 6 (o := ?oo8) ?ho8 ?hk8
        case ho8 => (simp only [List.getElem?_toArray, List.getElem?_cons_succ, List.getElem?_cons_zero]; rfl)
        case hk8 =>
        intro K hK
        go_simp
        refine (HPO.out _ (HGx.out.ext yy)).mono ?_
        rintro e wd ⟨vd, rfl, pd, xx⟩
        try go_wp2_with fail
        replace yy := ext_trans yy xx
        have HPD := hide pd.at_
        clear pd
        have hT2 := keepK.out _ yy
        refine hK.out _ _ hT2 (fun _ => trivial) ?_
        clear hK K
        try simp only [Act.put, List.setIfInBounds_toArray, List.set_cons_zero, List.set_cons_succ]
        refine anyK_on1 8 (by kernel_rfl) ?_
        refine anyK_one 8 (o := ?oo9) ?ho9 ?hk9
        case ho9 => (simp only [List.getElem?_toArray, List.getElem?_cons_succ, List.getElem?_cons_zero]; rfl)
        case hk9 =>
        intro K hK
        go_simp
        refine (HSM.out _ _ _ HPD.out (HP.out.ext (ext_trans (HGx.out.ext yy).old (Below.refl _ _)))).mono ?_
        rintro e we ⟨rfl, xx⟩
        try go_wp2_with fail
        replace yy := ext_trans yy xx
        have hT3 := keepK.out _ yy
        refine hK.out _ _ hT3 (fun _ => trivial) ?_
        clear hK K
        try simp only [Act.put, List.setIfInBounds_toArray, List.set_cons_zero, List.set_cons_succ]
        refine anyK_take 9 (oi := ?oo10) ?ho10 (by kernel_rfl) (by kernel_rfl) (by kernel_rfl) (by kernel_rfl) ?hq10 ?hw10 hT3 (fun _ => trivial) (v := ?vv10) ?hy10 ?hk10
        case ho10 => (simp only [List.getElem?_toArray, List.getElem?_cons_succ, List.getElem?_cons_zero]; rfl)
        case hq10 => exact fun _ _ _ h => h
        case hw10 => rfl
        case hy10 =>
          intro W hW
          go_simp
          first | done | with_reducible rfl
        case hk10 =>
        try simp only [Act.put, List.setIfInBounds_toArray, List.set_cons_zero, List.set_cons_succ]
        refine anyK_take 10 (oi := ?oo11) ?ho11 (by kernel_rfl) (by kernel_rfl) (by kernel_rfl) (by kernel_rfl) ?hq11 ?hw11 hT3 (fun _ => trivial) (v := ?vv11) ?hy11 ?hk11
        case ho11 => (simp only [List.getElem?_toArray, List.getElem?_cons_succ, List.getElem?_cons_zero]; rfl)
        case hq11 => exact fun _ _ _ h => h
        case hw11 => rfl
        case hy11 =>
          intro W hW
          go_simp
          first | done | with_reducible rfl
        case hk11 =>
        try simp only [Act.put, List.setIfInBounds_toArray, List.set_cons_zero, List.set_cons_succ]
        refine anyK_take 11 (oi := ?oo12) ?ho12 (by kernel_rfl) (by kernel_rfl) (by kernel_rfl) (by kernel_rfl) ?hq12 ?hw12 hT3 (fun _ => trivial) (v := ?vv12) ?hy12 ?hk12
        case ho12 => (simp only [List.getElem?_toArray, List.getElem?_cons_succ, List.getElem?_cons_zero]; rfl)
        case hq12 => exact fun _ _ _ h => h
        case hw12 => rfl
        case hy12 =>
          intro W hW
          go_simp
          first | done | with_reducible rfl
        case hk12 =>
        try simp only [Act.put, List.setIfInBounds_toArray, List.set_cons_zero, List.set_cons_succ]
        refine anyK_on1 12 (by kernel_rfl) ?_
        refine anyK_one 12 (o := ?oo13) ?ho13 ?hk13
        case ho13 => (simp only [List.getElem?_toArray, List.getElem?_cons_succ, List.getElem?_cons_zero]; rfl)
        case hk13 =>
        intro K hK
        go_simp
        refine (BUndo_no (HGx.out.ext yy)).mono ?_
        rintro e wf ⟨rfl, xx⟩
        try go_wp2_with fail
        replace yy := ext_trans yy xx
        have hT4 := keepK.out _ yy
        refine hK.out _ _ hT4 (fun _ => trivial) ?_
        clear hK K
        try simp only [Act.put, List.setIfInBounds_toArray, List.set_cons_zero, List.set_cons_succ]
        refine anyK_take 13 (oi := ?oo14) ?ho14 (by kernel_rfl) (by kernel_rfl) (by kernel_rfl) (by kernel_rfl) ?hq14 ?hw14 hT4 (fun _ => trivial) (v := ?vv14) ?hy14 ?hk14
        case ho14 => (simp only [List.getElem?_toArray, List.getElem?_cons_succ, List.getElem?_cons_zero]; rfl)
        case hq14 => exact fun _ _ _ h => h
        case hw14 => rfl
        case hy14 =>
          intro W hW
          go_simp
          first | done | with_reducible rfl
        case hk14 =>
        try simp only [Act.put, List.setIfInBounds_toArray, List.set_cons_zero, List.set_cons_succ]
        refine anyK_take 14 (oi := ?oo15) ?ho15 (by kernel_rfl) (by kernel_rfl) (by kernel_rfl) (by kernel_rfl) ?hq15 ?hw15 hT4 (fun _ => trivial) (v := ?vv15) ?hy15 ?hk15
        case ho15 => (simp only [List.getElem?_toArray, List.getElem?_cons_succ, List.getElem?_cons_zero]; rfl)
        case hq15 => exact fun _ _ _ h => h
        case hw15 => rfl
        case hy15 =>
          intro W hW
          go_simp
          first | done | with_reducible rfl
        case hk15 =>
        try simp only [Act.put, List.setIfInBounds_toArray, List.set_cons_zero, List.set_cons_succ]
        refine anyK_take 15 (oi := ?oo16) ?ho16 (by kernel_rfl) (by kernel_rfl) (by kernel_rfl) (by kernel_rfl) ?hq16 ?hw16 hT4 (fun _ => trivial) (v := ?vv16) ?hy16 ?hk16
        case ho16 => (simp only [List.getElem?_toArray, List.getElem?_cons_succ, List.getElem?_cons_zero]; rfl)
        case hq16 => exact fun _ _ _ h => h
        case hw16 => rfl
        case hy16 =>
          intro W hW
          go_simp
          first | done | with_reducible rfl
        case hk16 =>
        try simp only [Act.put, List.setIfInBounds_toArray, List.set_cons_zero, List.set_cons_succ]
        refine anyK_done (by kernel_rfl) ?_ _
        clear keepK hT0 hT1 hT2 hT3 hT4
        go_wp2
        go_ret
        exact ⟨rfl, ext_trans XB.out (HGx.out.ext yy).old⟩
      · obtain ⟨j, rfl⟩ : ∃ j, k = j + 1 := ⟨k - 1, by omega⟩
        obtain ⟨Q, hQ⟩ : ∃ Q, ps[j + 1]? = some Q := ⟨ps[j + 1]'(by omega), List.getElem?_eq_getElem _⟩
        have e1 : ps.take (j + 1 + 1) = ps.take (j + 1) ++ [Q] := by rw [List.take_add_one, hQ]; rfl
        have l1 : (ps.take (j + 1)).length = j + 1 := by rw [List.length_take]; omega
        rw [e1] at HGx
        have HLN := hide (BLen_any HGx.out (by simp; omega) (by simp))
        rw [show (((ps.take (j + 1) ++ [Q]).length : Nat) : Int) - 1 = ((j + 1 : Nat) : Int) by simp [l1]] at HLN
        have tg : decide ((0 : Int) < ((j + 1 : Nat) : Int)) = true := decide_eq_true (by omega)
        have tg2 : decide ((0 : Int) < (j : Int) + 1) = true := decide_eq_true (by omega)
        have hwj : IntKind.i64.wrap (((j + 1 : Nat) : Int) - 1) = (j : Int) := by rw [IntKind.wrap_i64]; omega
        have hwj2 : IntKind.i64.wrap ((j : Int) + 1 - 1) = (j : Int) := by rw [IntKind.wrap_i64]; omega
        clear hQ e1
        go_wp2_with fail
        refine HLN.out.mono ?_
        rintro e wz ⟨rfl, xz⟩
        have HGz := hide (HGx.out.ext xz)
        clear xz HGx HLN
        go_wp2_with fail
        refine (BUndo_yes HGz.out (by omega) (by omega)).mono ?_
        rintro e wt ⟨rfl, ht⟩
        have HGt := hide ht
        clear ht HGz
        go_wp2
        go_roundw
        case rel => exact ⟨j, by omega, by first | rfl | go_num, HGt.out⟩
        case measure => simp [intOf]
set_option maxHeartbeats 8000000 in
set_option maxRecDepth 100000 in
theorem boardBack_zero (v : Value) (R : RulesM) (u : Value) (P : PosM) (A : Option Addr) (n c : Nat) (z : List Int) (w : World) (hR : RulesAt w v R) (hP : PosAt w u P) (hV : Valid R) (hS : Sound R P) (x : Addr) (hA : A = some x) (hn : n = 0) (hc : c = 0) :
    Calls Try.prog 3 #[v, u, .slice A n c] w fun e w' => e = .returned (.bool true) ∧ Ext w w' := by
  have HNW := hide (fun W (v1 v2 : Value) (h1 : RulesAt W v1 R) (h2 : PosAt W v2 P) => BNew_yes R P v1 v2 W h1 h2 hV hS)
  have HVS := hide (And.intro hV hS)
  clear hV hS
  obtain ⟨q, hq⟩ : ∃ q : Int, min (n : Int) 20 = q := ⟨_, rfl⟩
  have hmin : ∀ W ats ty, (Builtin.min_ ats ty #[.int .i64 (n : Int), .int .i64 20]).run Try.prog W = .ok (.int .i64 q) W := fun W ats ty => by rw [← hq]; exact run_min3 W ats ty n 20
  subst hA hn hc
  obtain rfl : q = 0 := by omega
  clear hq
  have hR0 := hR
  have hP0 := hP
  obtain ⟨pA, pc, sA, sc, eA, ec, rfl, -⟩ := hR0
  obtain ⟨cA, cc, aA, ac, bA, bc, rfl, -⟩ := hP0
  go_enter Try.func3, Try.ntmps3
  go_wp2_with fail
  obtain ⟨xa, kR, kP⟩ := blks2 w #[.string R.name, .int .i64 R.width, .int .i64 R.height, .slice pA R.pieces.length pc, .slice sA R.start.length sc, .bool R.falls, .bool R.keeps, .slice eA R.ends.length ec, .int .i64 R.blocked, .int .i64 R.quiet, .int .i64 R.rept] 26 #[.slice cA P.cells.length cc, .slice aA P.hand0.length ac, .slice bA P.hand1.length bc, .int .i64 P.turn, .int .i64 P.quiet] 29
  replace hR := hR.ext xa
  replace hP := hP.ext xa
  have X := xa
  clear xa
  generalize ((w.alloc (.cells #[.string R.name, .int .i64 R.width, .int .i64 R.height, .slice pA R.pieces.length pc, .slice sA R.start.length sc, .bool R.falls, .bool R.keeps, .slice eA R.ends.length ec, .int .i64 R.blocked, .int .i64 R.quiet, .int .i64 R.rept] 26)).alloc (.cells #[.slice cA P.cells.length cc, .slice aA P.hand0.length ac, .slice bA P.hand1.length bc, .int .i64 P.turn, .int .i64 P.quiet] 29)) = w2 at *
  generalize w.heap.size + 1 = BP at *
  generalize w.heap.size = BR at *
  refine (boarded_any _).mono ?_
  rintro e w3 ⟨rfl, x⟩
  replace hR := hR.ext x
  replace hP := hP.ext x
  replace kR := kR.ext x
  replace kP := kP.ext x
  replace X := ext_trans X x
  clear x
  have fR := kR.cell
  have fP := kP.cell
  go_wp2_with fail
  have HP := hide hP
  have KP := hide kP
  have XB := hide X
  refine (HNW.out _ _ _ hR hP).mono ?_
  rintro e wn ⟨BG, rfl, hG⟩
  have HG := hide hG
  clear hG fR fP hR hP kR kP X HNW
  have HK0 := hide (BKey_any HG.out (by simp) HVS.out.1 (fun Q h => by rw [List.mem_singleton.1 h]; exact HVS.out.2) (P := P) rfl)
  go_wp2_with fail
  refine HK0.out.mono ?_
  rintro e wm ⟨rfl, xm⟩
  have HGm := hide (HG.out.ext xm)
  clear HG xm HK0
  have HKY := hide (fun W (hG : BoardAt w3 W BG R [P]) => BKey_any hG (by simp) HVS.out.1 (fun Q h => by rw [List.mem_singleton.1 h]; exact HVS.out.2) (P := P) rfl)
  generalize keyM P = key at *
  go_wp2
  go_loopw [38] (fun i wr => i = .int .i64 0 ∧ wr = wm) (fun _ _ => 0)
  case atStart => exact ⟨rfl, rfl⟩
  case round =>
    obtain ⟨rfl, rfl⟩ := hrel
    have HPS : Hid (([P] : List PosM)[0]? = some P ∧ (∀ Q ∈ [P], Sound R Q) ∧ ([P] : List PosM).length ≤ 100 ∧ 1 ≤ ([P] : List PosM).length) := hide ⟨rfl, fun Q h => by rw [List.mem_singleton.1 h]; exact HVS.out.2, by simp, by simp⟩
    obtain ⟨ps, hps⟩ : ∃ ps, ps = [P] := ⟨_, rfl⟩
    rw [← hps] at HGm HPS
    clear hps
    go_wp2_with fail
    have hl1 : 1 ≤ ps.length := HPS.out.2.2.2
    have hlen := HPS.out.2.2.1
    refine (BLen_any HGm.out (by omega) hl1).mono ?_
    rintro e wy ⟨rfl, xy⟩
    have HGy := hide (HGm.out.ext xy)
    clear xy HGm
    go_wp2
    go_loopw [13] (fun i wr => ∃ k : Nat, k + 1 ≤ ps.length ∧ i = .int .i64 k ∧ BoardAt w3 wr BG R (ps.take (k + 1))) (fun i _ => (intOf i).toNat)
    case atStart =>
      obtain ⟨m, hm⟩ : ∃ m, ps.length = m + 1 := ⟨ps.length - 1, by omega⟩
      exact ⟨m, by omega, by rw [hm]; simp, by rw [List.take_of_length_le (by omega)]; exact HGy.out⟩
    case round =>
      obtain ⟨k, hk, rfl, hG⟩ := hrel
      have HGx := hide hG
      clear HGy hG
      by_cases h0 : k = 0
      · subst h0
        have e1 : ps.take (0 + 1) = [P] := by
          obtain ⟨Q, l, rfl⟩ : ∃ Q l, ps = Q :: l := by
            rcases ps with _ | ⟨Q, l⟩
            · simp at hl1
            · exact ⟨Q, l, rfl⟩
          have := HPS.out.1
          simp only [List.getElem?_cons_zero, Option.some.injEq] at this
          rw [this]; rfl
        rw [e1] at HGx
        clear e1 hk hl1 hlen
        have KPx := hide (KP.out.ext HGx.out.old)
        have HPO := hide (fun W (hG : BoardAt w3 W BG R [P]) => BPosition_any hG (by simp) (fit_of HVS.out.1 (fun Q h => by rw [List.mem_singleton.1 h]; exact HVS.out.2)) (P := P) rfl)
        have HSM := hide (fun W (v1 v2 : Value) (h1 : PosAt W v1 P) (h2 : PosAt W v2 P) => by
          obtain ⟨-, -, -, f3, f4, f5⟩ := fit_of (R := R) (ps := [P]) HVS.out.1 (fun Q hQ => by rw [List.mem_singleton.1 hQ]; exact HVS.out.2) P (by simp)
          exact same_yes P v1 v2 W h1 h2 f3 f4 f5)
        generalize hwx : wr = wx at *
        clear hwx
        go_upto_region 20 with fail
        have keepK := hide (fun W (h : Ext wx W) => (show (fun W => W.cell? ⟨BP, 0, none⟩ = some (.slice cA P.cells.length cc) ∧ W.cell? ⟨BP, 1, none⟩ = some (.slice aA P.hand0.length ac) ∧ W.cell? ⟨BP, 2, none⟩ = some (.slice bA P.hand1.length bc) ∧ W.cell? ⟨BP, 3, none⟩ = some (.int .i64 P.turn) ∧ W.cell? ⟨BP, 4, none⟩ = some (.int .i64 P.quiet) ∧ Ext wx W) W from ⟨(KPx.out.ext h).cell 0, (KPx.out.ext h).cell 1, (KPx.out.ext h).cell 2, (KPx.out.ext h).cell 3, (KPx.out.ext h).cell 4, h⟩))
        have yy : Ext wx wx.drew := Below.drew (Below.refl _ _)
        refine region_K (fun W => W.cell? ⟨BP, 0, none⟩ = some (.slice cA P.cells.length cc) ∧ W.cell? ⟨BP, 1, none⟩ = some (.slice aA P.hand0.length ac) ∧ W.cell? ⟨BP, 2, none⟩ = some (.slice bA P.hand1.length bc) ∧ W.cell? ⟨BP, 3, none⟩ = some (.int .i64 P.turn) ∧ W.cell? ⟨BP, 4, none⟩ = some (.int .i64 P.quiet) ∧ Ext wx W) (fun _ => True) [] (by kernel_rfl) ?_
        have hT0 := keepK.out _ yy
        refine anyK_take 0 (oi := ?oo17) ?ho17 (by kernel_rfl) (by kernel_rfl) (by kernel_rfl) (by kernel_rfl) ?hq17 ?hw17 hT0 (fun _ => trivial) (v := ?vv17) ?hy17 ?hk17
        case ho17 => (simp only [List.getElem?_toArray, List.getElem?_cons_succ, List.getElem?_cons_zero]; rfl)
        case hq17 => exact fun _ _ _ h => h
        case hw17 => rfl
        case hy17 =>
          intro W hW
          go_simp
          first | done | with_reducible rfl
        case hk17 =>
        try simp only [Act.put, List.setIfInBounds_toArray, List.set_cons_zero, List.set_cons_succ]
        refine anyK_take 2 (oi := ?oo18) ?ho18 (by kernel_rfl) (by kernel_rfl) (by kernel_rfl) (by kernel_rfl) ?hq18 ?hw18 hT0 (fun _ => trivial) (v := ?vv18) ?hy18 ?hk18
        case ho18 => (simp only [List.getElem?_toArray, List.getElem?_cons_succ, List.getElem?_cons_zero]; rfl)
        case hq18 => exact fun _ _ _ h => h
        case hw18 => rfl
        case hy18 =>
          intro W hW
          go_simp
          first | done | with_reducible rfl
        case hk18 =>
        try simp only [Act.put, List.setIfInBounds_toArray, List.set_cons_zero, List.set_cons_succ]
        refine anyK_on1 1 (by kernel_rfl) ?_
        refine anyK_one 1 (o := ?oo19) ?ho19 ?hk19
        case ho19 => (simp only [List.getElem?_toArray, List.getElem?_cons_succ, List.getElem?_cons_zero]; rfl)
        case hk19 =>
        intro K hK
        go_simp
        refine (HKY.out _ (HGx.out.ext yy)).mono ?_
        rintro e wc ⟨rfl, xx⟩
        try go_wp2_with fail
        replace yy := ext_trans yy xx
        have hT1 := keepK.out _ yy
        refine hK.out _ _ hT1 (fun _ => trivial) ?_
        clear hK K
        try simp only [Act.put, List.setIfInBounds_toArray, List.set_cons_zero, List.set_cons_succ]
        refine anyK_take 3 (oi := ?oo20) ?ho20 (by kernel_rfl) (by kernel_rfl) (by kernel_rfl) (by kernel_rfl) ?hq20 ?hw20 hT1 (fun _ => trivial) (v := ?vv20) ?hy20 ?hk20
        case ho20 => (simp only [List.getElem?_toArray, List.getElem?_cons_succ, List.getElem?_cons_zero]; rfl)
        case hq20 => exact fun _ _ _ h => h
        case hw20 => rfl
        case hy20 =>
          intro W hW
          go_simp
          first | done | with_reducible rfl
        case hk20 =>
        try simp only [Act.put, List.setIfInBounds_toArray, List.set_cons_zero, List.set_cons_succ]
        refine anyK_take 4 (oi := ?oo21) ?ho21 (by kernel_rfl) (by kernel_rfl) (by kernel_rfl) (by kernel_rfl) ?hq21 ?hw21 hT1 (fun _ => trivial) (v := ?vv21) ?hy21 ?hk21
        case ho21 => (simp only [List.getElem?_toArray, List.getElem?_cons_succ, List.getElem?_cons_zero]; rfl)
        case hq21 => exact fun _ _ _ h => h
        case hw21 => rfl
        case hy21 =>
          intro W hW
          go_simp
          first | done | with_reducible rfl
        case hk21 =>
        try simp only [Act.put, List.setIfInBounds_toArray, List.set_cons_zero, List.set_cons_succ]
        refine anyK_take 5 (oi := ?oo22) ?ho22 (by kernel_rfl) (by kernel_rfl) (by kernel_rfl) (by kernel_rfl) ?hq22 ?hw22 hT1 (fun _ => trivial) (v := ?vv22) ?hy22 ?hk22
        case ho22 => (simp only [List.getElem?_toArray, List.getElem?_cons_succ, List.getElem?_cons_zero]; rfl)
        case hq22 => exact fun _ _ _ h => h
        case hw22 => rfl
        case hy22 =>
          intro W hW
          go_simp
          first | done | with_reducible rfl
        case hk22 =>
        try simp only [Act.put, List.setIfInBounds_toArray, List.set_cons_zero, List.set_cons_succ]
        refine anyK_take 7 (oi := ?oo23) ?ho23 (by kernel_rfl) (by kernel_rfl) (by kernel_rfl) (by kernel_rfl) ?hq23 ?hw23 hT1 (fun _ => trivial) (v := ?vv23) ?hy23 ?hk23
        case ho23 => (simp only [List.getElem?_toArray, List.getElem?_cons_succ, List.getElem?_cons_zero]; rfl)
        case hq23 => exact fun _ _ _ h => h
        case hw23 => rfl
        case hy23 =>
          intro W hW
          obtain ⟨z0, z1, z2, z3, z4, z5⟩ := hW
          go_simp
          first | done | with_reducible rfl
        case hk23 =>
        try simp only [Act.put, List.setIfInBounds_toArray, List.set_cons_zero, List.set_cons_succ]
        refine anyK_on1 6 (by kernel_rfl) ?_
        refine anyK_one 6 (o := ?oo24) ?ho24 ?hk24
        case ho24 => (simp only [List.getElem?_toArray, List.getElem?_cons_succ, List.getElem?_cons_zero]; rfl)
        case hk24 =>
        intro K hK
        go_simp
        refine (HPO.out _ (HGx.out.ext yy)).mono ?_
        rintro e wd ⟨vd, rfl, pd, xx⟩
        try go_wp2_with fail
        replace yy := ext_trans yy xx
        have HPD := hide pd.at_
        clear pd
        have hT2 := keepK.out _ yy
        refine hK.out _ _ hT2 (fun _ => trivial) ?_
        clear hK K
        try simp only [Act.put, List.setIfInBounds_toArray, List.set_cons_zero, List.set_cons_succ]
        refine anyK_on1 8 (by kernel_rfl) ?_
        refine anyK_one 8 (o := ?oo25) ?ho25 ?hk25
        case ho25 => (simp only [List.getElem?_toArray, List.getElem?_cons_succ, List.getElem?_cons_zero]; rfl)
        case hk25 =>
        intro K hK
        go_simp
        refine (HSM.out _ _ _ HPD.out (HP.out.ext (ext_trans (HGx.out.ext yy).old (Below.refl _ _)))).mono ?_
        rintro e we ⟨rfl, xx⟩
        try go_wp2_with fail
        replace yy := ext_trans yy xx
        have hT3 := keepK.out _ yy
        refine hK.out _ _ hT3 (fun _ => trivial) ?_
        clear hK K
        try simp only [Act.put, List.setIfInBounds_toArray, List.set_cons_zero, List.set_cons_succ]
        refine anyK_take 9 (oi := ?oo26) ?ho26 (by kernel_rfl) (by kernel_rfl) (by kernel_rfl) (by kernel_rfl) ?hq26 ?hw26 hT3 (fun _ => trivial) (v := ?vv26) ?hy26 ?hk26
        case ho26 => (simp only [List.getElem?_toArray, List.getElem?_cons_succ, List.getElem?_cons_zero]; rfl)
        case hq26 => exact fun _ _ _ h => h
        case hw26 => rfl
        case hy26 =>
          intro W hW
          go_simp
          first | done | with_reducible rfl
        case hk26 =>
        try simp only [Act.put, List.setIfInBounds_toArray, List.set_cons_zero, List.set_cons_succ]
        refine anyK_take 10 (oi := ?oo27) ?ho27 (by kernel_rfl) (by kernel_rfl) (by kernel_rfl) (by kernel_rfl) ?hq27 ?hw27 hT3 (fun _ => trivial) (v := ?vv27) ?hy27 ?hk27
        case ho27 => (simp only [List.getElem?_toArray, List.getElem?_cons_succ, List.getElem?_cons_zero]; rfl)
        case hq27 => exact fun _ _ _ h => h
        case hw27 => rfl
        case hy27 =>
          intro W hW
          go_simp
          first | done | with_reducible rfl
        case hk27 =>
        try simp only [Act.put, List.setIfInBounds_toArray, List.set_cons_zero, List.set_cons_succ]
        refine anyK_take 11 (oi := ?oo28) ?ho28 (by kernel_rfl) (by kernel_rfl) (by kernel_rfl) (by kernel_rfl) ?hq28 ?hw28 hT3 (fun _ => trivial) (v := ?vv28) ?hy28 ?hk28
        case ho28 => (simp only [List.getElem?_toArray, List.getElem?_cons_succ, List.getElem?_cons_zero]; rfl)
        case hq28 => exact fun _ _ _ h => h
        case hw28 => rfl
        case hy28 =>
          intro W hW
          go_simp
          first | done | with_reducible rfl
        case hk28 =>
        try simp only [Act.put, List.setIfInBounds_toArray, List.set_cons_zero, List.set_cons_succ]
        refine anyK_on1 12 (by kernel_rfl) ?_
        refine anyK_one 12 (o := ?oo29) ?ho29 ?hk29
        case ho29 => (simp only [List.getElem?_toArray, List.getElem?_cons_succ, List.getElem?_cons_zero]; rfl)
        case hk29 =>
        intro K hK
        go_simp
        refine (BUndo_no (HGx.out.ext yy)).mono ?_
        rintro e wf ⟨rfl, xx⟩
        try go_wp2_with fail
        replace yy := ext_trans yy xx
        have hT4 := keepK.out _ yy
        refine hK.out _ _ hT4 (fun _ => trivial) ?_
        clear hK K
        try simp only [Act.put, List.setIfInBounds_toArray, List.set_cons_zero, List.set_cons_succ]
        refine anyK_take 13 (oi := ?oo30) ?ho30 (by kernel_rfl) (by kernel_rfl) (by kernel_rfl) (by kernel_rfl) ?hq30 ?hw30 hT4 (fun _ => trivial) (v := ?vv30) ?hy30 ?hk30
        case ho30 => (simp only [List.getElem?_toArray, List.getElem?_cons_succ, List.getElem?_cons_zero]; rfl)
        case hq30 => exact fun _ _ _ h => h
        case hw30 => rfl
        case hy30 =>
          intro W hW
          go_simp
          first | done | with_reducible rfl
        case hk30 =>
        try simp only [Act.put, List.setIfInBounds_toArray, List.set_cons_zero, List.set_cons_succ]
        refine anyK_take 14 (oi := ?oo31) ?ho31 (by kernel_rfl) (by kernel_rfl) (by kernel_rfl) (by kernel_rfl) ?hq31 ?hw31 hT4 (fun _ => trivial) (v := ?vv31) ?hy31 ?hk31
        case ho31 => (simp only [List.getElem?_toArray, List.getElem?_cons_succ, List.getElem?_cons_zero]; rfl)
        case hq31 => exact fun _ _ _ h => h
        case hw31 => rfl
        case hy31 =>
          intro W hW
          go_simp
          first | done | with_reducible rfl
        case hk31 =>
        try simp only [Act.put, List.setIfInBounds_toArray, List.set_cons_zero, List.set_cons_succ]
        refine anyK_take 15 (oi := ?oo32) ?ho32 (by kernel_rfl) (by kernel_rfl) (by kernel_rfl) (by kernel_rfl) ?hq32 ?hw32 hT4 (fun _ => trivial) (v := ?vv32) ?hy32 ?hk32
        case ho32 => (simp only [List.getElem?_toArray, List.getElem?_cons_succ, List.getElem?_cons_zero]; rfl)
        case hq32 => exact fun _ _ _ h => h
        case hw32 => rfl
        case hy32 =>
          intro W hW
          go_simp
          first | done | with_reducible rfl
        case hk32 =>
        try simp only [Act.put, List.setIfInBounds_toArray, List.set_cons_zero, List.set_cons_succ]
        refine anyK_done (by kernel_rfl) ?_ _
        clear keepK hT0 hT1 hT2 hT3 hT4
        go_wp2
        go_ret
        exact ⟨rfl, ext_trans XB.out (HGx.out.ext yy).old⟩
      · obtain ⟨j, rfl⟩ : ∃ j, k = j + 1 := ⟨k - 1, by omega⟩
        obtain ⟨Q, hQ⟩ : ∃ Q, ps[j + 1]? = some Q := ⟨ps[j + 1]'(by omega), List.getElem?_eq_getElem _⟩
        have e1 : ps.take (j + 1 + 1) = ps.take (j + 1) ++ [Q] := by rw [List.take_add_one, hQ]; rfl
        have l1 : (ps.take (j + 1)).length = j + 1 := by rw [List.length_take]; omega
        rw [e1] at HGx
        have HLN := hide (BLen_any HGx.out (by simp; omega) (by simp))
        rw [show (((ps.take (j + 1) ++ [Q]).length : Nat) : Int) - 1 = ((j + 1 : Nat) : Int) by simp [l1]] at HLN
        have tg : decide ((0 : Int) < ((j + 1 : Nat) : Int)) = true := decide_eq_true (by omega)
        have tg2 : decide ((0 : Int) < (j : Int) + 1) = true := decide_eq_true (by omega)
        have hwj : IntKind.i64.wrap (((j + 1 : Nat) : Int) - 1) = (j : Int) := by rw [IntKind.wrap_i64]; omega
        have hwj2 : IntKind.i64.wrap ((j : Int) + 1 - 1) = (j : Int) := by rw [IntKind.wrap_i64]; omega
        clear hQ e1
        go_wp2_with fail
        refine HLN.out.mono ?_
        rintro e wz ⟨rfl, xz⟩
        have HGz := hide (HGx.out.ext xz)
        clear xz HGx HLN
        go_wp2_with fail
        refine (BUndo_yes HGz.out (by omega) (by omega)).mono ?_
        rintro e wt ⟨rfl, ht⟩
        have HGt := hide ht
        clear ht HGz
        go_wp2
        go_roundw
        case rel => exact ⟨j, by omega, by first | rfl | go_num, HGt.out⟩
        case measure => simp [intOf]
set_option maxHeartbeats 8000000 in
set_option maxRecDepth 100000 in
theorem boardBack_go (v : Value) (R : RulesM) (u : Value) (P : PosM) (A : Option Addr) (n c : Nat) (z : List Int) (w : World) (hR : RulesAt w v R) (hP : PosAt w u P) (hV : Valid R) (hS : Sound R P) (b : Nat) (o : Nat) (hA : A = some ⟨b, o, none⟩) (hn : n ≤ c) (hz : IntsAt w A (z.take n)) (hzl : (z.take n).length = n) (hcm : c ≤ maxLen) :
    Calls Try.prog 3 #[v, u, .slice A n c] w fun e w' => e = .returned (.bool true) ∧ Ext w w' := by
  have HNW := hide (fun W (v1 v2 : Value) (h1 : RulesAt W v1 R) (h2 : PosAt W v2 P) => BNew_yes R P v1 v2 W h1 h2 hV hS)
  have HVS := hide (And.intro hV hS)
  clear hV hS
  obtain ⟨q, hq⟩ : ∃ q : Int, min (n : Int) 20 = q := ⟨_, rfl⟩
  have hmin : ∀ W ats ty, (Builtin.min_ ats ty #[.int .i64 (n : Int), .int .i64 20]).run Try.prog W = .ok (.int .i64 q) W := fun W ats ty => by rw [← hq]; exact run_min3 W ats ty n 20
  subst hA
  have HZ := hide hz
  have HZL := hide hzl
  have q0 : 0 ≤ q := by omega
  have qc : q ≤ (c : Int) := by omega
  have q30 : q ≤ 20 := by omega
  obtain ⟨qn, hqn⟩ := Int.eq_ofNat_of_zero_le q0
  have hqn' : q = (qn : Int) := hqn
  subst hqn'
  have hq1 : qn ≤ n := by omega
  have hq2 : qn ≤ 20 := by omega
  have hq3 : qn ≤ c := by omega
  have hqw : IntKind.i64.wrap (qn : Int) = (qn : Int) := by rw [IntKind.wrap_i64]; omega
  have HQ := hide (And.intro hq1 (And.intro hq2 hq3))
  clear hq hqn hz hzl hn hcm
  have hR0 := hR
  have hP0 := hP
  obtain ⟨pA, pc, sA, sc, eA, ec, rfl, -⟩ := hR0
  obtain ⟨cA, cc, aA, ac, bA, bc, rfl, -⟩ := hP0
  go_enter Try.func3, Try.ntmps3
  go_wp2_with fail
  obtain ⟨xa, kR, kP⟩ := blks2 w #[.string R.name, .int .i64 R.width, .int .i64 R.height, .slice pA R.pieces.length pc, .slice sA R.start.length sc, .bool R.falls, .bool R.keeps, .slice eA R.ends.length ec, .int .i64 R.blocked, .int .i64 R.quiet, .int .i64 R.rept] 26 #[.slice cA P.cells.length cc, .slice aA P.hand0.length ac, .slice bA P.hand1.length bc, .int .i64 P.turn, .int .i64 P.quiet] 29
  replace hR := hR.ext xa
  replace hP := hP.ext xa
  have X := xa
  clear xa
  generalize ((w.alloc (.cells #[.string R.name, .int .i64 R.width, .int .i64 R.height, .slice pA R.pieces.length pc, .slice sA R.start.length sc, .bool R.falls, .bool R.keeps, .slice eA R.ends.length ec, .int .i64 R.blocked, .int .i64 R.quiet, .int .i64 R.rept] 26)).alloc (.cells #[.slice cA P.cells.length cc, .slice aA P.hand0.length ac, .slice bA P.hand1.length bc, .int .i64 P.turn, .int .i64 P.quiet] 29)) = w2 at *
  generalize w.heap.size + 1 = BP at *
  generalize w.heap.size = BR at *
  refine (boarded_any _).mono ?_
  rintro e w3 ⟨rfl, x⟩
  replace hR := hR.ext x
  replace hP := hP.ext x
  replace kR := kR.ext x
  replace kP := kP.ext x
  replace X := ext_trans X x
  clear x
  have fR := kR.cell
  have fP := kP.cell
  go_wp2_with fail
  have HP := hide hP
  have KP := hide kP
  have XB := hide X
  refine (HNW.out _ _ _ hR hP).mono ?_
  rintro e wn ⟨BG, rfl, hG⟩
  have HG := hide hG
  clear hG fR fP hR hP kR kP X HNW
  have HK0 := hide (BKey_any HG.out (by simp) HVS.out.1 (fun Q h => by rw [List.mem_singleton.1 h]; exact HVS.out.2) (P := P) rfl)
  go_wp2_with fail
  refine HK0.out.mono ?_
  rintro e wm ⟨rfl, xm⟩
  have HGm := hide (HG.out.ext xm)
  clear HG xm HK0
  have HKY := hide (fun W (hG : BoardAt w3 W BG R [P]) => BKey_any hG (by simp) HVS.out.1 (fun Q h => by rw [List.mem_singleton.1 h]; exact HVS.out.2) (P := P) rfl)
  generalize keyM P = key at *
  go_wp2
  go_loopw [38] (fun i wr => ∃ (k : Nat) (ps : List PosM), k ≤ qn ∧ i = .int .i64 k ∧ BoardAt w3 wr BG R ps ∧ Hid (ps[0]? = some P ∧ (∀ Q ∈ ps, Sound R Q) ∧ ps.length ≤ k + 1 ∧ 1 ≤ ps.length)) (fun i _ => qn - (intOf i).toNat)
  case atStart => exact ⟨0, _, Nat.zero_le _, rfl, HGm.out, hide ⟨rfl, fun Q h => by rw [List.mem_singleton.1 h]; exact HVS.out.2, by simp, by simp⟩⟩
  case round =>
    clear HGm
    obtain ⟨k, ps, hk, rfl, hG, hPS⟩ := hrel
    have hk20 := HQ.out.2.1
    have HPS : Hid (ps[0]? = some P ∧ (∀ Q ∈ ps, Sound R Q) ∧ ps.length ≤ 100 ∧ 1 ≤ ps.length) := hide ⟨hPS.out.1, hPS.out.2.1, by have := hPS.out.2.2.1; omega, hPS.out.2.2.2⟩
    have HGr := hide hG
    clear hG
    by_cases hlt : k < qn
    · obtain ⟨Q, hQ⟩ : ∃ Q, ps.getLast? = some Q := ⟨_, List.getLast?_eq_some_getLast (fun h => by have := hPS.out.2.2.2; rw [h] at this; simp at this)⟩
      have HLQ := hide hQ
      have HSQ := hide (hPS.out.2.1 Q (last_mem hQ))
      have HMV := hide (BMoves_any HGr.out (by have := HPS.out.2.2.1; omega) HVS.out.1 hPS.out.2.1 hQ)
      have HDO := hide (fun (m : MoveM) (hr : resultM R Q = 0) (hm : m ∈ listM R Q) W (x : Ext wr W) => BDo_yes (HGr.out.ext x) (by have := HPS.out.2.2.1; omega) HVS.out.1 hPS.out.2.1 hQ m hr hm)
      have HMM := hide (show movesM R Q = if resultM R Q = 0 then listM R Q else [] from rfl)
      have HML := hide (listM_len HVS.out.1 HSQ.out)
      obtain ⟨b', o', eA, hcell⟩ := (HZ.out.ext (ext_trans XB.out HGr.out.old)) k (by rw [HZL.out]; have := HQ.out.1; omega)
      simp only [Option.some.injEq, Addr.mk.injEq, and_true] at eA
      obtain ⟨rfl, rfl⟩ := eA
      have j0 : (0 : Int) ≤ (k : Int) := by omega
      have j1 : (k : Int) < (qn : Int) := by omega
      clear hQ
      generalize (z.take n).getD k 0 = pick at *
      generalize movesM R Q = L at *
      go_wp2_with fail
      clear hcell
      refine HMV.out.mono ?_
      rintro e wa ⟨va, rfl, oa, xa⟩
      have HMA := hide oa.at_
      obtain ⟨Aa, ca, rfl, -⟩ := oa
      have XA := hide xa
      clear xa HMV
      by_cases hL : L = []
      · subst hL
        simp only [List.length_nil]
        have HGa := hide (HGr.out.ext XA.out)
        clear HGr XA HMA HDO
        go_wp2_with fail
        have hl1 : 1 ≤ ps.length := HPS.out.2.2.2
        have hlen := HPS.out.2.2.1
        refine (BLen_any HGa.out (by omega) hl1).mono ?_
        rintro e wy ⟨rfl, xy⟩
        have HGy := hide (HGa.out.ext xy)
        clear xy HGa
        go_wp2
        go_loopw [13] (fun i wr => ∃ k : Nat, k + 1 ≤ ps.length ∧ i = .int .i64 k ∧ BoardAt w3 wr BG R (ps.take (k + 1))) (fun i _ => (intOf i).toNat)
        case atStart =>
          obtain ⟨m, hm⟩ : ∃ m, ps.length = m + 1 := ⟨ps.length - 1, by omega⟩
          exact ⟨m, by omega, by rw [hm]; simp, by rw [List.take_of_length_le (by omega)]; exact HGy.out⟩
        case round =>
          obtain ⟨k, hk, rfl, hG⟩ := hrel
          have HGx := hide hG
          clear HGy hG
          by_cases h0 : k = 0
          · subst h0
            have e1 : ps.take (0 + 1) = [P] := by
              obtain ⟨Q, l, rfl⟩ : ∃ Q l, ps = Q :: l := by
                rcases ps with _ | ⟨Q, l⟩
                · simp at hl1
                · exact ⟨Q, l, rfl⟩
              have := HPS.out.1
              simp only [List.getElem?_cons_zero, Option.some.injEq] at this
              rw [this]; rfl
            rw [e1] at HGx
            clear e1 hk hl1 hlen
            have KPx := hide (KP.out.ext HGx.out.old)
            have HPO := hide (fun W (hG : BoardAt w3 W BG R [P]) => BPosition_any hG (by simp) (fit_of HVS.out.1 (fun Q h => by rw [List.mem_singleton.1 h]; exact HVS.out.2)) (P := P) rfl)
            have HSM := hide (fun W (v1 v2 : Value) (h1 : PosAt W v1 P) (h2 : PosAt W v2 P) => by
              obtain ⟨-, -, -, f3, f4, f5⟩ := fit_of (R := R) (ps := [P]) HVS.out.1 (fun Q hQ => by rw [List.mem_singleton.1 hQ]; exact HVS.out.2) P (by simp)
              exact same_yes P v1 v2 W h1 h2 f3 f4 f5)
            generalize hwx : wr = wx at *
            clear hwx
            go_upto_region 20 with fail
            have keepK := hide (fun W (h : Ext wx W) => (show (fun W => W.cell? ⟨BP, 0, none⟩ = some (.slice cA P.cells.length cc) ∧ W.cell? ⟨BP, 1, none⟩ = some (.slice aA P.hand0.length ac) ∧ W.cell? ⟨BP, 2, none⟩ = some (.slice bA P.hand1.length bc) ∧ W.cell? ⟨BP, 3, none⟩ = some (.int .i64 P.turn) ∧ W.cell? ⟨BP, 4, none⟩ = some (.int .i64 P.quiet) ∧ Ext wx W) W from ⟨(KPx.out.ext h).cell 0, (KPx.out.ext h).cell 1, (KPx.out.ext h).cell 2, (KPx.out.ext h).cell 3, (KPx.out.ext h).cell 4, h⟩))
            have yy : Ext wx wx.drew := Below.drew (Below.refl _ _)
            refine region_K (fun W => W.cell? ⟨BP, 0, none⟩ = some (.slice cA P.cells.length cc) ∧ W.cell? ⟨BP, 1, none⟩ = some (.slice aA P.hand0.length ac) ∧ W.cell? ⟨BP, 2, none⟩ = some (.slice bA P.hand1.length bc) ∧ W.cell? ⟨BP, 3, none⟩ = some (.int .i64 P.turn) ∧ W.cell? ⟨BP, 4, none⟩ = some (.int .i64 P.quiet) ∧ Ext wx W) (fun _ => True) [] (by kernel_rfl) ?_
            have hT0 := keepK.out _ yy
            refine anyK_take 0 (oi := ?oo33) ?ho33 (by kernel_rfl) (by kernel_rfl) (by kernel_rfl) (by kernel_rfl) ?hq33 ?hw33 hT0 (fun _ => trivial) (v := ?vv33) ?hy33 ?hk33
            case ho33 => (simp only [List.getElem?_toArray, List.getElem?_cons_succ, List.getElem?_cons_zero]; rfl)
            case hq33 => exact fun _ _ _ h => h
            case hw33 => rfl
            case hy33 =>
              intro W hW
              go_simp
              first | done | with_reducible rfl
            case hk33 =>
            try simp only [Act.put, List.setIfInBounds_toArray, List.set_cons_zero, List.set_cons_succ]
            refine anyK_take 2 (oi := ?oo34) ?ho34 (by kernel_rfl) (by kernel_rfl) (by kernel_rfl) (by kernel_rfl) ?hq34 ?hw34 hT0 (fun _ => trivial) (v := ?vv34) ?hy34 ?hk34
            case ho34 => (simp only [List.getElem?_toArray, List.getElem?_cons_succ, List.getElem?_cons_zero]; rfl)
            case hq34 => exact fun _ _ _ h => h
            case hw34 => rfl
            case hy34 =>
              intro W hW
              go_simp
              first | done | with_reducible rfl
            case hk34 =>
            try simp only [Act.put, List.setIfInBounds_toArray, List.set_cons_zero, List.set_cons_succ]
            refine anyK_on1 1 (by kernel_rfl) ?_
            refine anyK_one 1 (o := ?oo35) ?ho35 ?hk35
            case ho35 => (simp only [List.getElem?_toArray, List.getElem?_cons_succ, List.getElem?_cons_zero]; rfl)
            case hk35 =>
            intro K hK
            go_simp
            refine (HKY.out _ (HGx.out.ext yy)).mono ?_
            rintro e wc ⟨rfl, xx⟩
            try go_wp2_with fail
            replace yy := ext_trans yy xx
            have hT1 := keepK.out _ yy
            refine hK.out _ _ hT1 (fun _ => trivial) ?_
            clear hK K
            try simp only [Act.put, List.setIfInBounds_toArray, List.set_cons_zero, List.set_cons_succ]
            refine anyK_take 3 (oi := ?oo36) ?ho36 (by kernel_rfl) (by kernel_rfl) (by kernel_rfl) (by kernel_rfl) ?hq36 ?hw36 hT1 (fun _ => trivial) (v := ?vv36) ?hy36 ?hk36
            case ho36 => (simp only [List.getElem?_toArray, List.getElem?_cons_succ, List.getElem?_cons_zero]; rfl)
            case hq36 => exact fun _ _ _ h => h
            case hw36 => rfl
            case hy36 =>
              intro W hW
              go_simp
              first | done | with_reducible rfl
            case hk36 =>
            try simp only [Act.put, List.setIfInBounds_toArray, List.set_cons_zero, List.set_cons_succ]
            refine anyK_take 4 (oi := ?oo37) ?ho37 (by kernel_rfl) (by kernel_rfl) (by kernel_rfl) (by kernel_rfl) ?hq37 ?hw37 hT1 (fun _ => trivial) (v := ?vv37) ?hy37 ?hk37
            case ho37 => (simp only [List.getElem?_toArray, List.getElem?_cons_succ, List.getElem?_cons_zero]; rfl)
            case hq37 => exact fun _ _ _ h => h
            case hw37 => rfl
            case hy37 =>
              intro W hW
              go_simp
              first | done | with_reducible rfl
            case hk37 =>
            try simp only [Act.put, List.setIfInBounds_toArray, List.set_cons_zero, List.set_cons_succ]
            refine anyK_take 5 (oi := ?oo38) ?ho38 (by kernel_rfl) (by kernel_rfl) (by kernel_rfl) (by kernel_rfl) ?hq38 ?hw38 hT1 (fun _ => trivial) (v := ?vv38) ?hy38 ?hk38
            case ho38 => (simp only [List.getElem?_toArray, List.getElem?_cons_succ, List.getElem?_cons_zero]; rfl)
            case hq38 => exact fun _ _ _ h => h
            case hw38 => rfl
            case hy38 =>
              intro W hW
              go_simp
              first | done | with_reducible rfl
            case hk38 =>
            try simp only [Act.put, List.setIfInBounds_toArray, List.set_cons_zero, List.set_cons_succ]
            refine anyK_take 7 (oi := ?oo39) ?ho39 (by kernel_rfl) (by kernel_rfl) (by kernel_rfl) (by kernel_rfl) ?hq39 ?hw39 hT1 (fun _ => trivial) (v := ?vv39) ?hy39 ?hk39
            case ho39 => (simp only [List.getElem?_toArray, List.getElem?_cons_succ, List.getElem?_cons_zero]; rfl)
            case hq39 => exact fun _ _ _ h => h
            case hw39 => rfl
            case hy39 =>
              intro W hW
              obtain ⟨z0, z1, z2, z3, z4, z5⟩ := hW
              go_simp
              first | done | with_reducible rfl
            case hk39 =>
            try simp only [Act.put, List.setIfInBounds_toArray, List.set_cons_zero, List.set_cons_succ]
            refine anyK_on1 6 (by kernel_rfl) ?_
            refine anyK_one 6 (o := ?oo40) ?ho40 ?hk40
            case ho40 => (simp only [List.getElem?_toArray, List.getElem?_cons_succ, List.getElem?_cons_zero]; rfl)
            case hk40 =>
            intro K hK
            go_simp
            refine (HPO.out _ (HGx.out.ext yy)).mono ?_
            rintro e wd ⟨vd, rfl, pd, xx⟩
            try go_wp2_with fail
            replace yy := ext_trans yy xx
            have HPD := hide pd.at_
            clear pd
            have hT2 := keepK.out _ yy
            refine hK.out _ _ hT2 (fun _ => trivial) ?_
            clear hK K
            try simp only [Act.put, List.setIfInBounds_toArray, List.set_cons_zero, List.set_cons_succ]
            refine anyK_on1 8 (by kernel_rfl) ?_
            refine anyK_one 8 (o := ?oo41) ?ho41 ?hk41
            case ho41 => (simp only [List.getElem?_toArray, List.getElem?_cons_succ, List.getElem?_cons_zero]; rfl)
            case hk41 =>
            intro K hK
            go_simp
            refine (HSM.out _ _ _ HPD.out (HP.out.ext (ext_trans (HGx.out.ext yy).old (Below.refl _ _)))).mono ?_
            rintro e we ⟨rfl, xx⟩
            try go_wp2_with fail
            replace yy := ext_trans yy xx
            have hT3 := keepK.out _ yy
            refine hK.out _ _ hT3 (fun _ => trivial) ?_
            clear hK K
            try simp only [Act.put, List.setIfInBounds_toArray, List.set_cons_zero, List.set_cons_succ]
            refine anyK_take 9 (oi := ?oo42) ?ho42 (by kernel_rfl) (by kernel_rfl) (by kernel_rfl) (by kernel_rfl) ?hq42 ?hw42 hT3 (fun _ => trivial) (v := ?vv42) ?hy42 ?hk42
            case ho42 => (simp only [List.getElem?_toArray, List.getElem?_cons_succ, List.getElem?_cons_zero]; rfl)
            case hq42 => exact fun _ _ _ h => h
            case hw42 => rfl
            case hy42 =>
              intro W hW
              go_simp
              first | done | with_reducible rfl
            case hk42 =>
            try simp only [Act.put, List.setIfInBounds_toArray, List.set_cons_zero, List.set_cons_succ]
            refine anyK_take 10 (oi := ?oo43) ?ho43 (by kernel_rfl) (by kernel_rfl) (by kernel_rfl) (by kernel_rfl) ?hq43 ?hw43 hT3 (fun _ => trivial) (v := ?vv43) ?hy43 ?hk43
            case ho43 => (simp only [List.getElem?_toArray, List.getElem?_cons_succ, List.getElem?_cons_zero]; rfl)
            case hq43 => exact fun _ _ _ h => h
            case hw43 => rfl
            case hy43 =>
              intro W hW
              go_simp
              first | done | with_reducible rfl
            case hk43 =>
            try simp only [Act.put, List.setIfInBounds_toArray, List.set_cons_zero, List.set_cons_succ]
            refine anyK_take 11 (oi := ?oo44) ?ho44 (by kernel_rfl) (by kernel_rfl) (by kernel_rfl) (by kernel_rfl) ?hq44 ?hw44 hT3 (fun _ => trivial) (v := ?vv44) ?hy44 ?hk44
            case ho44 => (simp only [List.getElem?_toArray, List.getElem?_cons_succ, List.getElem?_cons_zero]; rfl)
            case hq44 => exact fun _ _ _ h => h
            case hw44 => rfl
            case hy44 =>
              intro W hW
              go_simp
              first | done | with_reducible rfl
            case hk44 =>
            try simp only [Act.put, List.setIfInBounds_toArray, List.set_cons_zero, List.set_cons_succ]
            refine anyK_on1 12 (by kernel_rfl) ?_
            refine anyK_one 12 (o := ?oo45) ?ho45 ?hk45
            case ho45 => (simp only [List.getElem?_toArray, List.getElem?_cons_succ, List.getElem?_cons_zero]; rfl)
            case hk45 =>
            intro K hK
            go_simp
            refine (BUndo_no (HGx.out.ext yy)).mono ?_
            rintro e wf ⟨rfl, xx⟩
            try go_wp2_with fail
            replace yy := ext_trans yy xx
            have hT4 := keepK.out _ yy
            refine hK.out _ _ hT4 (fun _ => trivial) ?_
            clear hK K
            try simp only [Act.put, List.setIfInBounds_toArray, List.set_cons_zero, List.set_cons_succ]
            refine anyK_take 13 (oi := ?oo46) ?ho46 (by kernel_rfl) (by kernel_rfl) (by kernel_rfl) (by kernel_rfl) ?hq46 ?hw46 hT4 (fun _ => trivial) (v := ?vv46) ?hy46 ?hk46
            case ho46 => (simp only [List.getElem?_toArray, List.getElem?_cons_succ, List.getElem?_cons_zero]; rfl)
            case hq46 => exact fun _ _ _ h => h
            case hw46 => rfl
            case hy46 =>
              intro W hW
              go_simp
              first | done | with_reducible rfl
            case hk46 =>
            try simp only [Act.put, List.setIfInBounds_toArray, List.set_cons_zero, List.set_cons_succ]
            refine anyK_take 14 (oi := ?oo47) ?ho47 (by kernel_rfl) (by kernel_rfl) (by kernel_rfl) (by kernel_rfl) ?hq47 ?hw47 hT4 (fun _ => trivial) (v := ?vv47) ?hy47 ?hk47
            case ho47 => (simp only [List.getElem?_toArray, List.getElem?_cons_succ, List.getElem?_cons_zero]; rfl)
            case hq47 => exact fun _ _ _ h => h
            case hw47 => rfl
            case hy47 =>
              intro W hW
              go_simp
              first | done | with_reducible rfl
            case hk47 =>
            try simp only [Act.put, List.setIfInBounds_toArray, List.set_cons_zero, List.set_cons_succ]
            refine anyK_take 15 (oi := ?oo48) ?ho48 (by kernel_rfl) (by kernel_rfl) (by kernel_rfl) (by kernel_rfl) ?hq48 ?hw48 hT4 (fun _ => trivial) (v := ?vv48) ?hy48 ?hk48
            case ho48 => (simp only [List.getElem?_toArray, List.getElem?_cons_succ, List.getElem?_cons_zero]; rfl)
            case hq48 => exact fun _ _ _ h => h
            case hw48 => rfl
            case hy48 =>
              intro W hW
              go_simp
              first | done | with_reducible rfl
            case hk48 =>
            try simp only [Act.put, List.setIfInBounds_toArray, List.set_cons_zero, List.set_cons_succ]
            refine anyK_done (by kernel_rfl) ?_ _
            clear keepK hT0 hT1 hT2 hT3 hT4
            go_wp2
            go_ret
            exact ⟨rfl, ext_trans XB.out (HGx.out.ext yy).old⟩
          · obtain ⟨j, rfl⟩ : ∃ j, k = j + 1 := ⟨k - 1, by omega⟩
            obtain ⟨Q, hQ⟩ : ∃ Q, ps[j + 1]? = some Q := ⟨ps[j + 1]'(by omega), List.getElem?_eq_getElem _⟩
            have e1 : ps.take (j + 1 + 1) = ps.take (j + 1) ++ [Q] := by rw [List.take_add_one, hQ]; rfl
            have l1 : (ps.take (j + 1)).length = j + 1 := by rw [List.length_take]; omega
            rw [e1] at HGx
            have HLN := hide (BLen_any HGx.out (by simp; omega) (by simp))
            rw [show (((ps.take (j + 1) ++ [Q]).length : Nat) : Int) - 1 = ((j + 1 : Nat) : Int) by simp [l1]] at HLN
            have tg : decide ((0 : Int) < ((j + 1 : Nat) : Int)) = true := decide_eq_true (by omega)
            have tg2 : decide ((0 : Int) < (j : Int) + 1) = true := decide_eq_true (by omega)
            have hwj : IntKind.i64.wrap (((j + 1 : Nat) : Int) - 1) = (j : Int) := by rw [IntKind.wrap_i64]; omega
            have hwj2 : IntKind.i64.wrap ((j : Int) + 1 - 1) = (j : Int) := by rw [IntKind.wrap_i64]; omega
            clear hQ e1
            go_wp2_with fail
            refine HLN.out.mono ?_
            rintro e wz ⟨rfl, xz⟩
            have HGz := hide (HGx.out.ext xz)
            clear xz HGx HLN
            go_wp2_with fail
            refine (BUndo_yes HGz.out (by omega) (by omega)).mono ?_
            rintro e wt ⟨rfl, ht⟩
            have HGt := hide ht
            clear ht HGz
            go_wp2
            go_roundw
            case rel => exact ⟨j, by omega, by first | rfl | go_num, HGt.out⟩
            case measure => simp [intOf]
      · have hr : resultM R Q = 0 := by
          by_cases h : resultM R Q = 0
          · exact h
          · exact absurd (HMM.out.trans (if_neg h)) hL
        have hLL : L = listM R Q := HMM.out.trans (if_pos hr)
        have HDO2 := hide (fun (m : MoveM) (hm : m ∈ L) W (x : Ext wr W) => HDO.out m hr (by rw [← hLL]; exact hm) W x)
        have HSN := hide (fun (m : MoveM) (hm : m ∈ L) => sound_make HVS.out.1 HSQ.out (mem_listM.1 (by rw [← hLL]; exact hm)))
        have HSO := hide (fun W (v : Value) (h : MovesAt W v L) => some_move L pick v W h (by rw [hLL]; exact HML.out) hL)
        have t5 : ((L.length : Int) == 0) = false := by simpa using hL
        clear hr hLL hL HMM HDO
        go_wp2_with fail
        refine (HSO.out _ _ HMA.out).mono ?_
        rintro e wb ⟨m, hm, rfl, xb⟩
        have HD := hide (HDO2.out m hm _ (ext_trans XA.out xb))
        have HS9 := hide (HSN.out m hm)
        clear hm xb HDO2 HSN HSO HMA t5
        go_wp2_with fail
        refine HD.out.mono ?_
        rintro e wc ⟨rfl, hc⟩
        have HGc := hide hc
        clear hc HD
        go_wp2
        go_roundw
        case rel =>
          refine ⟨k + 1, _, by omega, by go_num, HGc.out, hide ⟨?_, ?_, ?_, ?_⟩⟩
          · rw [List.getElem?_append_left (by have := hPS.out.2.2.2; omega)]; exact hPS.out.1
          · intro q hq
            rcases List.mem_append.1 hq with h | h
            · exact hPS.out.2.1 q h
            · rw [List.mem_singleton.1 h]; exact HS9.out
          · have := hPS.out.2.2.1
            simp; omega
          · simp
        case measure => simp [intOf]; omega
    · obtain rfl : k = qn := by omega
      clear hPS
      go_wp2_with fail
      have hl1 : 1 ≤ ps.length := HPS.out.2.2.2
      have hlen := HPS.out.2.2.1
      refine (BLen_any HGr.out (by omega) hl1).mono ?_
      rintro e wy ⟨rfl, xy⟩
      have HGy := hide (HGr.out.ext xy)
      clear xy HGr
      go_wp2
      go_loopw [13] (fun i wr => ∃ k : Nat, k + 1 ≤ ps.length ∧ i = .int .i64 k ∧ BoardAt w3 wr BG R (ps.take (k + 1))) (fun i _ => (intOf i).toNat)
      case atStart =>
        obtain ⟨m, hm⟩ : ∃ m, ps.length = m + 1 := ⟨ps.length - 1, by omega⟩
        exact ⟨m, by omega, by rw [hm]; simp, by rw [List.take_of_length_le (by omega)]; exact HGy.out⟩
      case round =>
        obtain ⟨k, hk, rfl, hG⟩ := hrel
        have HGx := hide hG
        clear HGy hG
        by_cases h0 : k = 0
        · subst h0
          have e1 : ps.take (0 + 1) = [P] := by
            obtain ⟨Q, l, rfl⟩ : ∃ Q l, ps = Q :: l := by
              rcases ps with _ | ⟨Q, l⟩
              · simp at hl1
              · exact ⟨Q, l, rfl⟩
            have := HPS.out.1
            simp only [List.getElem?_cons_zero, Option.some.injEq] at this
            rw [this]; rfl
          rw [e1] at HGx
          clear e1 hk hl1 hlen
          have KPx := hide (KP.out.ext HGx.out.old)
          have HPO := hide (fun W (hG : BoardAt w3 W BG R [P]) => BPosition_any hG (by simp) (fit_of HVS.out.1 (fun Q h => by rw [List.mem_singleton.1 h]; exact HVS.out.2)) (P := P) rfl)
          have HSM := hide (fun W (v1 v2 : Value) (h1 : PosAt W v1 P) (h2 : PosAt W v2 P) => by
            obtain ⟨-, -, -, f3, f4, f5⟩ := fit_of (R := R) (ps := [P]) HVS.out.1 (fun Q hQ => by rw [List.mem_singleton.1 hQ]; exact HVS.out.2) P (by simp)
            exact same_yes P v1 v2 W h1 h2 f3 f4 f5)
          generalize hwx : wr = wx at *
          clear hwx
          go_upto_region 20 with fail
          have keepK := hide (fun W (h : Ext wx W) => (show (fun W => W.cell? ⟨BP, 0, none⟩ = some (.slice cA P.cells.length cc) ∧ W.cell? ⟨BP, 1, none⟩ = some (.slice aA P.hand0.length ac) ∧ W.cell? ⟨BP, 2, none⟩ = some (.slice bA P.hand1.length bc) ∧ W.cell? ⟨BP, 3, none⟩ = some (.int .i64 P.turn) ∧ W.cell? ⟨BP, 4, none⟩ = some (.int .i64 P.quiet) ∧ Ext wx W) W from ⟨(KPx.out.ext h).cell 0, (KPx.out.ext h).cell 1, (KPx.out.ext h).cell 2, (KPx.out.ext h).cell 3, (KPx.out.ext h).cell 4, h⟩))
          have yy : Ext wx wx.drew := Below.drew (Below.refl _ _)
          refine region_K (fun W => W.cell? ⟨BP, 0, none⟩ = some (.slice cA P.cells.length cc) ∧ W.cell? ⟨BP, 1, none⟩ = some (.slice aA P.hand0.length ac) ∧ W.cell? ⟨BP, 2, none⟩ = some (.slice bA P.hand1.length bc) ∧ W.cell? ⟨BP, 3, none⟩ = some (.int .i64 P.turn) ∧ W.cell? ⟨BP, 4, none⟩ = some (.int .i64 P.quiet) ∧ Ext wx W) (fun _ => True) [] (by kernel_rfl) ?_
          have hT0 := keepK.out _ yy
          refine anyK_take 0 (oi := ?oo49) ?ho49 (by kernel_rfl) (by kernel_rfl) (by kernel_rfl) (by kernel_rfl) ?hq49 ?hw49 hT0 (fun _ => trivial) (v := ?vv49) ?hy49 ?hk49
          case ho49 => (simp only [List.getElem?_toArray, List.getElem?_cons_succ, List.getElem?_cons_zero]; rfl)
          case hq49 => exact fun _ _ _ h => h
          case hw49 => rfl
          case hy49 =>
            intro W hW
            go_simp
            first | done | with_reducible rfl
          case hk49 =>
          try simp only [Act.put, List.setIfInBounds_toArray, List.set_cons_zero, List.set_cons_succ]
          refine anyK_take 2 (oi := ?oo50) ?ho50 (by kernel_rfl) (by kernel_rfl) (by kernel_rfl) (by kernel_rfl) ?hq50 ?hw50 hT0 (fun _ => trivial) (v := ?vv50) ?hy50 ?hk50
          case ho50 => (simp only [List.getElem?_toArray, List.getElem?_cons_succ, List.getElem?_cons_zero]; rfl)
          case hq50 => exact fun _ _ _ h => h
          case hw50 => rfl
          case hy50 =>
            intro W hW
            go_simp
            first | done | with_reducible rfl
          case hk50 =>
          try simp only [Act.put, List.setIfInBounds_toArray, List.set_cons_zero, List.set_cons_succ]
          refine anyK_on1 1 (by kernel_rfl) ?_
          refine anyK_one 1 (o := ?oo51) ?ho51 ?hk51
          case ho51 => (simp only [List.getElem?_toArray, List.getElem?_cons_succ, List.getElem?_cons_zero]; rfl)
          case hk51 =>
          intro K hK
          go_simp
          refine (HKY.out _ (HGx.out.ext yy)).mono ?_
          rintro e wc ⟨rfl, xx⟩
          try go_wp2_with fail
          replace yy := ext_trans yy xx
          have hT1 := keepK.out _ yy
          refine hK.out _ _ hT1 (fun _ => trivial) ?_
          clear hK K
          try simp only [Act.put, List.setIfInBounds_toArray, List.set_cons_zero, List.set_cons_succ]
          refine anyK_take 3 (oi := ?oo52) ?ho52 (by kernel_rfl) (by kernel_rfl) (by kernel_rfl) (by kernel_rfl) ?hq52 ?hw52 hT1 (fun _ => trivial) (v := ?vv52) ?hy52 ?hk52
          case ho52 => (simp only [List.getElem?_toArray, List.getElem?_cons_succ, List.getElem?_cons_zero]; rfl)
          case hq52 => exact fun _ _ _ h => h
          case hw52 => rfl
          case hy52 =>
            intro W hW
            go_simp
            first | done | with_reducible rfl
          case hk52 =>
          try simp only [Act.put, List.setIfInBounds_toArray, List.set_cons_zero, List.set_cons_succ]
          refine anyK_take 4 (oi := ?oo53) ?ho53 (by kernel_rfl) (by kernel_rfl) (by kernel_rfl) (by kernel_rfl) ?hq53 ?hw53 hT1 (fun _ => trivial) (v := ?vv53) ?hy53 ?hk53
          case ho53 => (simp only [List.getElem?_toArray, List.getElem?_cons_succ, List.getElem?_cons_zero]; rfl)
          case hq53 => exact fun _ _ _ h => h
          case hw53 => rfl
          case hy53 =>
            intro W hW
            go_simp
            first | done | with_reducible rfl
          case hk53 =>
          try simp only [Act.put, List.setIfInBounds_toArray, List.set_cons_zero, List.set_cons_succ]
          refine anyK_take 5 (oi := ?oo54) ?ho54 (by kernel_rfl) (by kernel_rfl) (by kernel_rfl) (by kernel_rfl) ?hq54 ?hw54 hT1 (fun _ => trivial) (v := ?vv54) ?hy54 ?hk54
          case ho54 => (simp only [List.getElem?_toArray, List.getElem?_cons_succ, List.getElem?_cons_zero]; rfl)
          case hq54 => exact fun _ _ _ h => h
          case hw54 => rfl
          case hy54 =>
            intro W hW
            go_simp
            first | done | with_reducible rfl
          case hk54 =>
          try simp only [Act.put, List.setIfInBounds_toArray, List.set_cons_zero, List.set_cons_succ]
          refine anyK_take 7 (oi := ?oo55) ?ho55 (by kernel_rfl) (by kernel_rfl) (by kernel_rfl) (by kernel_rfl) ?hq55 ?hw55 hT1 (fun _ => trivial) (v := ?vv55) ?hy55 ?hk55
          case ho55 => (simp only [List.getElem?_toArray, List.getElem?_cons_succ, List.getElem?_cons_zero]; rfl)
          case hq55 => exact fun _ _ _ h => h
          case hw55 => rfl
          case hy55 =>
            intro W hW
            obtain ⟨z0, z1, z2, z3, z4, z5⟩ := hW
            go_simp
            first | done | with_reducible rfl
          case hk55 =>
          try simp only [Act.put, List.setIfInBounds_toArray, List.set_cons_zero, List.set_cons_succ]
          refine anyK_on1 6 (by kernel_rfl) ?_
          refine anyK_one 6 (o := ?oo56) ?ho56 ?hk56
          case ho56 => (simp only [List.getElem?_toArray, List.getElem?_cons_succ, List.getElem?_cons_zero]; rfl)
          case hk56 =>
          intro K hK
          go_simp
          refine (HPO.out _ (HGx.out.ext yy)).mono ?_
          rintro e wd ⟨vd, rfl, pd, xx⟩
          try go_wp2_with fail
          replace yy := ext_trans yy xx
          have HPD := hide pd.at_
          clear pd
          have hT2 := keepK.out _ yy
          refine hK.out _ _ hT2 (fun _ => trivial) ?_
          clear hK K
          try simp only [Act.put, List.setIfInBounds_toArray, List.set_cons_zero, List.set_cons_succ]
          refine anyK_on1 8 (by kernel_rfl) ?_
          refine anyK_one 8 (o := ?oo57) ?ho57 ?hk57
          case ho57 => (simp only [List.getElem?_toArray, List.getElem?_cons_succ, List.getElem?_cons_zero]; rfl)
          case hk57 =>
          intro K hK
          go_simp
          refine (HSM.out _ _ _ HPD.out (HP.out.ext (ext_trans (HGx.out.ext yy).old (Below.refl _ _)))).mono ?_
          rintro e we ⟨rfl, xx⟩
          try go_wp2_with fail
          replace yy := ext_trans yy xx
          have hT3 := keepK.out _ yy
          refine hK.out _ _ hT3 (fun _ => trivial) ?_
          clear hK K
          try simp only [Act.put, List.setIfInBounds_toArray, List.set_cons_zero, List.set_cons_succ]
          refine anyK_take 9 (oi := ?oo58) ?ho58 (by kernel_rfl) (by kernel_rfl) (by kernel_rfl) (by kernel_rfl) ?hq58 ?hw58 hT3 (fun _ => trivial) (v := ?vv58) ?hy58 ?hk58
          case ho58 => (simp only [List.getElem?_toArray, List.getElem?_cons_succ, List.getElem?_cons_zero]; rfl)
          case hq58 => exact fun _ _ _ h => h
          case hw58 => rfl
          case hy58 =>
            intro W hW
            go_simp
            first | done | with_reducible rfl
          case hk58 =>
          try simp only [Act.put, List.setIfInBounds_toArray, List.set_cons_zero, List.set_cons_succ]
          refine anyK_take 10 (oi := ?oo59) ?ho59 (by kernel_rfl) (by kernel_rfl) (by kernel_rfl) (by kernel_rfl) ?hq59 ?hw59 hT3 (fun _ => trivial) (v := ?vv59) ?hy59 ?hk59
          case ho59 => (simp only [List.getElem?_toArray, List.getElem?_cons_succ, List.getElem?_cons_zero]; rfl)
          case hq59 => exact fun _ _ _ h => h
          case hw59 => rfl
          case hy59 =>
            intro W hW
            go_simp
            first | done | with_reducible rfl
          case hk59 =>
          try simp only [Act.put, List.setIfInBounds_toArray, List.set_cons_zero, List.set_cons_succ]
          refine anyK_take 11 (oi := ?oo60) ?ho60 (by kernel_rfl) (by kernel_rfl) (by kernel_rfl) (by kernel_rfl) ?hq60 ?hw60 hT3 (fun _ => trivial) (v := ?vv60) ?hy60 ?hk60
          case ho60 => (simp only [List.getElem?_toArray, List.getElem?_cons_succ, List.getElem?_cons_zero]; rfl)
          case hq60 => exact fun _ _ _ h => h
          case hw60 => rfl
          case hy60 =>
            intro W hW
            go_simp
            first | done | with_reducible rfl
          case hk60 =>
          try simp only [Act.put, List.setIfInBounds_toArray, List.set_cons_zero, List.set_cons_succ]
          refine anyK_on1 12 (by kernel_rfl) ?_
          refine anyK_one 12 (o := ?oo61) ?ho61 ?hk61
          case ho61 => (simp only [List.getElem?_toArray, List.getElem?_cons_succ, List.getElem?_cons_zero]; rfl)
          case hk61 =>
          intro K hK
          go_simp
          refine (BUndo_no (HGx.out.ext yy)).mono ?_
          rintro e wf ⟨rfl, xx⟩
          try go_wp2_with fail
          replace yy := ext_trans yy xx
          have hT4 := keepK.out _ yy
          refine hK.out _ _ hT4 (fun _ => trivial) ?_
          clear hK K
          try simp only [Act.put, List.setIfInBounds_toArray, List.set_cons_zero, List.set_cons_succ]
          refine anyK_take 13 (oi := ?oo62) ?ho62 (by kernel_rfl) (by kernel_rfl) (by kernel_rfl) (by kernel_rfl) ?hq62 ?hw62 hT4 (fun _ => trivial) (v := ?vv62) ?hy62 ?hk62
          case ho62 => (simp only [List.getElem?_toArray, List.getElem?_cons_succ, List.getElem?_cons_zero]; rfl)
          case hq62 => exact fun _ _ _ h => h
          case hw62 => rfl
          case hy62 =>
            intro W hW
            go_simp
            first | done | with_reducible rfl
          case hk62 =>
          try simp only [Act.put, List.setIfInBounds_toArray, List.set_cons_zero, List.set_cons_succ]
          refine anyK_take 14 (oi := ?oo63) ?ho63 (by kernel_rfl) (by kernel_rfl) (by kernel_rfl) (by kernel_rfl) ?hq63 ?hw63 hT4 (fun _ => trivial) (v := ?vv63) ?hy63 ?hk63
          case ho63 => (simp only [List.getElem?_toArray, List.getElem?_cons_succ, List.getElem?_cons_zero]; rfl)
          case hq63 => exact fun _ _ _ h => h
          case hw63 => rfl
          case hy63 =>
            intro W hW
            go_simp
            first | done | with_reducible rfl
          case hk63 =>
          try simp only [Act.put, List.setIfInBounds_toArray, List.set_cons_zero, List.set_cons_succ]
          refine anyK_take 15 (oi := ?oo64) ?ho64 (by kernel_rfl) (by kernel_rfl) (by kernel_rfl) (by kernel_rfl) ?hq64 ?hw64 hT4 (fun _ => trivial) (v := ?vv64) ?hy64 ?hk64
          case ho64 => (simp only [List.getElem?_toArray, List.getElem?_cons_succ, List.getElem?_cons_zero]; rfl)
          case hq64 => exact fun _ _ _ h => h
          case hw64 => rfl
          case hy64 =>
            intro W hW
            go_simp
            first | done | with_reducible rfl
          case hk64 =>
          try simp only [Act.put, List.setIfInBounds_toArray, List.set_cons_zero, List.set_cons_succ]
          refine anyK_done (by kernel_rfl) ?_ _
          clear keepK hT0 hT1 hT2 hT3 hT4
          go_wp2
          go_ret
          exact ⟨rfl, ext_trans XB.out (HGx.out.ext yy).old⟩
        · obtain ⟨j, rfl⟩ : ∃ j, k = j + 1 := ⟨k - 1, by omega⟩
          obtain ⟨Q, hQ⟩ : ∃ Q, ps[j + 1]? = some Q := ⟨ps[j + 1]'(by omega), List.getElem?_eq_getElem _⟩
          have e1 : ps.take (j + 1 + 1) = ps.take (j + 1) ++ [Q] := by rw [List.take_add_one, hQ]; rfl
          have l1 : (ps.take (j + 1)).length = j + 1 := by rw [List.length_take]; omega
          rw [e1] at HGx
          have HLN := hide (BLen_any HGx.out (by simp; omega) (by simp))
          rw [show (((ps.take (j + 1) ++ [Q]).length : Nat) : Int) - 1 = ((j + 1 : Nat) : Int) by simp [l1]] at HLN
          have tg : decide ((0 : Int) < ((j + 1 : Nat) : Int)) = true := decide_eq_true (by omega)
          have tg2 : decide ((0 : Int) < (j : Int) + 1) = true := decide_eq_true (by omega)
          have hwj : IntKind.i64.wrap (((j + 1 : Nat) : Int) - 1) = (j : Int) := by rw [IntKind.wrap_i64]; omega
          have hwj2 : IntKind.i64.wrap ((j : Int) + 1 - 1) = (j : Int) := by rw [IntKind.wrap_i64]; omega
          clear hQ e1
          go_wp2_with fail
          refine HLN.out.mono ?_
          rintro e wz ⟨rfl, xz⟩
          have HGz := hide (HGx.out.ext xz)
          clear xz HGx HLN
          go_wp2_with fail
          refine (BUndo_yes HGz.out (by omega) (by omega)).mono ?_
          rintro e wt ⟨rfl, ht⟩
          have HGt := hide ht
          clear ht HGz
          go_wp2
          go_roundw
          case rel => exact ⟨j, by omega, by first | rfl | go_num, HGt.out⟩
          case measure => simp [intOf]
theorem boardBack_law (v : Value) (R : RulesM) (u : Value) (P : PosM) (A : Option Addr) (n c : Nat) (z : List Int) (w : World) (hR : RulesAt w v R) (hP : PosAt w u P) (hr : IsRow w A n c z) :
    Calls Try.prog 3 #[v, u, .slice A n c] w fun e w' => e = .returned (.bool true) ∧ Ext w w' := by
  by_cases he : checkE R P = 0
  · obtain ⟨hV, hS⟩ := check_iff.1 he
    obtain ⟨h1, h2, h3, h4⟩ := hr.ints
    rcases hr with ⟨rfl, rfl, rfl, rfl⟩ | ⟨x, rfl, a1, a2, a3, a4, a5⟩
    · exact boardBack_nil v R u P _ _ _ [] w hR hP hV hS rfl rfl rfl
    · by_cases h0 : c = 0
      · exact boardBack_zero v R u P _ n c z w hR hP hV hS x rfl (by omega) h0
      · have hx := spot_none (a4 0 (by omega))
        rw [show x.add 0 = x from rfl] at hx
        exact boardBack_go v R u P _ n c z w hR hP hV hS _ _ (by rw [← hx]) a1 h1 h2 a2
  · exact boardBack_bad v R u P A n c z w hR hP he

end Go.Proofs.Ythmldoffonlddaa
