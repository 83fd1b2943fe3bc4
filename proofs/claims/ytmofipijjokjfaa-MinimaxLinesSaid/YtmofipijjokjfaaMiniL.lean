/- Walk: minimax.Line. -/
import Derived.Test.YtmofipijjokjfaaGMini
import Derived.Test.YtmofipijjokjfaaPosK
namespace Go.Proofs.Ytmofipijjokjfaa
open Go.ChangeShapes Go.WideShapes Go.ChangeAt Go.RowKit Go.Shelf
set_option linter.unusedVariables false
set_option linter.unusedSimpArgs false
theorem sound_line {R : RulesM} {P : PosM} {m : MoveM} (hV : Valid R) (hS : Sound R P) (h : m ∈ listM R P) : Sound R (makeM R P m) := sound_make hV hS (mem_listM.1 h)
def LinePost (w : World) (L : List MoveM) (e : Ending) (w' : World) : Prop := ∃ v', e = .returned (.tuple #[v', .int .i64 0]) ∧ OwnM w w' v' L ∧ Ext w w'
set_option maxHeartbeats 2000000 in
set_option maxRecDepth 100000 in
theorem Line_no (R : RulesM) (P : PosM) (v u : Value) (D : Int) (w : World) (hR : RulesAt w v R) (hP : PosAt w u P) (hz : perftE R P D ≠ 0) :
    Calls Try.prog 30 #[v, u, .int .i64 D] w fun e w' => e = .returned (.tuple #[.slice none 0 0, .int .i64 (perftE R P D)]) ∧ Ext w w' := by
  have HT := hide (fun W (hW : Ext w W) => PfTree_any R P v u D W (hR.ext hW) (hP.ext hW))
  obtain ⟨pA, pc, sA, sc, eA, ec, rfl, -⟩ := hR
  obtain ⟨cA, cc, aA, ac, bA, bc, rfl, -⟩ := hP
  obtain ⟨x1, k1, k2⟩ := blks2 w #[.string R.name, .int .i64 R.width, .int .i64 R.height, .slice pA R.pieces.length pc, .slice sA R.start.length sc, .bool R.falls, .bool R.keeps, .slice eA R.ends.length ec, .int .i64 R.blocked, .int .i64 R.quiet, .int .i64 R.rept] 26 #[.slice cA P.cells.length cc, .slice aA P.hand0.length ac, .slice bA P.hand1.length bc, .int .i64 P.turn, .int .i64 P.quiet] 29
  have HX := hide x1
  have f1 := k1.cell
  have f2 := k2.cell
  have t0 : (perftE R P D != 0) = true := by simpa using hz
  clear hz x1 k1 k2
  generalize perftN R P D = N at *
  generalize perftE R P D = E at *
  go_enter Try.func30, Try.ntmps30
  go_wp2_with fail
  refine (HT.out _ HX.out).mono ?_
  rintro e w2 ⟨rfl, x2⟩
  have X2 := hide (ext_trans HX.out x2)
  clear f1 f2 x2
  go_wp2
  go_ret2
  exact ⟨rfl, X2.out⟩
set_option maxHeartbeats 4000000 in
set_option maxRecDepth 100000 in
theorem Line_yes (R : RulesM) (P : PosM) (v u : Value) (D : Int) (w : World) (hR : RulesAt w v R) (hP : PosAt w u P) (hz : perftE R P D = 0) :
    Calls Try.prog 30 #[v, u, .int .i64 D] w (LinePost w (lineM R D.toNat P)) := by
  obtain ⟨hV, hS, d0, d1, -⟩ := perft_zero hz
  have HT := hide (fun W (hW : Ext w W) => PfTree_any R P v u D W (hR.ext hW) (hP.ext hW))
  rw [hz] at HT
  have HR := hide (fun W (hW : Ext w W) => hR.ext hW)
  have HRS := hide (fun (Q : PosM) (hQ : Sound R Q) (u : Value) W (hW : Ext w W) (hq : PosAt W u Q) => Result_any R Q v u W (hR.ext hW) hq hV hQ)
  have HFS := hide (fun (j : Nat) (hj : j ≤ 12) (Q : PosM) (hQ : Sound R Q) (u : Value) W (hW : Ext w W) (hq : PosAt W u Q) => first_any R hV j (by omega) Q v u ((j : Int) + 1) W rfl hQ (hR.ext hW) hq)
  have HMK := hide (fun (Q : PosM) (hQ : Sound R Q) (m : MoveM) (hm : m ∈ listM R Q) (u : Value) W (hW : Ext w W) (hq : PosAt W u Q) => Make_any R Q m v u W (hR.ext hW) hq hV hQ (mem_listM.1 hm))
  have HVS := hide (And.intro hV hS)
  have hP0 := hP
  have HP0 := hide hP0
  obtain ⟨pA, pc, sA, sc, eA, ec, rfl, -⟩ := hR
  obtain ⟨cA, cc, aA, ac, bA, bc, rfl, -⟩ := hP
  obtain ⟨d, hd⟩ := Int.eq_ofNat_of_zero_le d0
  have hdd : D = (d : Int) := hd
  subst hdd
  have hd12 : d ≤ 12 := by omega
  rw [show ((d : Int)).toNat = d from rfl]
  obtain ⟨x1, k1, k2⟩ := blks2 w #[.string R.name, .int .i64 R.width, .int .i64 R.height, .slice pA R.pieces.length pc, .slice sA R.start.length sc, .bool R.falls, .bool R.keeps, .slice eA R.ends.length ec, .int .i64 R.blocked, .int .i64 R.quiet, .int .i64 R.rept] 26 #[.slice cA P.cells.length cc, .slice aA P.hand0.length ac, .slice bA P.hand1.length bc, .int .i64 P.turn, .int .i64 P.quiet] 29
  have HX := hide x1
  have K1 := hide k1
  have K2 := hide k2
  clear x1 k1 k2 hV hS d0 d1 hd hP0 hz
  have f1 := K1.out.cell
  have f2 := K2.out.cell
  generalize perftN R P d = N at *
  go_enter Try.func30, Try.ntmps30
  go_wp2_with fail
  refine (HT.out _ HX.out).mono ?_
  rintro e w2 ⟨rfl, x2⟩
  have X2 := hide (ext_trans HX.out x2)
  have KR := hide (K1.out.ext x2)
  have KP := hide (K2.out.ext x2)
  have HNB : Hid (w.heap.size ≠ w.heap.size + 1 ∧ w.heap.size ≤ w.heap.size + 1) := hide (by omega)
  have HD12 := hide hd12
  clear f1 f2 x2 HX K1 K2 HT hd12
  generalize w.heap.size + 1 = BP at *
  generalize hBR : w.heap.size = BR at *
  have HBR := hide hBR
  clear hBR
  go_wp2
  go_loopw [2, 10] (fun dd out wr => ∃ (j : Nat) (v0 : Value) (Q : PosM) (xs : List MoveM) (qA : Option Addr) (qc : Nat) (rA : Option Addr) (rc : Nat) (tA : Option Addr) (tc : Nat), j ≤ d ∧ dd = .int .i64 j ∧ v0 = out ∧ OwnM w wr v0 xs ∧ Blk wr BR 26 #[.string R.name, .int .i64 R.width, .int .i64 R.height, .slice pA R.pieces.length pc, .slice sA R.start.length sc, .bool R.falls, .bool R.keeps, .slice eA R.ends.length ec, .int .i64 R.blocked, .int .i64 R.quiet, .int .i64 R.rept] ∧ Blk wr BP 29 #[.slice qA Q.cells.length qc, .slice rA Q.hand0.length rc, .slice tA Q.hand1.length tc, .int .i64 Q.turn, .int .i64 Q.quiet] ∧ PosK w wr (.agg #[.slice qA Q.cells.length qc, .slice rA Q.hand0.length rc, .slice tA Q.hand1.length tc, .int .i64 Q.turn, .int .i64 Q.quiet]) Q ∧ Ext w wr ∧ Hid (Sound R Q ∧ xs ++ lineM R j Q = lineM R d P ∧ xs.length + j = d)) (fun dd _ _ => (intOf dd).toNat)
  case atStart => exact ⟨d, _, P, [], cA, cc, aA, ac, bA, bc, Nat.le_refl _, rfl, rfl, OwnM.nil _ _, KR.out, KP.out, PosK.old HP0.out, X2.out, hide ⟨HVS.out.2, rfl, by simp⟩⟩
  case round =>
    clear KP KR HP0 X2
    obtain ⟨j, v0, Q, xs, qA, qc, rA, rc, tA, tc, hj, rfl, rfl, own, kR, kP, fP, xr, hl⟩ := hrel
    have HOW := hide own
    have KPr := hide kP
    have KRr := hide kR
    have FPr := hide fP
    have XR := hide xr
    clear own kP fP kR xr
    rcases j with _ | j
    · have HL2 : Hid (xs = lineM R d P) := hide (by have := hl.out.2.1; rw [show lineM R 0 Q = [] from rfl, List.append_nil] at this; exact this)
      go_wp2
      go_ret2
      exact ⟨_, rfl, by rw [← HL2.out]; exact HOW.out, XR.out⟩
    · obtain ⟨z, hz⟩ : ∃ z : Int, z = ((j + 1 : Nat) : Int) := ⟨_, rfl⟩
      rw [← hz]
      have t0 : decide (0 < z) = true := by simp; omega
      have hwz : IntKind.i64.wrap (z - 1) = z - 1 := by have := HD12.out; rw [IntKind.wrap_i64]; omega
      have HZ := hide hz
      have HJ := hide hj
      have HRS2 := hide (fun W (h : Ext wr W) => HRS.out Q hl.out.1 _ W (ext_trans XR.out h) ((FPr.out.ext h).at_ (ext_trans XR.out h)))
      have HFS2 := hide (fun W (h : Ext wr W) => by
        have := HFS.out j (by have := HD12.out; omega) Q hl.out.1 _ W (ext_trans XR.out h) ((FPr.out.ext h).at_ (ext_trans XR.out h))
        rw [show (j : Int) + 1 = z by omega] at this
        exact this)
      have f1 := KRr.out.cell
      have f2 := KPr.out.cell
      by_cases hr : resultM R Q = 0
      · rw [hr] at HRS2
        have hfm := (first_mem (R := R) (P := Q) hl.out.1.turn hr (d := j) (by have := HD12.out; omega)).1
        have HST : Hid (lineM R (j + 1) Q = (firstM R j Q).1 :: lineM R j (makeM R Q (firstM R j Q).1)) := hide (if_pos hr)
        generalize firstM R j Q = y at *
        have HMK2 := hide (fun (u : Value) W (x : Ext w W) (h : PosAt W u Q) => HMK.out Q hl.out.1 y.1 hfm u W x h)
        have HSQ := hide (sound_line HVS.out.1 hl.out.1 hfm)
        clear hr hfm hz hj
        go_wp2_with fail
        refine (HRS2.out _ (Below.refl _ _)).mono ?_
        rintro e w3 ⟨rfl, x3⟩
        have X3 := hide x3
        clear f1 f2 x3
        have f1 := (KRr.out.ext X3.out).cell
        have f2 := (KPr.out.ext X3.out).cell
        go_wp2_with fail
        refine (HFS2.out _ X3.out).mono ?_
        rintro e w4 ⟨rfl, x4⟩
        have X4 := hide (ext_trans X3.out x4)
        clear f1 f2 x4 X3 HRS2 HFS2
        go_upto_region 8 with fail
        obtain ⟨x5, k5⟩ := blks1 w4 #[.int .i64 y.1.src, .int .i64 y.1.dst, .int .i64 y.1.piece] 39
        have HNM : Hid (v0.ownBlock ≠ some w4.heap.size) := hide (fun h => by have := (HOW.out.bd _ h).2; have := X4.out.size; omega)
        have X5 := hide (ext_trans X4.out x5)
        have K5 := hide k5
        clear x5 k5
        generalize w4.alloc (.cells #[.int .i64 y.1.src, .int .i64 y.1.dst, .int .i64 y.1.piece] 39) = w5 at *
        generalize w4.heap.size = BM at *
        have g5 := K5.out.cell
        have HLX : Hid (xs.length ≤ 1000000) := hide (by have := HD12.out; have := hl.out.2.2; omega)
        go_upto_region 9 with (at_builtin; refine wp_append_move (.tmp 40) (.tmp 42) rfl rfl w w5 v0 xs y.1 rfl (HOW.out.ext X5.out) rfl (ext_trans XR.out X5.out) HLX.out ?_; intro v6 w6 own6 x6 gw6)
        have KR6 := hide ((KRr.out.ext X5.out).grown gw6 ((HOW.out.ext X5.out).blk_ne (KRr.out.ext X5.out) (by decide)))
        have KP6 := hide ((KPr.out.ext X5.out).grown gw6 ((HOW.out.ext X5.out).blk_ne (KPr.out.ext X5.out) (by decide)))
        have KM6 := hide (K5.out.grown gw6 (Ne.symm HNM.out))
        have FP6 := hide ((FPr.out.ext X5.out).grown (HOW.out.ext X5.out) gw6)
        have X6 := hide x6
        have HOW6 := hide own6
        clear g5 own6 x6 gw6 K5 X5 KRr KPr FPr HOW HNM X4 XR
        have f1 := KR6.out.cell
        have f2 := KP6.out.cell
        have f3 := KM6.out.cell
        go_wp2_with fail
        refine (HMK2.out _ w6 X6.out (FP6.out.at_ X6.out)).mono ?_
        rintro e w7 ⟨v7, rfl, own7, x7⟩
        have KR7 := hide (KR6.out.ext x7)
        have KP7 := hide (KP6.out.ext x7)
        have HOW7 := hide (HOW6.out.ext x7)
        have X7 := hide (ext_trans X6.out x7)
        have pk := PosK.new (w0 := w) own7
        obtain ⟨g0, c0, g1, c1, g2, c2, rfl, -⟩ := own7
        have PK := hide pk
        clear pk f1 f2 f3 x7 KR6 KP6 KM6 HOW6 X6 FP6
        have HNE : Hid (BR ≠ BP ∧ w.heap.size ≤ BP) := hide ⟨HNB.out.1, by have := HNB.out.2; have := HBR.out; omega⟩
        generalize makeM R Q y.1 = Q2 at *
        have f2 := KP7.out.frozen
        have f3 := KP7.out.cell
        go_wp2
        clear f2 f3
        go_roundw
        case rel => exact ⟨j, _, Q2, xs ++ [y.1], _, c0, _, c1, _, c2, by have := HJ.out; omega, by have := HZ.out; go_num, rfl, HOW7.out.set5 (HOW7.out.blk_ne KP7.out (by decide)), KR7.out.far5 HNE.out.1, blk_set5 KP7.out, PK.out.set5 KP7.out, ext5 X7.out HNE.out.2, hide ⟨HSQ.out, by have h := hl.out.2.1; rw [HST.out] at h; rw [← h, List.append_assoc]; rfl, by have := hl.out.2.2; simp; omega⟩⟩
        case measure => have := HZ.out; simp [intOf]; omega
      · have HL2 : Hid (xs = lineM R d P) := hide (by have := hl.out.2.1; rw [show lineM R (j + 1) Q = [] from if_neg hr, List.append_nil] at this; exact this)
        have t1 : (resultM R Q == 0) = false := by simpa using hr
        clear hr hz hj
        generalize resultM R Q = res at *
        go_wp2_with fail
        refine (HRS2.out _ (Below.refl _ _)).mono ?_
        rintro e w3 ⟨rfl, x3⟩
        have X3 := hide x3
        clear f1 f2 x3
        go_wp2
        go_ret2
        exact ⟨_, rfl, by rw [← HL2.out]; exact HOW.out.ext X3.out, ext_trans XR.out X3.out⟩
end Go.Proofs.Ytmofipijjokjfaa
