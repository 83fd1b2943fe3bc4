/- What window.Score and Reaches answer, as plain data. Walks: Score, Reaches. -/
import Derived.Test.YtmofipijjokjfaaGMini
import Derived.Test.YtmofipijjokjfaaGMakeP
import Derived.BigFrame
namespace Go.Proofs.Ytmofipijjokjfaa
open Go.ChangeShapes Go.WideShapes Go.ChangeAt Go.RowKit Go.Shelf
set_option linter.unusedVariables false
set_option linter.unusedSimpArgs false
def winB (lo hi : Int) : Prop := lo < -1000 ∨ 1000 < hi ∨ hi ≤ lo
instance (lo hi : Int) : Decidable (winB lo hi) := inferInstanceAs (Decidable (_ ∨ _))
def winE (R : RulesM) (P : PosM) (D lo hi : Int) : Int := if perftE R P D ≠ 0 then perftE R P D else if winB lo hi then 4 else 0
def winS (R : RulesM) (P : PosM) (D lo hi : Int) : Int := if winE R P D lo hi = 0 then max lo (min hi (ofM R D.toNat P)) else 0
def winN (R : RulesM) (P : PosM) (D lo hi : Int) : Int := if winE R P D lo hi = 0 then perftN R P D else 0
theorem win_one {R : RulesM} {P : PosM} {D lo hi : Int} (h : perftE R P D ≠ 0) : winE R P D lo hi = perftE R P D ∧ winS R P D lo hi = 0 ∧ winN R P D lo hi = 0 := by
  have e : winE R P D lo hi = perftE R P D := if_pos h
  exact ⟨e, if_neg (by rw [e]; exact h), if_neg (by rw [e]; exact h)⟩
theorem win_two {R : RulesM} {P : PosM} {D lo hi : Int} (h : perftE R P D = 0) (hb : winB lo hi) : winE R P D lo hi = 4 ∧ winS R P D lo hi = 0 ∧ winN R P D lo hi = 0 := by
  have e : winE R P D lo hi = 4 := by unfold winE; rw [if_neg (by simpa using h), if_pos hb]
  exact ⟨e, if_neg (by rw [e]; decide), if_neg (by rw [e]; decide)⟩
theorem win_three {R : RulesM} {P : PosM} {D lo hi : Int} (h : perftE R P D = 0) (hb : ¬ winB lo hi) : winE R P D lo hi = 0 ∧ winS R P D lo hi = max lo (min hi (ofM R D.toNat P)) ∧ winN R P D lo hi = perftN R P D := by
  have e : winE R P D lo hi = 0 := by unfold winE; rw [if_neg (by simpa using h), if_neg hb]
  exact ⟨e, if_pos e, if_pos e⟩
theorem run_max2' (W : World) (ats : Array TypeId) (ty : TypeId) (a b : Int) : (Builtin.max_ ats ty #[.int .i64 a, .int .i64 b]).run Try.prog W = .ok (.int .i64 (max a b)) W := by
  have e : max a b = if a < b then b else a := by split <;> omega
  rw [e]
  simp [Builtin.max_, Builtin.max2]
theorem run_min2' (W : World) (ats : Array TypeId) (ty : TypeId) (a b : Int) : (Builtin.min_ ats ty #[.int .i64 a, .int .i64 b]).run Try.prog W = .ok (.int .i64 (min a b)) W := by
  have e : min a b = if b < a then b else a := by split <;> omega
  rw [e]
  simp [Builtin.min_, Builtin.min2]
set_option maxHeartbeats 4000000 in
set_option maxRecDepth 100000 in
theorem WScore_any (R : RulesM) (P : PosM) (v u : Value) (D lo hi : Int) (w : World) (hR : RulesAt w v R) (hP : PosAt w u P) :
    Calls Try.prog 25 #[v, u, .int .i64 D, .int .i64 lo, .int .i64 hi] w fun e w' => e = .returned (.tuple #[.int .i64 (winS R P D lo hi), .int .i64 (winN R P D lo hi), .int .i64 (winE R P D lo hi)]) ∧ Ext w w' := by
  have HT := hide (fun W (hW : Ext w W) => PfTree_any R P v u D W (hR.ext hW) (hP.ext hW))
  have HRF := hide (fun W (hW : Ext w W) => And.intro (hR.ext hW) (hP.ext hW))
  obtain ⟨pA, pc, sA, sc, eA, ec, rfl, -⟩ := hR
  obtain ⟨cA, cc, aA, ac, bA, bc, rfl, -⟩ := hP
  obtain ⟨x1, k1, k2⟩ := blks2 w #[.string R.name, .int .i64 R.width, .int .i64 R.height, .slice pA R.pieces.length pc, .slice sA R.start.length sc, .bool R.falls, .bool R.keeps, .slice eA R.ends.length ec, .int .i64 R.blocked, .int .i64 R.quiet, .int .i64 R.rept] 26 #[.slice cA P.cells.length cc, .slice aA P.hand0.length ac, .slice bA P.hand1.length bc, .int .i64 P.turn, .int .i64 P.quiet] 29
  have HX := hide x1
  have K1 := hide k1
  have K2 := hide k2
  clear x1 k1 k2
  have f1 := K1.out.cell
  have f2 := K2.out.cell
  by_cases hz : perftE R P D = 0
  · obtain ⟨hV, hS, d0, d1, -⟩ := perft_zero hz
    have HO := hide (fun W (hW : Ext w W) => of_any R hV D.toNat (by omega) P _ _ D W (by omega) hS (HRF.out W hW).1 (HRF.out W hW).2)
    rw [hz] at HT
    by_cases hb : winB lo hi
    · rw [(win_two hz hb).1, (win_two hz hb).2.1, (win_two hz hb).2.2]
      clear hz hV hS d0 d1 HRF HO
      generalize perftN R P D = N at *
      unfold winB at hb
      by_cases h1 : lo < -1000
      · have t0 : decide (lo < -1000) = true := by simpa using h1
        clear hb h1
        go_enter Try.func25, Try.ntmps25
        go_wp2_with fail
        refine (HT.out _ HX.out).mono ?_
        rintro e w2 ⟨rfl, x2⟩
        have X2 := hide (ext_trans HX.out x2)
        clear f1 f2 x2
        go_wp2
        go_ret3
        exact ⟨rfl, X2.out⟩
      · have t0 : decide (lo < -1000) = false := by simpa using h1
        by_cases h2 : 1000 < hi
        · have t1 : decide (1000 < hi) = true := by simpa using h2
          clear hb h1 h2
          go_enter Try.func25, Try.ntmps25
          go_wp2_with fail
          refine (HT.out _ HX.out).mono ?_
          rintro e w2 ⟨rfl, x2⟩
          have X2 := hide (ext_trans HX.out x2)
          clear f1 f2 x2
          go_wp2
          go_ret3
          exact ⟨rfl, X2.out⟩
        · have t1 : decide (1000 < hi) = false := by simpa using h2
          have t2 : decide (hi ≤ lo) = true := by simp; omega
          clear hb h1 h2
          go_enter Try.func25, Try.ntmps25
          go_wp2_with fail
          refine (HT.out _ HX.out).mono ?_
          rintro e w2 ⟨rfl, x2⟩
          have X2 := hide (ext_trans HX.out x2)
          clear f1 f2 x2
          go_wp2
          go_ret3
          exact ⟨rfl, X2.out⟩
    · rw [(win_three hz hb).1, (win_three hz hb).2.1, (win_three hz hb).2.2]
      clear hz hV hS d0 d1 HRF
      generalize perftN R P D = N at *
      generalize ofM R D.toNat P = z at *
      unfold winB at hb
      have t0 : decide (lo < -1000) = false := by simp; omega
      have t1 : decide (1000 < hi) = false := by simp; omega
      have t2 : decide (hi ≤ lo) = false := by simp; omega
      have hmin : ∀ W ats ty a b, (Builtin.min_ ats ty #[.int .i64 a, .int .i64 b]).run Try.prog W = .ok (.int .i64 (min a b)) W := run_min2'
      have hmax : ∀ W ats ty a b, (Builtin.max_ ats ty #[.int .i64 a, .int .i64 b]).run Try.prog W = .ok (.int .i64 (max a b)) W := run_max2'
      clear hb
      go_enter Try.func25, Try.ntmps25
      go_wp2_with fail
      refine (HT.out _ HX.out).mono ?_
      rintro e w2 ⟨rfl, x2⟩
      have X2 := hide (ext_trans HX.out x2)
      have g1 := (K1.out.ext x2).cell
      have g2 := (K2.out.ext x2).cell
      clear f1 f2 x2
      go_wp2_with fail
      refine (HO.out _ X2.out).mono ?_
      rintro e w3 ⟨rfl, x3⟩
      have X3 := hide (ext_trans X2.out x3)
      clear g1 g2 x3
      go_wp2
      go_ret3
      exact ⟨rfl, X3.out⟩
  · rw [(win_one hz).1, (win_one hz).2.1, (win_one hz).2.2]
    have t0 : (perftE R P D != 0) = true := by simpa using hz
    clear hz HRF
    generalize perftE R P D = E at *
    go_enter Try.func25, Try.ntmps25
    go_wp2_with fail
    refine (HT.out _ HX.out).mono ?_
    rintro e w2 ⟨rfl, x2⟩
    have X2 := hide (ext_trans HX.out x2)
    clear f1 f2 x2
    go_wp2
    go_ret3
    exact ⟨rfl, X2.out⟩
def reachE (R : RulesM) (P : PosM) (D least : Int) : Int := if perftE R P D ≠ 0 then perftE R P D else if least < -999 ∨ 1000 < least then 4 else 0
def wreachB (R : RulesM) (P : PosM) (D least : Int) : Bool := if reachE R P D least = 0 then decide (least ≤ ofM R D.toNat P) else false
theorem reach_one {R : RulesM} {P : PosM} {D n : Int} (h : perftE R P D ≠ 0) : reachE R P D n = perftE R P D ∧ wreachB R P D n = false := by
  have e : reachE R P D n = perftE R P D := if_pos h
  exact ⟨e, if_neg (by rw [e]; exact h)⟩
theorem reach_two {R : RulesM} {P : PosM} {D n : Int} (h : perftE R P D = 0) (hb : n < -999 ∨ 1000 < n) : reachE R P D n = 4 ∧ wreachB R P D n = false := by
  have e : reachE R P D n = 4 := by unfold reachE; rw [if_neg (by simpa using h), if_pos hb]
  exact ⟨e, if_neg (by rw [e]; decide)⟩
theorem reach_three {R : RulesM} {P : PosM} {D n : Int} (h : perftE R P D = 0) (hb : ¬ (n < -999 ∨ 1000 < n)) : reachE R P D n = 0 ∧ wreachB R P D n = decide (n ≤ ofM R D.toNat P) := by
  have e : reachE R P D n = 0 := by unfold reachE; rw [if_neg (by simpa using h), if_neg hb]
  exact ⟨e, if_pos e⟩
set_option maxHeartbeats 4000000 in
set_option maxRecDepth 100000 in
theorem WReaches_any (R : RulesM) (P : PosM) (v u : Value) (D n : Int) (w : World) (hR : RulesAt w v R) (hP : PosAt w u P) :
    Calls Try.prog 27 #[v, u, .int .i64 D, .int .i64 n] w fun e w' => e = .returned (.tuple #[.bool (wreachB R P D n), .int .i64 (reachE R P D n)]) ∧ Ext w w' := by
  have HT := hide (fun W (hW : Ext w W) => PfTree_any R P v u D W (hR.ext hW) (hP.ext hW))
  have HRF := hide (fun W (hW : Ext w W) => And.intro (hR.ext hW) (hP.ext hW))
  obtain ⟨pA, pc, sA, sc, eA, ec, rfl, -⟩ := hR
  obtain ⟨cA, cc, aA, ac, bA, bc, rfl, -⟩ := hP
  obtain ⟨x1, k1, k2⟩ := blks2 w #[.string R.name, .int .i64 R.width, .int .i64 R.height, .slice pA R.pieces.length pc, .slice sA R.start.length sc, .bool R.falls, .bool R.keeps, .slice eA R.ends.length ec, .int .i64 R.blocked, .int .i64 R.quiet, .int .i64 R.rept] 26 #[.slice cA P.cells.length cc, .slice aA P.hand0.length ac, .slice bA P.hand1.length bc, .int .i64 P.turn, .int .i64 P.quiet] 29
  have HX := hide x1
  have K1 := hide k1
  have K2 := hide k2
  clear x1 k1 k2
  have f1 := K1.out.cell
  have f2 := K2.out.cell
  by_cases hz : perftE R P D = 0
  · obtain ⟨hV, hS, d0, d1, -⟩ := perft_zero hz
    have HO := hide (fun W (hW : Ext w W) => of_any R hV D.toNat (by omega) P _ _ D W (by omega) hS (HRF.out W hW).1 (HRF.out W hW).2)
    rw [hz] at HT
    by_cases hb : n < -999 ∨ 1000 < n
    · rw [(reach_two hz hb).1, (reach_two hz hb).2]
      clear hz hV hS d0 d1 HRF HO
      generalize perftN R P D = N at *
      by_cases h1 : n < -999
      · have t0 : decide (n < -999) = true := by simpa using h1
        clear hb h1
        go_enter Try.func27, Try.ntmps27
        go_wp2_with fail
        refine (HT.out _ HX.out).mono ?_
        rintro e w2 ⟨rfl, x2⟩
        have X2 := hide (ext_trans HX.out x2)
        clear f1 f2 x2
        go_wp2
        go_ret2
        exact ⟨rfl, X2.out⟩
      · have t0 : decide (n < -999) = false := by simpa using h1
        have t1 : decide (1000 < n) = true := by simp; omega
        clear hb h1
        go_enter Try.func27, Try.ntmps27
        go_wp2_with fail
        refine (HT.out _ HX.out).mono ?_
        rintro e w2 ⟨rfl, x2⟩
        have X2 := hide (ext_trans HX.out x2)
        clear f1 f2 x2
        go_wp2
        go_ret2
        exact ⟨rfl, X2.out⟩
    · rw [(reach_three hz hb).1, (reach_three hz hb).2]
      clear hz hV hS d0 d1 HRF
      generalize perftN R P D = N at *
      generalize ofM R D.toNat P = z at *
      have t0 : decide (n < -999) = false := by simp; omega
      have t1 : decide (1000 < n) = false := by simp; omega
      clear hb
      go_enter Try.func27, Try.ntmps27
      go_wp2_with fail
      refine (HT.out _ HX.out).mono ?_
      rintro e w2 ⟨rfl, x2⟩
      have X2 := hide (ext_trans HX.out x2)
      have g1 := (K1.out.ext x2).cell
      have g2 := (K2.out.ext x2).cell
      clear f1 f2 x2
      go_wp2_with fail
      refine (HO.out _ X2.out).mono ?_
      rintro e w3 ⟨rfl, x3⟩
      have X3 := hide (ext_trans X2.out x3)
      clear g1 g2 x3
      go_wp2
      go_ret2
      exact ⟨rfl, X3.out⟩
  · rw [(reach_one hz).1, (reach_one hz).2]
    have t0 : (perftE R P D != 0) = true := by simpa using hz
    clear hz HRF
    generalize perftE R P D = E at *
    go_enter Try.func27, Try.ntmps27
    go_wp2_with fail
    refine (HT.out _ HX.out).mono ?_
    rintro e w2 ⟨rfl, x2⟩
    have X2 := hide (ext_trans HX.out x2)
    clear f1 f2 x2
    go_wp2
    go_ret2
    exact ⟨rfl, X2.out⟩
end Go.Proofs.Ytmofipijjokjfaa
