/- Walks over the package place: sound; Check. Walks over the package place: Check. -/
import Derived.Test.YtdoibgmmijhlfaaDoorGPlaceA
import Derived.Test.YtdoibgmmijhlfaaDoorGPlaceB
import Derived.Test.YtdoibgmmijhlfaaDoorGPlaceC
namespace Go.Proofs.YtdoibgmmijhlfaaDoor
open Go.ChangeShapes Go.WideShapes Go.ChangeAt Go.RowKit Go.Shelf
set_option linter.unusedVariables false
theorem sound_any (R : RulesM) (P : PosM) (v u : Value) (w : World) (hR : RulesAt w v R) (hP : PosAt w u P) (hs : okSide R.width R.height) (h6 : R.pieces.length ≤ 6) :
    Calls Tryd.prog 29 #[v, u] w (ECode (soundE R P) w) := by
  unfold soundE
  cases hf : formB R P
  · exact sound_form R P v u w hR hP hs hf
  · rw [if_pos rfl]
    unfold rangeB
    cases hc : P.cells.all fun c => inB c 0 (2 * (R.pieces.length : Int))
    · exact sound_cells R P v u w hR hP hs h6 hf hc
    cases hk : (P.hand0 ++ P.hand1).all fun c => inB c 0 1000
    · exact sound_hands R P v u w hR hP hs h6 hf hc hk
    by_cases h0 : P.turn = 0
    · by_cases hq : P.quiet < 0
      · rw [if_neg (by simp [inB, h0]; omega)]
        exact sound_low0 R P v u w hR hP hs h6 hf hc hk h0 hq
      · by_cases hq2 : P.quiet ≤ 200
        · rw [if_pos (by simp [inB, h0]; omega)]
          exact sound_ok0 R P v u w hR hP hs h6 hf hc hk h0 hq hq2
        · rw [if_neg (by simp [inB, h0]; omega)]
          exact sound_high0 R P v u w hR hP hs h6 hf hc hk h0 hq (by omega)
    · by_cases h1 : P.turn = 1
      · by_cases hq : P.quiet < 0
        · rw [if_neg (by simp [inB, h1]; omega)]
          exact sound_low1 R P v u w hR hP hs h6 hf hc hk h1 hq
        · by_cases hq2 : P.quiet ≤ 200
          · rw [if_pos (by simp [inB, h1]; omega)]
            exact sound_ok1 R P v u w hR hP hs h6 hf hc hk h1 hq hq2
          · rw [if_neg (by simp [inB, h1]; omega)]
            exact sound_high1 R P v u w hR hP hs h6 hf hc hk h1 hq (by omega)
      · rw [if_neg (by simp [h0, h1])]
        exact sound_turn R P v u w hR hP hs h6 hf hc hk h0 h1
end Go.Proofs.YtdoibgmmijhlfaaDoor
namespace Go.Proofs.YtdoibgmmijhlfaaDoor
open Go.ChangeShapes Go.WideShapes Go.ChangeAt Go.RowKit Go.Shelf
set_option linter.unusedVariables false
set_option maxHeartbeats 1000000 in
set_option maxRecDepth 100000 in
theorem PCheck_any (R : RulesM) (P : PosM) (v u : Value) (w : World) (hR : RulesAt w v R) (hP : PosAt w u P) :
    Calls Tryd.prog 21 #[v, u] w (ECode (checkE R P) w) := by
  have HC := hide (fun W (hW : Ext w W) => Check_any v R W (hR.ext hW))
  have HS := hide (fun W (hE : rulesE R = 0) (hW : Ext w W) => sound_any R P v u W (hR.ext hW) (hP.ext hW) (valid_of hE).side (valid_of hE).pieces6)
  obtain ⟨pA, pc, sA, sc, eA, ec, rfl, -⟩ := hR
  obtain ⟨cA, cc, aA, ac, bA, bc, rfl, -⟩ := hP
  have HE : Hid (checkE R P = if rulesE R = 0 then soundE R P else rulesE R) := hide rfl
  generalize checkE R P = code at *
  by_cases h0 : rulesE R = 0
  · have HSS := hide (fun W (hW : Ext w W) => HS.out W h0 hW)
    have HEE : Hid (code = soundE R P) := hide (by rw [HE.out, if_pos h0])
    rw [h0] at HC
    clear HE HS h0
    go_enter Tryd.func21, Tryd.ntmps21
    go_wp2_with fail
    obtain ⟨x1, k1, k2⟩ := blks2 w #[.string R.name, .int .i64 R.width, .int .i64 R.height, .slice pA R.pieces.length pc, .slice sA R.start.length sc, .bool R.falls, .bool R.keeps, .slice eA R.ends.length ec, .int .i64 R.blocked, .int .i64 R.quiet, .int .i64 R.rept] 26 #[.slice cA P.cells.length cc, .slice aA P.hand0.length ac, .slice bA P.hand1.length bc, .int .i64 P.turn, .int .i64 P.quiet] 29
    refine (HC.out _ x1).mono ?_
    rintro e w2 ⟨rfl, x2⟩
    have f1 := (k1.ext x2).cell
    have f2 := (k2.ext x2).cell
    have y2 := ext_trans x1 x2
    clear x1 x2 k1 k2 HC
    go_wp2_with fail
    refine (HSS.out _ y2).mono ?_
    rintro e w3 ⟨rfl, x3⟩
    have y3 := ext_trans y2 x3
    clear f1 f2
    go_wp2
    go_ret
    exact ⟨by rw [HEE.out]; rfl, y3⟩
  · have HEE : Hid (code = rulesE R) := hide (by rw [HE.out, if_neg h0])
    have hn : (rulesE R != 0) = true := by simpa using h0
    clear HE HS h0
    generalize rulesE R = E at *
    go_enter Tryd.func21, Tryd.ntmps21
    go_wp2_with fail
    obtain ⟨x1, k1, k2⟩ := blks2 w #[.string R.name, .int .i64 R.width, .int .i64 R.height, .slice pA R.pieces.length pc, .slice sA R.start.length sc, .bool R.falls, .bool R.keeps, .slice eA R.ends.length ec, .int .i64 R.blocked, .int .i64 R.quiet, .int .i64 R.rept] 26 #[.slice cA P.cells.length cc, .slice aA P.hand0.length ac, .slice bA P.hand1.length bc, .int .i64 P.turn, .int .i64 P.quiet] 29
    refine (HC.out _ x1).mono ?_
    rintro e w2 ⟨rfl, x2⟩
    go_wp2
    go_ret
    exact ⟨by rw [HEE.out]; rfl, ext_trans x1 x2⟩
end Go.Proofs.YtdoibgmmijhlfaaDoor
