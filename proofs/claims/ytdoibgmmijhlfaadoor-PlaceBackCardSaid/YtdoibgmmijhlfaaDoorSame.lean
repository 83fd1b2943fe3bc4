/- Walks: place.Same and same, of positions that are alike. -/
import Derived.Test.YtdoibgmmijhlfaaDoorGLibB
import Derived.Test.YtdoibgmmijhlfaaDoorIRow
namespace Go.Proofs.YtdoibgmmijhlfaaDoor
open Go.ChangeShapes Go.WideShapes Go.ChangeAt Go.RowKit
set_option linter.unusedVariables false
theorem eq_ext {f : FuncId} {args : Array Value} {w : World} {v : Value} (h : Calls Tryd.prog f args w fun e w' => e = .returned v ∧ ∃ q, w' = w.drewN q) : Calls Tryd.prog f args w fun e w' => e = .returned v ∧ Ext w w' :=
  h.mono fun _ _ ⟨he, q, hw⟩ => ⟨he, by rw [hw]; exact ext_drewN (Below.refl _ _) q⟩
theorem same_yes (P : PosM) (v u : Value) (w : World) (hP : PosAt w v P) (hQ : PosAt w u P) (h0 : P.cells.length ≤ 100000) (h1 : P.hand0.length ≤ 100000) (h2 : P.hand1.length ≤ 100000) :
    Calls Tryd.prog 9 #[v, u] w fun e w' => e = .returned (.bool true) ∧ Ext w w' := by
  obtain ⟨cA, cc, aA, ac, bA, bc, rfl, hcA, haA, hbA, -⟩ := hP
  obtain ⟨dA, dc, eA, ec, fA, fc, rfl, hdA, heA, hfA, -⟩ := hQ
  have E0 := hide (fun W (hW : Ext w W) => eq_ext (EqInts_yes cA dA P.cells.length cc dc P.cells W rfl (by omega) (hcA.ext hW) (hdA.ext hW)))
  have E1 := hide (fun W (hW : Ext w W) => eq_ext (EqInts_yes aA eA P.hand0.length ac ec P.hand0 W rfl (by omega) (haA.ext hW) (heA.ext hW)))
  have E2 := hide (fun W (hW : Ext w W) => eq_ext (EqInts_yes bA fA P.hand1.length bc fc P.hand1 W rfl (by omega) (hbA.ext hW) (hfA.ext hW)))
  clear hcA haA hbA hdA heA hfA
  go_enter Tryd.func9, Tryd.ntmps9
  go_wp2_with fail
  obtain ⟨x1, k1, k2⟩ := blks2 w #[.slice cA P.cells.length cc, .slice aA P.hand0.length ac, .slice bA P.hand1.length bc, .int .i64 P.turn, .int .i64 P.quiet] 29 #[.slice dA P.cells.length dc, .slice eA P.hand0.length ec, .slice fA P.hand1.length fc, .int .i64 P.turn, .int .i64 P.quiet] 29
  refine (E0.out _ x1).mono ?_
  rintro e w2 ⟨rfl, x2⟩
  have f1 := (k1.ext x2).cell
  have f2 := (k2.ext x2).cell
  go_wp2_with fail
  refine (E1.out _ (ext_trans x1 x2)).mono ?_
  rintro e w3 ⟨rfl, x3⟩
  have g1 := ((k1.ext x2).ext x3).cell
  have g2 := ((k2.ext x2).ext x3).cell
  clear f1 f2
  go_wp2_with fail
  refine (E2.out _ (ext_trans x1 (ext_trans x2 x3))).mono ?_
  rintro e w4 ⟨rfl, x4⟩
  have i1 := (((k1.ext x2).ext x3).ext x4).cell
  have i2 := (((k2.ext x2).ext x3).ext x4).cell
  clear g1 g2
  go_wp2
  go_ret
  exact ⟨rfl, ext_trans x1 (ext_trans x2 (ext_trans x3 x4))⟩

end Go.Proofs.YtdoibgmmijhlfaaDoor
