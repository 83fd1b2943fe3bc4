/- Walk: zob.Change: the key behind a legal move is that of the position behind it. -/
import Derived.Test.YtcfiannlpkofpaaGAfter
import Derived.Test.YtcfiannlpkofpaaGZob
namespace Go.Proofs.Ytcfiannlpkofpaa
open Go.ChangeShapes Go.WideShapes Go.ChangeAt Go.RowKit Go.Shelf
set_option linter.unusedVariables false
set_option maxHeartbeats 2000000 in
set_option maxRecDepth 100000 in
theorem Change_yes (R : RulesM) (P : PosM) (m : MoveM) (v u : Value) (w : World) (hR : RulesAt w v R) (hP : PosAt w u P) (hV : Valid R) (hS : Sound R P) (hm : m ∈ listM R P) :
    Calls Try.prog 38 #[v, u, .agg #[.int .i64 m.src, .int .i64 m.dst, .int .i64 m.piece]] w fun e w' => e = .returned (.tuple #[.int .u64 (keyM (makeM R P m)), .int .i64 0]) ∧ Ext w w' := by
  have HA := hide (fun W (hW : Ext w W) => After_yes R P m v u W (hR.ext hW) (hP.ext hW) hV hS hm)
  have HO := hide (fun W v' (h : PosAt W v' (makeM R P m)) => Of_any R (makeM R P m) v' W h hV (sound_make hV hS (mem_listM.1 hm)))
  obtain ⟨pA, pc, sA, sc, eA, ec, rfl, -⟩ := hR
  obtain ⟨cA, cc, aA, ac, bA, bc, rfl, -⟩ := hP
  generalize makeM R P m = Q at *
  obtain ⟨x1, k1, k2, k3⟩ := blks3 w #[.string R.name, .int .i64 R.width, .int .i64 R.height, .slice pA R.pieces.length pc, .slice sA R.start.length sc, .bool R.falls, .bool R.keeps, .slice eA R.ends.length ec, .int .i64 R.blocked, .int .i64 R.quiet, .int .i64 R.rept] 26 #[.slice cA P.cells.length cc, .slice aA P.hand0.length ac, .slice bA P.hand1.length bc, .int .i64 P.turn, .int .i64 P.quiet] 36 #[.int .i64 m.src, .int .i64 m.dst, .int .i64 m.piece] 45
  have HX := hide x1
  have f1 := k1.cell
  have f2 := k2.cell
  have f3 := k3.cell
  clear x1 k1 k2 k3 hm hV hS
  go_enter Try.func38, Try.ntmps38
  go_wp2_with fail
  refine (HA.out _ HX.out).mono ?_
  rintro e w2 ⟨v', rfl, own, x2⟩
  have A2 := hide own.at_
  obtain ⟨g0, c0, h1, c1, h2, c2, rfl, -⟩ := own
  obtain ⟨x3, k3⟩ := blks1 w2 #[.slice (some ⟨g0, 0, none⟩) Q.cells.length c0, .slice (some ⟨h1, 0, none⟩) Q.hand0.length c1, .slice (some ⟨h2, 0, none⟩) Q.hand1.length c2, .int .i64 Q.turn, .int .i64 Q.quiet] 36
  have A3 := hide (A2.out.ext x3)
  have X3 := hide (ext_trans HX.out (ext_trans x2 x3))
  have HOO := hide (HO.out _ _ A3.out)
  have f := k3.cell
  clear f1 f2 f3 x2 x3 A2 k3 HO
  go_wp2_with fail
  refine HOO.out.mono ?_
  rintro e w4 ⟨rfl, x4⟩
  clear f
  go_wp2
  go_ret2
  exact ⟨rfl, ext_trans X3.out x4⟩
end Go.Proofs.Ytcfiannlpkofpaa
