/- Walk: zob.Change: the key behind a legal move is that of the position behind it. Walk: keyed. -/
import Derived.Test.YtfkcigekbgkcmaaGAfter
import Derived.Test.YtfkcigekbgkcmaaGZob
import Derived.Test.YtfkcigekbgkcmaaGSamples
import Derived.Test.YtfkcigekbgkcmaaGLibB
namespace Go.Proofs.Ytfkcigekbgkcmaa
open Go.ChangeShapes Go.WideShapes Go.ChangeAt Go.RowKit Go.Shelf
set_option linter.unusedVariables false
set_option maxHeartbeats 2000000 in
set_option maxRecDepth 100000 in
theorem Change_yes (R : RulesM) (P : PosM) (m : MoveM) (v u : Value) (w : World) (hR : RulesAt w v R) (hP : PosAt w u P) (hV : Valid R) (hS : Sound R P) (hm : m ∈ listM R P) :
    Calls Try.prog 73 #[v, u, .agg #[.int .i64 m.src, .int .i64 m.dst, .int .i64 m.piece]] w fun e w' => e = .returned (.tuple #[.int .u64 (keyM (makeM R P m)), .int .i64 0]) ∧ Ext w w' := by
  have HA := hide (fun W (hW : Ext w W) => After_yes R P m v u W (hR.ext hW) (hP.ext hW) hV hS hm)
  have HO := hide (fun W v' (h : PosAt W v' (makeM R P m)) => Of_any R (makeM R P m) v' W h hV (sound_make hV hS (mem_listM.1 hm)))
  obtain ⟨pA, pc, sA, sc, eA, ec, rfl, -⟩ := hR
  obtain ⟨cA, cc, aA, ac, bA, bc, rfl, -⟩ := hP
  generalize makeM R P m = Q at *
  obtain ⟨x1, k1, k2, k3⟩ := blks3 w #[.string R.name, .int .i64 R.width, .int .i64 R.height, .slice pA R.pieces.length pc, .slice sA R.start.length sc, .bool R.falls, .bool R.keeps, .slice eA R.ends.length ec, .int .i64 R.blocked, .int .i64 R.quiet, .int .i64 R.rept] 26 #[.slice cA P.cells.length cc, .slice aA P.hand0.length ac, .slice bA P.hand1.length bc, .int .i64 P.turn, .int .i64 P.quiet] 29 #[.int .i64 m.src, .int .i64 m.dst, .int .i64 m.piece] 41
  have HX := hide x1
  have f1 := k1.cell
  have f2 := k2.cell
  have f3 := k3.cell
  clear x1 k1 k2 k3 hm hV hS
  go_enter Try.func73, Try.ntmps73
  go_wp2_with fail
  refine (HA.out _ HX.out).mono ?_
  rintro e w2 ⟨v', rfl, own, x2⟩
  have A2 := hide own.at_
  obtain ⟨g0, c0, h1, c1, h2, c2, rfl, -⟩ := own
  obtain ⟨x3, k3⟩ := blks1 w2 #[.slice (some ⟨g0, 0, none⟩) Q.cells.length c0, .slice (some ⟨h1, 0, none⟩) Q.hand0.length c1, .slice (some ⟨h2, 0, none⟩) Q.hand1.length c2, .int .i64 Q.turn, .int .i64 Q.quiet] 29
  have A3 := hide (A2.out.ext x3)
  have X3 := hide (ext_trans HX.out (ext_trans x2 x3))
  have HOO := hide (HO.out _ _ A3.out)
  have f := k3.cell
  clear f1 f2 f3 x2 x3 A2 k3 HO
  go_wp2_with fail
  refine HOO.out.mono ?_
  rintro e w4 ⟨rfl, x4⟩
  clear f
  go_wp2
  go_ret2
  exact ⟨rfl, ext_trans X3.out x4⟩
end Go.Proofs.Ytfkcigekbgkcmaa
namespace Go.Proofs.Ytfkcigekbgkcmaa
open Go.ChangeShapes Go.WideShapes Go.ChangeAt Go.RowKit Go.Shelf
set_option linter.unusedVariables false
theorem near_put : (⟨-1, 2, 0⟩ : MoveM) ∈ listM threeR nearP := by decide +kernel
set_option maxHeartbeats 2000000 in
set_option maxRecDepth 100000 in
theorem keyed_any (w : World) : Calls Try.prog 31 #[] w fun e w' => e = .returned (.bool true) ∧ Ext w w' := by
  have HK1 := hide (fun W (v u : Value) (h1 : RulesAt W v threeR) (h2 : PosAt W u nearP) => Key_any threeR nearP v u W h1 h2)
  have HK2 := hide (fun W (v u : Value) (h1 : RulesAt W v threeR) (h2 : PosAt W u nearP) => Change_yes threeR nearP ⟨-1, 2, 0⟩ v u W h1 h2 valid_three sound_near near_put)
  rw [check_iff.2 ⟨valid_three, sound_near⟩] at HK1
  go_enter Try.func31, Try.ntmps31
  go_wp2_with fail
  refine (three_any _).mono ?_
  rintro e w2 ⟨v1, rfl, h1, x⟩
  have X := x
  clear x
  go_wp2_with fail
  refine (near_any _).mono ?_
  rintro e w3 ⟨v2, rfl, h2, x⟩
  replace h1 := h1.ext x
  replace X := ext_trans X x
  clear x
  replace h2 := h2.at_
  go_wp2_with fail
  refine (HK1.out _ _ _ h1 h2).mono ?_
  rintro e w4 ⟨rfl, x⟩
  replace h1 := h1.ext x
  replace h2 := h2.ext x
  replace X := ext_trans X x
  clear x
  clear h1 h2
  go_wp2_with fail
  refine (three_any _).mono ?_
  rintro e w5 ⟨v3, rfl, h3, x⟩
  replace X := ext_trans X x
  clear x
  go_wp2_with fail
  refine (near_any _).mono ?_
  rintro e w6 ⟨v4, rfl, h4, x⟩
  replace h3 := h3.ext x
  replace X := ext_trans X x
  clear x
  replace h4 := h4.at_
  go_wp2_with fail
  refine (put_any 2 _).mono ?_
  rintro e w7 ⟨rfl, x⟩
  replace h3 := h3.ext x
  replace h4 := h4.ext x
  replace X := ext_trans X x
  clear x
  go_wp2_with fail
  refine (HK2.out _ _ _ h3 h4).mono ?_
  rintro e w8 ⟨rfl, x⟩
  replace h3 := h3.ext x
  replace h4 := h4.ext x
  replace X := ext_trans X x
  clear x
  clear h3 h4
  obtain ⟨xa, kE⟩ := blks1 w8 #[.int .i64 0, .int .i64 0] 32
  replace X := ext_trans X xa
  clear xa
  go_wp2_with fail
  generalize (w8.alloc (.cells #[.int .i64 0, .int .i64 0] 32)) = w9 at *
  generalize w8.heap.size = BE at *
  refine (fine_ext (fine_any (some ⟨BE, 0, none⟩) 2 2 [0, 0] _ rfl (by omega) (blk_ints kE))).mono ?_
  rintro e w10 ⟨rfl, x⟩
  replace kE := kE.ext x
  replace X := ext_trans X x
  clear x
  rw [show allZero [0, 0] = true from rfl]
  clear kE
  clear HK1 HK2
  go_wp2_with fail
  refine (Mix_any 33 _ (by decide) (by decide)).mono ?_
  rintro e w' ⟨rfl, rfl⟩
  go_wp2_with fail
  refine (Mix_any 2000 _ (by decide) (by decide)).mono ?_
  rintro e w' ⟨rfl, rfl⟩
  go_wp2_with fail
  refine (Mix_any 3000 _ (by decide) (by decide)).mono ?_
  rintro e w' ⟨rfl, rfl⟩
  go_wp2_with fail
  refine (Mix_any 33 _ (by decide) (by decide)).mono ?_
  rintro e w' ⟨rfl, rfl⟩
  go_wp2
  go_ret
  exact ⟨rfl, X⟩
end Go.Proofs.Ytfkcigekbgkcmaa
