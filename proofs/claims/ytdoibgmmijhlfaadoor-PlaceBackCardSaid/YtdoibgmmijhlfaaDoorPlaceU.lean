/- Walk: begins. -/
import Derived.Test.YtdoibgmmijhlfaaDoorPlaceX
namespace Go.Proofs.YtdoibgmmijhlfaaDoor
open Go.RowKit
set_option linter.unusedVariables false
set_option linter.unusedSimpArgs false
theorem text_three (v u : Value) (w : World) (hR : RulesAt w v threeR) (hP : PosAt w u (beginP threeR)) (hw : LibW w) : Calls Tryd.prog 7 #[v, u] w fun e w' => e = .returned (.tuple #[.string (strU txtP), .int .i64 0]) ∧ Ext w w' := by
  refine (Text_any threeR (beginP threeR) v u w hR hP hw).mono ?_
  rintro e w' ⟨⟨h, rfl⟩ | ⟨h, rfl⟩, x⟩
  · exact ⟨by rw [three_text.2.1], x⟩
  · exact absurd three_text.1 h
theorem read_three (v : Value) (w : World) (hR : RulesAt w v threeR) (hw : LibW w) : Calls Tryd.prog 8 #[v, .string (strU txtP)] w fun e w' => ∃ u, e = .returned (.tuple #[u, .int .i64 0]) ∧ PosAt w' u (beginP threeR) ∧ Ext w w' := by
  refine (read_any threeR v _ txtP rfl w hR hw).mono ?_
  rintro e w' ⟨⟨Q, u, -, h, rfl, hp⟩ | ⟨h | h, -⟩, x⟩
  · rw [three_read] at h
    injection h with h
    subst h
    exact ⟨u, rfl, hp, x⟩
  · exact absurd three_text.2.2 h
  · rw [three_read] at h
    cases h
set_option maxHeartbeats 8000000 in
set_option maxRecDepth 100000 in
theorem begins_any (w : World) (hw : LibW w) : Calls Tryd.prog 6 #[] w fun e w' => e = .returned (.bool true) ∧ Ext w w' := by
  have HLW := Lib.hid (fun W (x : Ext w W) => hw.ext x)
  have HV := Lib.hid (valid_of three_text.2.2)
  clear hw
  go_enter Tryd.func6, Tryd.ntmps6
  go_wp2_with fail
  refine (three_any _).mono ?_
  rintro e w1 ⟨v1, rfl, hR1, x1⟩
  have X1 := Lib.hid x1
  have HB1 := Lib.hid (Begin_yes threeR v1 w1 hR1 HV.out)
  clear hR1 x1
  go_wp2_with fail
  refine HB1.out.mono ?_
  rintro e w2 ⟨u, rfl, hP2, x2⟩
  have X2 := Lib.hid (ext_trans X1.out x2)
  have HP2 := Lib.hid hP2
  obtain ⟨cA, cc, aA, ac, bA, bc, rfl, -⟩ := hP2
  clear HB1 X1 x2
  go_upto_region 2 with fail
  obtain ⟨x3, k3⟩ := blks1 w2 #[.slice cA (beginP threeR).cells.length cc, .slice aA (beginP threeR).hand0.length ac, .slice bA (beginP threeR).hand1.length bc, .int .i64 (beginP threeR).turn, .int .i64 (beginP threeR).quiet] 29
  generalize w2.alloc _ = w3 at *
  obtain ⟨B1, hB1⟩ : ∃ B1, B1 = w2.heap.size := ⟨_, rfl⟩
  rw [← hB1] at k3 ⊢
  have K3 := Lib.hid k3
  have X3 := Lib.hid (ext_trans X2.out x3)
  have HP3 := Lib.hid (HP2.out.ext x3)
  clear k3 x3 hB1 X2 HP2
  have keepK := hide (fun W (h : Ext w3 W) => (show (fun W => W.cell? ⟨B1, 0, none⟩ = some (.slice cA (beginP threeR).cells.length cc) ∧ W.cell? ⟨B1, 1, none⟩ = some (.slice aA (beginP threeR).hand0.length ac) ∧ W.cell? ⟨B1, 2, none⟩ = some (.slice bA (beginP threeR).hand1.length bc) ∧ W.cell? ⟨B1, 3, none⟩ = some (.int .i64 (beginP threeR).turn) ∧ W.cell? ⟨B1, 4, none⟩ = some (.int .i64 (beginP threeR).quiet) ∧ Ext w3 W) W from ⟨(K3.out.ext h).cell 0, (K3.out.ext h).cell 1, (K3.out.ext h).cell 2, (K3.out.ext h).cell 3, (K3.out.ext h).cell 4, h⟩))
  have yy : Ext w3 w3.drew := Below.drew (Below.refl _ _)
  refine region_K (fun W => W.cell? ⟨B1, 0, none⟩ = some (.slice cA (beginP threeR).cells.length cc) ∧ W.cell? ⟨B1, 1, none⟩ = some (.slice aA (beginP threeR).hand0.length ac) ∧ W.cell? ⟨B1, 2, none⟩ = some (.slice bA (beginP threeR).hand1.length bc) ∧ W.cell? ⟨B1, 3, none⟩ = some (.int .i64 (beginP threeR).turn) ∧ W.cell? ⟨B1, 4, none⟩ = some (.int .i64 (beginP threeR).quiet) ∧ Ext w3 W) (fun _ => True) [] (by kernel_rfl) ?_
  have hT0 := keepK.out _ yy
  refine anyK_take 1 (oi := ?oo1) ?ho1 (by kernel_rfl) (by kernel_rfl) (by kernel_rfl) (by kernel_rfl) ?hq1 ?hw1 hT0 (fun _ => trivial) (v := ?vv1) ?hy1 ?hk1
  case ho1 => (simp only [List.getElem?_toArray, List.getElem?_cons_succ, List.getElem?_cons_zero]; rfl)
  case hq1 => exact fun _ _ _ h => h
  case hw1 => rfl
  case hy1 =>
    intro W hW
    obtain ⟨z0, z1, z2, z3, z4, z5⟩ := hW
    go_simp
    first | done | with_reducible rfl
  case hk1 =>
  try simp only [Act.put, List.setIfInBounds_toArray, List.set_cons_zero, List.set_cons_succ]
  refine anyK_on1 0 (by kernel_rfl) ?_
  refine anyK_one 0 (o := ?oo2) ?ho2 ?hk2
  case ho2 => (simp only [List.getElem?_toArray, List.getElem?_cons_succ, List.getElem?_cons_zero]; rfl)
  case hk2 =>
  intro K hK
  go_simp
  refine (three_any _).mono ?_
  rintro e wi ⟨v3, rfl, hR3, xx⟩
  try go_wp2_with fail
  replace yy := ext_trans yy xx
  have HR3 := Lib.hid hR3
  have hT1 := keepK.out _ yy
  refine hK.out _ _ hT1 (fun _ => trivial) ?_
  clear hK K
  try simp only [Act.put, List.setIfInBounds_toArray, List.set_cons_zero, List.set_cons_succ]
  refine anyK_on1 2 (by kernel_rfl) ?_
  refine anyK_one 2 (o := ?oo3) ?ho3 ?hk3
  case ho3 => (simp only [List.getElem?_toArray, List.getElem?_cons_succ, List.getElem?_cons_zero]; rfl)
  case hk3 =>
  intro K hK
  go_simp
  refine (text_three v3 _ _ HR3.out (HP3.out.ext yy) (HLW.out _ (ext_trans X3.out yy))).mono ?_
  rintro e wj ⟨rfl, xx⟩
  try go_wp2_with fail
  replace yy := ext_trans yy xx
  have hT2 := keepK.out _ yy
  refine hK.out _ _ hT2 (fun _ => trivial) ?_
  clear hK K
  try simp only [Act.put, List.setIfInBounds_toArray, List.set_cons_zero, List.set_cons_succ]
  refine anyK_take 3 (oi := ?oo4) ?ho4 (by kernel_rfl) (by kernel_rfl) (by kernel_rfl) (by kernel_rfl) ?hq4 ?hw4 hT2 (fun _ => trivial) (v := ?vv4) ?hy4 ?hk4
  case ho4 => (simp only [List.getElem?_toArray, List.getElem?_cons_succ, List.getElem?_cons_zero]; rfl)
  case hq4 => exact fun _ _ _ h => h
  case hw4 => rfl
  case hy4 =>
    intro W hW
    go_simp
    first | done | with_reducible rfl
  case hk4 =>
  try simp only [Act.put, List.setIfInBounds_toArray, List.set_cons_zero, List.set_cons_succ]
  refine anyK_take 4 (oi := ?oo5) ?ho5 (by kernel_rfl) (by kernel_rfl) (by kernel_rfl) (by kernel_rfl) ?hq5 ?hw5 hT2 (fun _ => trivial) (v := ?vv5) ?hy5 ?hk5
  case ho5 => (simp only [List.getElem?_toArray, List.getElem?_cons_succ, List.getElem?_cons_zero]; rfl)
  case hq5 => exact fun _ _ _ h => h
  case hw5 => rfl
  case hy5 =>
    intro W hW
    go_simp
    first | done | with_reducible rfl
  case hk5 =>
  try simp only [Act.put, List.setIfInBounds_toArray, List.set_cons_zero, List.set_cons_succ]
  refine anyK_take 5 (oi := ?oo6) ?ho6 (by kernel_rfl) (by kernel_rfl) (by kernel_rfl) (by kernel_rfl) ?hq6 ?hw6 hT2 (fun _ => trivial) (v := ?vv6) ?hy6 ?hk6
  case ho6 => (simp only [List.getElem?_toArray, List.getElem?_cons_succ, List.getElem?_cons_zero]; rfl)
  case hq6 => exact fun _ _ _ h => h
  case hw6 => rfl
  case hy6 =>
    intro W hW
    go_simp
    first | done | with_reducible rfl
  case hk6 =>
  try simp only [Act.put, List.setIfInBounds_toArray, List.set_cons_zero, List.set_cons_succ]
  refine anyK_take 6 (oi := ?oo7) ?ho7 (by kernel_rfl) (by kernel_rfl) (by kernel_rfl) (by kernel_rfl) ?hq7 ?hw7 hT2 (fun _ => trivial) (v := ?vv7) ?hy7 ?hk7
  case ho7 => (simp only [List.getElem?_toArray, List.getElem?_cons_succ, List.getElem?_cons_zero]; rfl)
  case hq7 => exact fun _ _ _ h => h
  case hw7 => rfl
  case hy7 =>
    intro W hW
    go_simp
    first | done | with_reducible rfl
  case hk7 =>
  try simp only [Act.put, List.setIfInBounds_toArray, List.set_cons_zero, List.set_cons_succ]
  refine anyK_take 7 (oi := ?oo8) ?ho8 (by kernel_rfl) (by kernel_rfl) (by kernel_rfl) (by kernel_rfl) ?hq8 ?hw8 hT2 (fun _ => trivial) (v := ?vv8) ?hy8 ?hk8
  case ho8 => (simp only [List.getElem?_toArray, List.getElem?_cons_succ, List.getElem?_cons_zero]; rfl)
  case hq8 => exact fun _ _ _ h => h
  case hw8 => rfl
  case hy8 =>
    intro W hW
    go_simp
    first | done | with_reducible rfl
  case hk8 =>
  try simp only [Act.put, List.setIfInBounds_toArray, List.set_cons_zero, List.set_cons_succ]
  refine anyK_done (by kernel_rfl) ?_ _
  clear keepK hT0 hT1 hT2
  have X4 := Lib.hid (ext_trans X3.out yy)
  have K4 := Lib.hid (K3.out.ext yy)
  have HP4 := Lib.hid (HP3.out.ext yy)
  clear yy xx HR3 X3 K3 HP3
  go_wp2_with fail
  refine (three_any _).mono ?_
  rintro e w5 ⟨v5, rfl, hR5, x5⟩
  have X5 := Lib.hid (ext_trans X4.out x5)
  have K5 := Lib.hid (K4.out.ext x5)
  have HP5 := Lib.hid (HP4.out.ext x5)
  have HRD := Lib.hid (read_three v5 w5 hR5 (HLW.out _ X5.out))
  clear x5 hR5 X4 K4 HP4
  go_wp2_with fail
  refine HRD.out.mono ?_
  rintro e w6 ⟨u6, rfl, hP6, x6⟩
  have X6 := Lib.hid (ext_trans X5.out x6)
  have K6 := Lib.hid (K5.out.ext x6)
  have HP6 := Lib.hid (HP5.out.ext x6)
  have HQ6 := Lib.hid hP6
  obtain ⟨dA, dc, eA, ec, fA, fc, rfl, -⟩ := hP6
  clear x6 HRD X5 K5 HP5
  go_upto_region 4 with fail
  obtain ⟨x7, k7⟩ := blks1 w6 #[.slice dA (beginP threeR).cells.length dc, .slice eA (beginP threeR).hand0.length ec, .slice fA (beginP threeR).hand1.length fc, .int .i64 (beginP threeR).turn, .int .i64 (beginP threeR).quiet] 29
  generalize w6.alloc _ = w7 at *
  obtain ⟨B2, hB2⟩ : ∃ B2, B2 = w6.heap.size := ⟨_, rfl⟩
  rw [← hB2] at k7 ⊢
  have K7 := Lib.hid k7
  have X7 := Lib.hid (ext_trans X6.out x7)
  have KP7 := Lib.hid (K6.out.ext x7)
  have HP7 := Lib.hid (HP6.out.ext x7)
  have HQ7 := Lib.hid (HQ6.out.ext x7)
  clear k7 x7 hB2 X6 K6 HP6 HQ6
  obtain ⟨xe, ke⟩ := blks1 w7 #[.int .i64 0, .int .i64 0, .int .i64 0] 31
  have HF3 := Lib.hid (fine_ext (fine_any (some ⟨w7.heap.size, 0, none⟩) 3 3 [0, 0, 0] _ rfl (by omega) (blk_ints ke)))
  have XE := Lib.hid (ext_trans X7.out xe)
  have KP8 := Lib.hid (KP7.out.ext xe)
  have KQ8 := Lib.hid (K7.out.ext xe)
  have HP8 := Lib.hid (HP7.out.ext xe)
  have HQ8 := Lib.hid (HQ7.out.ext xe)
  rw [show allZero [0, 0, 0] = true from rfl] at HF3
  clear xe ke KP7 K7 HP7 HQ7 X7
  go_wp2_with fail
  refine HF3.out.mono ?_
  rintro e w9 ⟨rfl, x9⟩
  have X9 := Lib.hid (ext_trans XE.out x9)
  have KP9 := Lib.hid (KP8.out.ext x9)
  have HP9 := HP8.out.ext x9
  have HQ9 := HQ8.out.ext x9
  have hc1 := KP9.out.cell
  have hc2 := (KQ8.out.ext x9).cell
  have HSM := Lib.hid (same_yes (beginP threeR) _ _ w9 HP9 HQ9 (by decide) (by decide) (by decide))
  have hlen : (beginP threeR).cells.length = 9 := rfl
  have e4 : ((strU txtP).toList == [51, 47, 51, 47, 51, 32, 65, 53, 32, 65, 53, 32, 49, 32, 48]) = true := by rw [Lib.toList_data, strU_data]; decide
  clear x9 HF3 XE KP8 KQ8 HP8 HQ8 HP9 HQ9
  go_wp2_with fail
  refine HSM.out.mono ?_
  rintro e wa ⟨rfl, xa⟩
  have XA := Lib.hid (ext_trans X9.out xa)
  have hc3 := (KP9.out.ext xa).cell
  clear hc1 hc2 xa
  rw [hlen] at hc3
  go_wp2
  go_ret
  exact ⟨rfl, XA.out⟩
end Go.Proofs.YtdoibgmmijhlfaaDoor
