/- Walk: scored. -/
import Derived.Test.YtmofipijjokjfaaGMini
import Derived.Test.YtmofipijjokjfaaGPlays
namespace Go.Proofs.Ytmofipijjokjfaa
open Go.ChangeShapes Go.WideShapes Go.ChangeAt Go.RowKit Go.Shelf
set_option linter.unusedVariables false
set_option linter.unusedSimpArgs false
theorem near_score : scoreM threeR nearP 1 = 999 ∧ perftE threeR nearP 1 = 0 ∧ bestY threeR nearP 2 = (⟨-1, 2, 0⟩, 999) ∧ bestE threeR nearP 2 = 0 := by decide +kernel
theorem fine_ok2 {w : World} {g : Nat} (h : Blk w g 32 #[.int .i64 0, .int .i64 0]) : Calls Try.prog 24 #[.slice (some ⟨g, 0, none⟩) 2 2] w fun e w' => e = .returned (.bool true) ∧ Ext w w' :=
  fine_ext (fine_any (some ⟨g, 0, none⟩) 2 2 [0, 0] w rfl (by omega) (blk_ints h))
theorem fine_ok3 {w : World} {g : Nat} (h : Blk w g 32 #[.int .i64 0, .int .i64 0, .int .i64 0]) : Calls Try.prog 24 #[.slice (some ⟨g, 0, none⟩) 3 3] w fun e w' => e = .returned (.bool true) ∧ Ext w w' :=
  fine_ext (fine_any (some ⟨g, 0, none⟩) 3 3 [0, 0, 0] w rfl (by omega) (blk_ints h))
set_option maxHeartbeats 4000000 in
set_option maxRecDepth 100000 in
theorem scored_any (w : World) : Calls Try.prog 28 #[] w fun e w' => e = .returned (.bool true) ∧ Ext w w' := by
  have HA := hide (fun W (v1 v2 : Value) (h1 : RulesAt W v1 threeR) (h2 : PosAt W v2 nearP) => MScore_any threeR nearP v1 v2 1 W h1 h2)
  rw [near_score.1, near_score.2.1] at HA
  have HB := hide (fun W (v1 v2 : Value) (h1 : RulesAt W v1 threeR) (h2 : PosAt W v2 nearP) => MBest_any threeR nearP v1 v2 2 W h1 h2)
  rw [near_score.2.2.1, near_score.2.2.2] at HB
  go_enter Try.func28, Try.ntmps28
  go_wp2_with fail
  refine (three_any _).mono ?_
  rintro e w2 ⟨v1, rfl, h1, x⟩
  have X := x
  clear x
  go_wp2_with fail
  refine (near_any _).mono ?_
  rintro e w3 ⟨v2, rfl, h2, x⟩
  replace h1 := h1.ext x
  replace X := ext_trans X x
  clear x
  replace h2 := h2.at_
  go_wp2_with fail
  refine (HA.out _ _ _ h1 h2).mono ?_
  rintro e w4 ⟨rfl, x⟩
  replace h1 := h1.ext x
  replace h2 := h2.ext x
  replace X := ext_trans X x
  clear x
  clear h1 h2
  go_wp2_with fail
  refine (three_any _).mono ?_
  rintro e w5 ⟨v3, rfl, h3, x⟩
  replace X := ext_trans X x
  clear x
  go_wp2_with fail
  refine (near_any _).mono ?_
  rintro e w6 ⟨v4, rfl, h4, x⟩
  replace h3 := h3.ext x
  replace X := ext_trans X x
  clear x
  replace h4 := h4.at_
  go_wp2_with fail
  refine (HB.out _ _ _ h3 h4).mono ?_
  rintro e w7 ⟨rfl, x⟩
  replace h3 := h3.ext x
  replace h4 := h4.ext x
  replace X := ext_trans X x
  clear x
  clear h3 h4
  obtain ⟨xa, kM⟩ := blks1 w7 #[.int .i64 (-1), .int .i64 2, .int .i64 0] 39
  replace X := ext_trans X xa
  clear xa
  go_upto_region 3 with fail
  generalize (w7.alloc (.cells #[.int .i64 (-1), .int .i64 2, .int .i64 0] 39)) = w8 at *
  generalize w7.heap.size = BM at *
  have KM := hide kM
  have XB := hide X
  clear kM X HA HB
  have keepK := hide (fun W (h : Ext w8 W) => (show (fun W => W.cell? ⟨BM, 0, none⟩ = some (.int .i64 (-1)) ∧ W.cell? ⟨BM, 1, none⟩ = some (.int .i64 2) ∧ W.cell? ⟨BM, 2, none⟩ = some (.int .i64 0) ∧ Ext w8 W) W from ⟨(KM.out.ext h).cell 0, (KM.out.ext h).cell 1, (KM.out.ext h).cell 2, h⟩))
  have yy : Ext w8 w8.drew := Below.drew (Below.refl _ _)
  refine region_K (fun W => W.cell? ⟨BM, 0, none⟩ = some (.int .i64 (-1)) ∧ W.cell? ⟨BM, 1, none⟩ = some (.int .i64 2) ∧ W.cell? ⟨BM, 2, none⟩ = some (.int .i64 0) ∧ Ext w8 W) (fun _ => True) [] (by kernel_rfl) ?_
  have hT0 := keepK.out _ yy
  refine anyK_take 0 (oi := ?oo217) ?ho217 (by kernel_rfl) (by kernel_rfl) (by kernel_rfl) (by kernel_rfl) ?hq217 ?hw217 hT0 (fun _ => trivial) (v := ?vv217) ?hy217 ?hk217
  case ho217 => (simp only [List.getElem?_toArray, List.getElem?_cons_succ, List.getElem?_cons_zero]; rfl)
  case hq217 => exact fun _ _ _ h => h
  case hw217 => rfl
  case hy217 =>
    intro W hW
    go_simp
    first | done | with_reducible rfl
  case hk217 =>
  try simp only [Act.put, List.setIfInBounds_toArray, List.set_cons_zero, List.set_cons_succ]
  refine anyK_take 1 (oi := ?oo218) ?ho218 (by kernel_rfl) (by kernel_rfl) (by kernel_rfl) (by kernel_rfl) ?hq218 ?hw218 hT0 (fun _ => trivial) (v := ?vv218) ?hy218 ?hk218
  case ho218 => (simp only [List.getElem?_toArray, List.getElem?_cons_succ, List.getElem?_cons_zero]; rfl)
  case hq218 => exact fun _ _ _ h => h
  case hw218 => rfl
  case hy218 =>
    intro W hW
    go_simp
    first | done | with_reducible rfl
  case hk218 =>
  try simp only [Act.put, List.setIfInBounds_toArray, List.set_cons_zero, List.set_cons_succ]
  refine anyK_on1 2 (by kernel_rfl) ?_
  refine anyK_one 2 (o := ?oo219) ?ho219 ?hk219
  case ho219 => (simp only [List.getElem?_toArray, List.getElem?_cons_succ, List.getElem?_cons_zero]; rfl)
  case hk219 =>
  intro K hK
  go_simp
  have HKE := hide (Blk.new w8.drew 32 #[.int .i64 0, .int .i64 0])
  replace yy := ext_alloc yy (.cells #[.int .i64 0, .int .i64 0] 32)
  have hT1 := keepK.out _ yy
  refine hK.out _ _ hT1 (fun _ => trivial) ?_
  clear hK K
  try simp only [Act.put, List.setIfInBounds_toArray, List.set_cons_zero, List.set_cons_succ]
  refine anyK_on1 3 (by kernel_rfl) ?_
  refine anyK_one 3 (o := ?oo220) ?ho220 ?hk220
  case ho220 => (simp only [List.getElem?_toArray, List.getElem?_cons_succ, List.getElem?_cons_zero]; rfl)
  case hk220 =>
  intro K hK
  go_simp
  refine (fine_ok2 HKE.out).mono ?_
  rintro e we ⟨rfl, xx⟩
  try go_wp2_with fail
  replace yy := ext_trans yy xx
  have hT2 := keepK.out _ yy
  refine hK.out _ _ hT2 (fun _ => trivial) ?_
  clear hK K
  try simp only [Act.put, List.setIfInBounds_toArray, List.set_cons_zero, List.set_cons_succ]
  refine anyK_take 4 (oi := ?oo221) ?ho221 (by kernel_rfl) (by kernel_rfl) (by kernel_rfl) (by kernel_rfl) ?hq221 ?hw221 hT2 (fun _ => trivial) (v := ?vv221) ?hy221 ?hk221
  case ho221 => (simp only [List.getElem?_toArray, List.getElem?_cons_succ, List.getElem?_cons_zero]; rfl)
  case hq221 => exact fun _ _ _ h => h
  case hw221 => rfl
  case hy221 =>
    intro W hW
    go_simp
    first | done | with_reducible rfl
  case hk221 =>
  try simp only [Act.put, List.setIfInBounds_toArray, List.set_cons_zero, List.set_cons_succ]
  refine anyK_take 5 (oi := ?oo222) ?ho222 (by kernel_rfl) (by kernel_rfl) (by kernel_rfl) (by kernel_rfl) ?hq222 ?hw222 hT2 (fun _ => trivial) (v := ?vv222) ?hy222 ?hk222
  case ho222 => (simp only [List.getElem?_toArray, List.getElem?_cons_succ, List.getElem?_cons_zero]; rfl)
  case hq222 => exact fun _ _ _ h => h
  case hw222 => rfl
  case hy222 =>
    intro W hW
    go_simp
    first | done | with_reducible rfl
  case hk222 =>
  try simp only [Act.put, List.setIfInBounds_toArray, List.set_cons_zero, List.set_cons_succ]
  refine anyK_take 6 (oi := ?oo223) ?ho223 (by kernel_rfl) (by kernel_rfl) (by kernel_rfl) (by kernel_rfl) ?hq223 ?hw223 hT2 (fun _ => trivial) (v := ?vv223) ?hy223 ?hk223
  case ho223 => (simp only [List.getElem?_toArray, List.getElem?_cons_succ, List.getElem?_cons_zero]; rfl)
  case hq223 => exact fun _ _ _ h => h
  case hw223 => rfl
  case hy223 =>
    intro W hW
    go_simp
    first | done | with_reducible rfl
  case hk223 =>
  try simp only [Act.put, List.setIfInBounds_toArray, List.set_cons_zero, List.set_cons_succ]
  refine anyK_take 7 (oi := ?oo224) ?ho224 (by kernel_rfl) (by kernel_rfl) (by kernel_rfl) (by kernel_rfl) ?hq224 ?hw224 hT2 (fun _ => trivial) (v := ?vv224) ?hy224 ?hk224
  case ho224 => (simp only [List.getElem?_toArray, List.getElem?_cons_succ, List.getElem?_cons_zero]; rfl)
  case hq224 => exact fun _ _ _ h => h
  case hw224 => rfl
  case hy224 =>
    intro W hW
    go_simp
    first | done | with_reducible rfl
  case hk224 =>
  try simp only [Act.put, List.setIfInBounds_toArray, List.set_cons_zero, List.set_cons_succ]
  refine anyK_take 8 (oi := ?oo225) ?ho225 (by kernel_rfl) (by kernel_rfl) (by kernel_rfl) (by kernel_rfl) ?hq225 ?hw225 hT2 (fun _ => trivial) (v := ?vv225) ?hy225 ?hk225
  case ho225 => (simp only [List.getElem?_toArray, List.getElem?_cons_succ, List.getElem?_cons_zero]; rfl)
  case hq225 => exact fun _ _ _ h => h
  case hw225 => rfl
  case hy225 =>
    intro W hW
    go_simp
    first | done | with_reducible rfl
  case hk225 =>
  try simp only [Act.put, List.setIfInBounds_toArray, List.set_cons_zero, List.set_cons_succ]
  refine anyK_take 9 (oi := ?oo226) ?ho226 (by kernel_rfl) (by kernel_rfl) (by kernel_rfl) (by kernel_rfl) ?hq226 ?hw226 hT2 (fun _ => trivial) (v := ?vv226) ?hy226 ?hk226
  case ho226 => (simp only [List.getElem?_toArray, List.getElem?_cons_succ, List.getElem?_cons_zero]; rfl)
  case hq226 => exact fun _ _ _ h => h
  case hw226 => rfl
  case hy226 =>
    intro W hW
    obtain ⟨z0, z1, z2, z3⟩ := hW
    go_simp
    first | done | with_reducible rfl
  case hk226 =>
  try simp only [Act.put, List.setIfInBounds_toArray, List.set_cons_zero, List.set_cons_succ]
  refine anyK_on1 10 (by kernel_rfl) ?_
  refine anyK_one 10 (o := ?oo227) ?ho227 ?hk227
  case ho227 => (simp only [List.getElem?_toArray, List.getElem?_cons_succ, List.getElem?_cons_zero]; rfl)
  case hk227 =>
  intro K hK
  go_simp
  refine (put_any 2 _).mono ?_
  rintro e wp ⟨rfl, xx⟩
  try go_wp2_with fail
  replace yy := ext_trans yy xx
  have hT3 := keepK.out _ yy
  refine hK.out _ _ hT3 (fun _ => trivial) ?_
  clear hK K
  try simp only [Act.put, List.setIfInBounds_toArray, List.set_cons_zero, List.set_cons_succ]
  refine anyK_take 11 (oi := ?oo228) ?ho228 (by kernel_rfl) (by kernel_rfl) (by kernel_rfl) (by kernel_rfl) ?hq228 ?hw228 hT3 (fun _ => trivial) (v := ?vv228) ?hy228 ?hk228
  case ho228 => (simp only [List.getElem?_toArray, List.getElem?_cons_succ, List.getElem?_cons_zero]; rfl)
  case hq228 => exact fun _ _ _ h => h
  case hw228 => rfl
  case hy228 =>
    intro W hW
    go_simp
    first | done | with_reducible rfl
  case hk228 =>
  try simp only [Act.put, List.setIfInBounds_toArray, List.set_cons_zero, List.set_cons_succ]
  refine anyK_take 12 (oi := ?oo229) ?ho229 (by kernel_rfl) (by kernel_rfl) (by kernel_rfl) (by kernel_rfl) ?hq229 ?hw229 hT3 (fun _ => trivial) (v := ?vv229) ?hy229 ?hk229
  case ho229 => (simp only [List.getElem?_toArray, List.getElem?_cons_succ, List.getElem?_cons_zero]; rfl)
  case hq229 => exact fun _ _ _ h => h
  case hw229 => rfl
  case hy229 =>
    intro W hW
    go_simp
    first | done | with_reducible rfl
  case hk229 =>
  try simp only [Act.put, List.setIfInBounds_toArray, List.set_cons_zero, List.set_cons_succ]
  refine anyK_take 13 (oi := ?oo230) ?ho230 (by kernel_rfl) (by kernel_rfl) (by kernel_rfl) (by kernel_rfl) ?hq230 ?hw230 hT3 (fun _ => trivial) (v := ?vv230) ?hy230 ?hk230
  case ho230 => (simp only [List.getElem?_toArray, List.getElem?_cons_succ, List.getElem?_cons_zero]; rfl)
  case hq230 => exact fun _ _ _ h => h
  case hw230 => rfl
  case hy230 =>
    intro W hW
    go_simp
    first | done | with_reducible rfl
  case hk230 =>
  try simp only [Act.put, List.setIfInBounds_toArray, List.set_cons_zero, List.set_cons_succ]
  refine anyK_take 14 (oi := ?oo231) ?ho231 (by kernel_rfl) (by kernel_rfl) (by kernel_rfl) (by kernel_rfl) ?hq231 ?hw231 hT3 (fun _ => trivial) (v := ?vv231) ?hy231 ?hk231
  case ho231 => (simp only [List.getElem?_toArray, List.getElem?_cons_succ, List.getElem?_cons_zero]; rfl)
  case hq231 => exact fun _ _ _ h => h
  case hw231 => rfl
  case hy231 =>
    intro W hW
    go_simp
    first | done | with_reducible rfl
  case hk231 =>
  try simp only [Act.put, List.setIfInBounds_toArray, List.set_cons_zero, List.set_cons_succ]
  refine anyK_take 15 (oi := ?oo232) ?ho232 (by kernel_rfl) (by kernel_rfl) (by kernel_rfl) (by kernel_rfl) ?hq232 ?hw232 hT3 (fun _ => trivial) (v := ?vv232) ?hy232 ?hk232
  case ho232 => (simp only [List.getElem?_toArray, List.getElem?_cons_succ, List.getElem?_cons_zero]; rfl)
  case hq232 => exact fun _ _ _ h => h
  case hw232 => rfl
  case hy232 =>
    intro W hW
    go_simp
    first | done | with_reducible rfl
  case hk232 =>
  try simp only [Act.put, List.setIfInBounds_toArray, List.set_cons_zero, List.set_cons_succ]
  refine anyK_take 16 (oi := ?oo233) ?ho233 (by kernel_rfl) (by kernel_rfl) (by kernel_rfl) (by kernel_rfl) ?hq233 ?hw233 hT3 (fun _ => trivial) (v := ?vv233) ?hy233 ?hk233
  case ho233 => (simp only [List.getElem?_toArray, List.getElem?_cons_succ, List.getElem?_cons_zero]; rfl)
  case hq233 => exact fun _ _ _ h => h
  case hw233 => rfl
  case hy233 =>
    intro W hW
    go_simp
    first | done | with_reducible rfl
  case hk233 =>
  try simp only [Act.put, List.setIfInBounds_toArray, List.set_cons_zero, List.set_cons_succ]
  refine anyK_take 17 (oi := ?oo234) ?ho234 (by kernel_rfl) (by kernel_rfl) (by kernel_rfl) (by kernel_rfl) ?hq234 ?hw234 hT3 (fun _ => trivial) (v := ?vv234) ?hy234 ?hk234
  case ho234 => (simp only [List.getElem?_toArray, List.getElem?_cons_succ, List.getElem?_cons_zero]; rfl)
  case hq234 => exact fun _ _ _ h => h
  case hw234 => rfl
  case hy234 =>
    intro W hW
    go_simp
    first | done | with_reducible rfl
  case hk234 =>
  try simp only [Act.put, List.setIfInBounds_toArray, List.set_cons_zero, List.set_cons_succ]
  refine anyK_done (by kernel_rfl) ?_ _
  clear keepK hT0 hT1 hT2 hT3
  go_wp2
  go_ret
  exact ⟨rfl, ext_trans XB.out yy⟩
end Go.Proofs.Ytmofipijjokjfaa
