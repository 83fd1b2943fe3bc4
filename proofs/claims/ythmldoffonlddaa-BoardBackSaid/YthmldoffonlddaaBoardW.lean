/- Walks: (*board.Board).Result, Moves, Key, Turn, Undo. -/
import Derived.Test.YthmldoffonlddaaBoardP
namespace Go.Proofs.Ythmldoffonlddaa
open Go.ChangeShapes Go.WideShapes Go.ChangeAt Go.RowKit Go.Shelf
set_option linter.unusedVariables false
set_option linter.unusedSimpArgs false
set_option maxHeartbeats 4000000 in
set_option maxRecDepth 100000 in
theorem BResult_any {w0 wa : World} {BG : Nat} {R : RulesM} {ps : List PosM} (hG : BoardAt w0 wa BG R ps) (hl : ps.length ≤ 1000000) (hV : Valid R) (hS : ∀ Q ∈ ps, Sound R Q) {P : PosM} (hP : ps.getLast? = some P) :
    Calls Try.prog 30 #[.pointer (some ⟨BG, 0, none⟩)] wa fun e w' => e = .returned (.int .i64 (resultM R P)) ∧ Ext wa w' := by
  have HNW := hide (fun W' (x : Ext wa W') => bnow_any (hG.ext x) hl hP)
  have hSP := hS P (last_mem hP)
  obtain ⟨pA, pc, sA, sc, eA, ec, base, l, h1, h2, -, -, -⟩ := hG
  have HRS := hide (fun W' (v : Value) (x : Ext wa W') (h : PosI W' v P) => Result_any R P _ v W' (h2.ext x).at_ h.at_ hV hSP)
  have KG := hide h1
  clear hS hP hl h1 h2 hV hSP
  generalize resultM R P = z at *
  go_enter Try.func30, Try.ntmps30
  go_upto_region 1 with fail
  have keepK := hide (fun W (h : Ext wa W) => (show (fun W => W.cell? ⟨BG, 0, none⟩ = some (.string R.name) ∧ W.cell? ⟨BG, 1, none⟩ = some (.int .i64 R.width) ∧ W.cell? ⟨BG, 2, none⟩ = some (.int .i64 R.height) ∧ W.cell? ⟨BG, 3, none⟩ = some (.slice pA R.pieces.length pc) ∧ W.cell? ⟨BG, 4, none⟩ = some (.slice sA R.start.length sc) ∧ W.cell? ⟨BG, 5, none⟩ = some (.bool R.falls) ∧ W.cell? ⟨BG, 6, none⟩ = some (.bool R.keeps) ∧ W.cell? ⟨BG, 7, none⟩ = some (.slice eA R.ends.length ec) ∧ W.cell? ⟨BG, 8, none⟩ = some (.int .i64 R.blocked) ∧ W.cell? ⟨BG, 9, none⟩ = some (.int .i64 R.quiet) ∧ W.cell? ⟨BG, 10, none⟩ = some (.int .i64 R.rept) ∧ W.cell? ⟨BG, 11, none⟩ = some (l) ∧ Ext wa W) W from ⟨(KG.out.ext h).cell 0, (KG.out.ext h).cell 1, (KG.out.ext h).cell 2, (KG.out.ext h).cell 3, (KG.out.ext h).cell 4, (KG.out.ext h).cell 5, (KG.out.ext h).cell 6, (KG.out.ext h).cell 7, (KG.out.ext h).cell 8, (KG.out.ext h).cell 9, (KG.out.ext h).cell 10, (KG.out.ext h).cell 11, h⟩))
  have yy : Ext wa wa.drew := Below.drew (Below.refl _ _)
  refine region_K (fun W => W.cell? ⟨BG, 0, none⟩ = some (.string R.name) ∧ W.cell? ⟨BG, 1, none⟩ = some (.int .i64 R.width) ∧ W.cell? ⟨BG, 2, none⟩ = some (.int .i64 R.height) ∧ W.cell? ⟨BG, 3, none⟩ = some (.slice pA R.pieces.length pc) ∧ W.cell? ⟨BG, 4, none⟩ = some (.slice sA R.start.length sc) ∧ W.cell? ⟨BG, 5, none⟩ = some (.bool R.falls) ∧ W.cell? ⟨BG, 6, none⟩ = some (.bool R.keeps) ∧ W.cell? ⟨BG, 7, none⟩ = some (.slice eA R.ends.length ec) ∧ W.cell? ⟨BG, 8, none⟩ = some (.int .i64 R.blocked) ∧ W.cell? ⟨BG, 9, none⟩ = some (.int .i64 R.quiet) ∧ W.cell? ⟨BG, 10, none⟩ = some (.int .i64 R.rept) ∧ W.cell? ⟨BG, 11, none⟩ = some (l) ∧ Ext wa W) (fun _ => True) [] (by kernel_rfl) ?_
  have hT0 := keepK.out _ yy
  refine anyK_take 0 (oi := ?oo1) ?ho1 (by kernel_rfl) (by kernel_rfl) (by kernel_rfl) (by kernel_rfl) ?hq1 ?hw1 hT0 (fun _ => trivial) (v := ?vv1) ?hy1 ?hk1
  case ho1 => (simp only [List.getElem?_toArray, List.getElem?_cons_succ, List.getElem?_cons_zero]; rfl)
  case hq1 => exact fun _ _ _ h => h
  case hw1 => rfl
  case hy1 =>
    intro W hW
    go_simp
    first | done | with_reducible rfl
  case hk1 =>
  try simp only [Act.put, List.setIfInBounds_toArray, List.set_cons_zero, List.set_cons_succ]
  refine anyK_take 1 (oi := ?oo2) ?ho2 (by kernel_rfl) (by kernel_rfl) (by kernel_rfl) (by kernel_rfl) ?hq2 ?hw2 hT0 (fun _ => trivial) (v := ?vv2) ?hy2 ?hk2
  case ho2 => (simp only [List.getElem?_toArray, List.getElem?_cons_succ, List.getElem?_cons_zero]; rfl)
  case hq2 => exact fun _ _ _ h => h
  case hw2 => rfl
  case hy2 =>
    intro W hW
    go_simp
    first | done | with_reducible rfl
  case hk2 =>
  try simp only [Act.put, List.setIfInBounds_toArray, List.set_cons_zero, List.set_cons_succ]
  refine anyK_take 2 (oi := ?oo3) ?ho3 (by kernel_rfl) (by kernel_rfl) (by kernel_rfl) (by kernel_rfl) ?hq3 ?hw3 hT0 (fun _ => trivial) (v := ?vv3) ?hy3 ?hk3
  case ho3 => (simp only [List.getElem?_toArray, List.getElem?_cons_succ, List.getElem?_cons_zero]; rfl)
  case hq3 => exact fun _ _ _ h => h
  case hw3 => rfl
  case hy3 =>
    intro W hW
    go_simp
    first | done | with_reducible rfl
  case hk3 =>
  try simp only [Act.put, List.setIfInBounds_toArray, List.set_cons_zero, List.set_cons_succ]
  refine anyK_take 3 (oi := ?oo4) ?ho4 (by kernel_rfl) (by kernel_rfl) (by kernel_rfl) (by kernel_rfl) ?hq4 ?hw4 hT0 (fun _ => trivial) (v := ?vv4) ?hy4 ?hk4
  case ho4 => (simp only [List.getElem?_toArray, List.getElem?_cons_succ, List.getElem?_cons_zero]; rfl)
  case hq4 => exact fun _ _ _ h => h
  case hw4 => rfl
  case hy4 =>
    intro W hW
    obtain ⟨z0, z1, z2, z3, z4, z5, z6, z7, z8, z9, z10, z11, z12⟩ := hW
    go_simp
    first | done | with_reducible rfl
  case hk4 =>
  try simp only [Act.put, List.setIfInBounds_toArray, List.set_cons_zero, List.set_cons_succ]
  refine anyK_take 4 (oi := ?oo5) ?ho5 (by kernel_rfl) (by kernel_rfl) (by kernel_rfl) (by kernel_rfl) ?hq5 ?hw5 hT0 (fun _ => trivial) (v := ?vv5) ?hy5 ?hk5
  case ho5 => (simp only [List.getElem?_toArray, List.getElem?_cons_succ, List.getElem?_cons_zero]; rfl)
  case hq5 => exact fun _ _ _ h => h
  case hw5 => rfl
  case hy5 =>
    intro W hW
    go_simp
    first | done | with_reducible rfl
  case hk5 =>
  try simp only [Act.put, List.setIfInBounds_toArray, List.set_cons_zero, List.set_cons_succ]
  refine anyK_on1 5 (by kernel_rfl) ?_
  refine anyK_one 5 (o := ?oo6) ?ho6 ?hk6
  case ho6 => (simp only [List.getElem?_toArray, List.getElem?_cons_succ, List.getElem?_cons_zero]; rfl)
  case hk6 =>
  intro K hK
  go_simp
  refine (HNW.out _ yy).mono ?_
  rintro e wk ⟨v6, rfl, hp6, xx⟩
  try go_wp2_with fail
  replace yy := ext_trans yy xx
  have HP6 := hide hp6
  have HYK := hide yy
  clear hp6
  have hT1 := keepK.out _ yy
  refine hK.out _ _ hT1 (fun _ => trivial) ?_
  clear hK K
  try simp only [Act.put, List.setIfInBounds_toArray, List.set_cons_zero, List.set_cons_succ]
  refine anyK_on1 6 (by kernel_rfl) ?_
  refine anyK_one 6 (o := ?oo7) ?ho7 ?hk7
  case ho7 => (simp only [List.getElem?_toArray, List.getElem?_cons_succ, List.getElem?_cons_zero]; rfl)
  case hk7 =>
  intro K hK
  go_simp
  refine (HRS.out _ _ yy HP6.out).mono ?_
  rintro e wz ⟨rfl, xx⟩
  try go_wp2_with fail
  replace yy := ext_trans yy xx
  have hT2 := keepK.out _ yy
  refine hK.out _ _ hT2 (fun _ => trivial) ?_
  clear hK K
  try simp only [Act.put, List.setIfInBounds_toArray, List.set_cons_zero, List.set_cons_succ]
  refine anyK_take 7 (oi := ?oo8) ?ho8 (by kernel_rfl) (by kernel_rfl) (by kernel_rfl) (by kernel_rfl) ?hq8 ?hw8 hT2 (fun _ => trivial) (v := ?vv8) ?hy8 ?hk8
  case ho8 => (simp only [List.getElem?_toArray, List.getElem?_cons_succ, List.getElem?_cons_zero]; rfl)
  case hq8 => exact fun _ _ _ h => h
  case hw8 => rfl
  case hy8 =>
    intro W hW
    go_simp
    first | done | with_reducible rfl
  case hk8 =>
  try simp only [Act.put, List.setIfInBounds_toArray, List.set_cons_zero, List.set_cons_succ]
  refine anyK_done (by kernel_rfl) ?_ _
  clear keepK hT0 hT1 hT2
  go_wp2
  go_ret
  exact ⟨rfl, yy⟩

set_option maxHeartbeats 4000000 in
set_option maxRecDepth 100000 in
theorem BMoves_any {w0 wa : World} {BG : Nat} {R : RulesM} {ps : List PosM} (hG : BoardAt w0 wa BG R ps) (hl : ps.length ≤ 1000000) (hV : Valid R) (hS : ∀ Q ∈ ps, Sound R Q) {P : PosM} (hP : ps.getLast? = some P) :
    Calls Try.prog 17 #[.pointer (some ⟨BG, 0, none⟩)] wa (EMovesPost wa (movesM R P)) := by
  have HNW := hide (fun W' (x : Ext wa W') => bnow_any (hG.ext x) hl hP)
  have hSP := hS P (last_mem hP)
  obtain ⟨pA, pc, sA, sc, eA, ec, base, l, h1, h2, -, -, -⟩ := hG
  have HRS := hide (fun W' (v : Value) (x : Ext wa W') (h : PosI W' v P) => EMoves_any R P _ v W' (h2.ext x).at_ h.at_ hV hSP)
  have KG := hide h1
  clear hS hP hl h1 h2 hV hSP
  generalize movesM R P = L at *
  go_enter Try.func17, Try.ntmps17
  go_upto_region 1 with fail
  have keepK := hide (fun W (h : Ext wa W) => (show (fun W => W.cell? ⟨BG, 0, none⟩ = some (.string R.name) ∧ W.cell? ⟨BG, 1, none⟩ = some (.int .i64 R.width) ∧ W.cell? ⟨BG, 2, none⟩ = some (.int .i64 R.height) ∧ W.cell? ⟨BG, 3, none⟩ = some (.slice pA R.pieces.length pc) ∧ W.cell? ⟨BG, 4, none⟩ = some (.slice sA R.start.length sc) ∧ W.cell? ⟨BG, 5, none⟩ = some (.bool R.falls) ∧ W.cell? ⟨BG, 6, none⟩ = some (.bool R.keeps) ∧ W.cell? ⟨BG, 7, none⟩ = some (.slice eA R.ends.length ec) ∧ W.cell? ⟨BG, 8, none⟩ = some (.int .i64 R.blocked) ∧ W.cell? ⟨BG, 9, none⟩ = some (.int .i64 R.quiet) ∧ W.cell? ⟨BG, 10, none⟩ = some (.int .i64 R.rept) ∧ W.cell? ⟨BG, 11, none⟩ = some (l) ∧ Ext wa W) W from ⟨(KG.out.ext h).cell 0, (KG.out.ext h).cell 1, (KG.out.ext h).cell 2, (KG.out.ext h).cell 3, (KG.out.ext h).cell 4, (KG.out.ext h).cell 5, (KG.out.ext h).cell 6, (KG.out.ext h).cell 7, (KG.out.ext h).cell 8, (KG.out.ext h).cell 9, (KG.out.ext h).cell 10, (KG.out.ext h).cell 11, h⟩))
  have yy : Ext wa wa.drew := Below.drew (Below.refl _ _)
  refine region_K (fun W => W.cell? ⟨BG, 0, none⟩ = some (.string R.name) ∧ W.cell? ⟨BG, 1, none⟩ = some (.int .i64 R.width) ∧ W.cell? ⟨BG, 2, none⟩ = some (.int .i64 R.height) ∧ W.cell? ⟨BG, 3, none⟩ = some (.slice pA R.pieces.length pc) ∧ W.cell? ⟨BG, 4, none⟩ = some (.slice sA R.start.length sc) ∧ W.cell? ⟨BG, 5, none⟩ = some (.bool R.falls) ∧ W.cell? ⟨BG, 6, none⟩ = some (.bool R.keeps) ∧ W.cell? ⟨BG, 7, none⟩ = some (.slice eA R.ends.length ec) ∧ W.cell? ⟨BG, 8, none⟩ = some (.int .i64 R.blocked) ∧ W.cell? ⟨BG, 9, none⟩ = some (.int .i64 R.quiet) ∧ W.cell? ⟨BG, 10, none⟩ = some (.int .i64 R.rept) ∧ W.cell? ⟨BG, 11, none⟩ = some (l) ∧ Ext wa W) (fun _ => True) [] (by kernel_rfl) ?_
  have hT0 := keepK.out _ yy
  refine anyK_take 0 (oi := ?oo9) ?ho9 (by kernel_rfl) (by kernel_rfl) (by kernel_rfl) (by kernel_rfl) ?hq9 ?hw9 hT0 (fun _ => trivial) (v := ?vv9) ?hy9 ?hk9
  case ho9 => (simp only [List.getElem?_toArray, List.getElem?_cons_succ, List.getElem?_cons_zero]; rfl)
  case hq9 => exact fun _ _ _ h => h
  case hw9 => rfl
  case hy9 =>
    intro W hW
    go_simp
    first | done | with_reducible rfl
  case hk9 =>
  try simp only [Act.put, List.setIfInBounds_toArray, List.set_cons_zero, List.set_cons_succ]
  refine anyK_take 1 (oi := ?oo10) ?ho10 (by kernel_rfl) (by kernel_rfl) (by kernel_rfl) (by kernel_rfl) ?hq10 ?hw10 hT0 (fun _ => trivial) (v := ?vv10) ?hy10 ?hk10
  case ho10 => (simp only [List.getElem?_toArray, List.getElem?_cons_succ, List.getElem?_cons_zero]; rfl)
  case hq10 => exact fun _ _ _ h => h
  case hw10 => rfl
  case hy10 =>
    intro W hW
    go_simp
    first | done | with_reducible rfl
  case hk10 =>
  try simp only [Act.put, List.setIfInBounds_toArray, List.set_cons_zero, List.set_cons_succ]
  refine anyK_take 2 (oi := ?oo11) ?ho11 (by kernel_rfl) (by kernel_rfl) (by kernel_rfl) (by kernel_rfl) ?hq11 ?hw11 hT0 (fun _ => trivial) (v := ?vv11) ?hy11 ?hk11
  case ho11 => (simp only [List.getElem?_toArray, List.getElem?_cons_succ, List.getElem?_cons_zero]; rfl)
  case hq11 => exact fun _ _ _ h => h
  case hw11 => rfl
  case hy11 =>
    intro W hW
    go_simp
    first | done | with_reducible rfl
  case hk11 =>
  try simp only [Act.put, List.setIfInBounds_toArray, List.set_cons_zero, List.set_cons_succ]
  refine anyK_take 3 (oi := ?oo12) ?ho12 (by kernel_rfl) (by kernel_rfl) (by kernel_rfl) (by kernel_rfl) ?hq12 ?hw12 hT0 (fun _ => trivial) (v := ?vv12) ?hy12 ?hk12
  case ho12 => (simp only [List.getElem?_toArray, List.getElem?_cons_succ, List.getElem?_cons_zero]; rfl)
  case hq12 => exact fun _ _ _ h => h
  case hw12 => rfl
  case hy12 =>
    intro W hW
    obtain ⟨z0, z1, z2, z3, z4, z5, z6, z7, z8, z9, z10, z11, z12⟩ := hW
    go_simp
    first | done | with_reducible rfl
  case hk12 =>
  try simp only [Act.put, List.setIfInBounds_toArray, List.set_cons_zero, List.set_cons_succ]
  refine anyK_take 4 (oi := ?oo13) ?ho13 (by kernel_rfl) (by kernel_rfl) (by kernel_rfl) (by kernel_rfl) ?hq13 ?hw13 hT0 (fun _ => trivial) (v := ?vv13) ?hy13 ?hk13
  case ho13 => (simp only [List.getElem?_toArray, List.getElem?_cons_succ, List.getElem?_cons_zero]; rfl)
  case hq13 => exact fun _ _ _ h => h
  case hw13 => rfl
  case hy13 =>
    intro W hW
    go_simp
    first | done | with_reducible rfl
  case hk13 =>
  try simp only [Act.put, List.setIfInBounds_toArray, List.set_cons_zero, List.set_cons_succ]
  refine anyK_on1 5 (by kernel_rfl) ?_
  refine anyK_one 5 (o := ?oo14) ?ho14 ?hk14
  case ho14 => (simp only [List.getElem?_toArray, List.getElem?_cons_succ, List.getElem?_cons_zero]; rfl)
  case hk14 =>
  intro K hK
  go_simp
  refine (HNW.out _ yy).mono ?_
  rintro e wk ⟨v6, rfl, hp6, xx⟩
  try go_wp2_with fail
  replace yy := ext_trans yy xx
  have HP6 := hide hp6
  have HYK := hide yy
  clear hp6
  have hT1 := keepK.out _ yy
  refine hK.out _ _ hT1 (fun _ => trivial) ?_
  clear hK K
  try simp only [Act.put, List.setIfInBounds_toArray, List.set_cons_zero, List.set_cons_succ]
  refine anyK_on1 6 (by kernel_rfl) ?_
  refine anyK_one 6 (o := ?oo15) ?ho15 ?hk15
  case ho15 => (simp only [List.getElem?_toArray, List.getElem?_cons_succ, List.getElem?_cons_zero]; rfl)
  case hk15 =>
  intro K hK
  go_simp
  refine (HRS.out _ _ yy HP6.out).mono ?_
  rintro e wz ⟨vz, rfl, hz, xx⟩
  try go_wp2_with fail
  replace yy := ext_trans yy xx
  have HO := hide (hz.base HYK.out)
  clear hz
  have hT2 := keepK.out _ yy
  refine hK.out _ _ hT2 (fun _ => trivial) ?_
  clear hK K
  try simp only [Act.put, List.setIfInBounds_toArray, List.set_cons_zero, List.set_cons_succ]
  refine anyK_take 7 (oi := ?oo16) ?ho16 (by kernel_rfl) (by kernel_rfl) (by kernel_rfl) (by kernel_rfl) ?hq16 ?hw16 hT2 (fun _ => trivial) (v := ?vv16) ?hy16 ?hk16
  case ho16 => (simp only [List.getElem?_toArray, List.getElem?_cons_succ, List.getElem?_cons_zero]; rfl)
  case hq16 => exact fun _ _ _ h => h
  case hw16 => rfl
  case hy16 =>
    intro W hW
    go_simp
    first | done | with_reducible rfl
  case hk16 =>
  try simp only [Act.put, List.setIfInBounds_toArray, List.set_cons_zero, List.set_cons_succ]
  refine anyK_done (by kernel_rfl) ?_ _
  clear keepK hT0 hT1 hT2
  go_wp2
  go_ret
  exact ⟨_, rfl, HO.out, yy⟩

set_option maxHeartbeats 2000000 in
set_option maxRecDepth 100000 in
theorem BKey_any {w0 wa : World} {BG : Nat} {R : RulesM} {ps : List PosM} (hG : BoardAt w0 wa BG R ps) (hl : ps.length ≤ 1000000) (hV : Valid R) (hS : ∀ Q ∈ ps, Sound R Q) {P : PosM} (hP : ps.getLast? = some P) :
    Calls Try.prog 16 #[.pointer (some ⟨BG, 0, none⟩)] wa fun e w' => e = .returned (.int .u64 (keyM P)) ∧ Ext wa w' := by
  have HNW := hide (bnow_any hG hl hP)
  have HOF := hide (fun (v : Value) W (h : PosAt W v P) => Of_any R P v W h hV (hS P (last_mem hP)))
  clear hG hl hV hS hP
  go_enter Try.func16, Try.ntmps16
  go_wp2_with fail
  refine HNW.out.mono ?_
  rintro e w2 ⟨v2, rfl, p2, x2⟩
  have P2 := hide p2.at_
  have X2 := hide x2
  clear p2 x2 HNW
  go_wp2_with fail
  refine (HOF.out _ _ P2.out).mono ?_
  rintro e w3 ⟨rfl, x3⟩
  have X3 := hide (ext_trans X2.out x3)
  clear x3 X2 P2
  go_wp2
  go_ret
  exact ⟨rfl, X3.out⟩
set_option maxHeartbeats 2000000 in
set_option maxRecDepth 100000 in
theorem BTurn_any {w0 wa : World} {BG : Nat} {R : RulesM} {ps : List PosM} (hG : BoardAt w0 wa BG R ps) (hl : ps.length ≤ 1000000) {P : PosM} (hP : ps.getLast? = some P) :
    Calls Try.prog 56 #[.pointer (some ⟨BG, 0, none⟩)] wa fun e w' => e = .returned (.int .i64 P.turn) ∧ Ext wa w' := by
  have HNW := hide (bnow_any hG hl hP)
  clear hG hl hP
  go_enter Try.func56, Try.ntmps56
  go_wp2_with fail
  refine HNW.out.mono ?_
  rintro e w2 ⟨v2, rfl, p2, x2⟩
  obtain ⟨g0, d0, g1, d1, g2, d2, rfl, -⟩ := p2
  have X2 := hide x2
  have hfl : ∀ W, (Instr.field 29 (.agg #[.slice (some ⟨g0, 0, none⟩) P.cells.length d0, .slice (some ⟨g1, 0, none⟩) P.hand0.length d1, .slice (some ⟨g2, 0, none⟩) P.hand1.length d2, .int .i64 P.turn, .int .i64 P.quiet]) 2).run Try.prog W = .ok (.int .i64 P.turn) W := fun _ => by kernel_rfl
  clear x2 HNW
  go_wp2
  go_ret
  exact ⟨rfl, X2.out⟩
set_option maxHeartbeats 2000000 in
set_option maxRecDepth 100000 in
theorem BUndo_no {w0 wa : World} {BG : Nat} {R : RulesM} {P : PosM} (hG : BoardAt w0 wa BG R [P]) :
    Calls Try.prog 21 #[.pointer (some ⟨BG, 0, none⟩)] wa fun e w' => e = .returned (.int .i64 8) ∧ Ext wa w' := by
  have HLN := hide (BLen_any hG (by simp) (by simp))
  rw [show ((([P] : List PosM).length : Nat) : Int) - 1 = 0 from by simp] at HLN
  clear hG
  go_enter Try.func21, Try.ntmps21
  go_wp2_with fail
  refine HLN.out.mono ?_
  rintro e w2 ⟨rfl, x2⟩
  have X2 := hide x2
  clear x2 HLN
  go_wp2
  go_ret
  exact ⟨rfl, X2.out⟩
set_option maxHeartbeats 4000000 in
set_option maxRecDepth 100000 in
theorem BUndo_yes {w0 wa : World} {BG : Nat} {R : RulesM} {ps : List PosM} {P : PosM} (hG : BoardAt w0 wa BG R (ps ++ [P])) (hn : 1 ≤ ps.length) (hl : ps.length ≤ 100000) :
    Calls Try.prog 21 #[.pointer (some ⟨BG, 0, none⟩)] wa (fun e w' => e = .returned (.int .i64 0) ∧ BoardAt w0 w' BG R ps) := by
  have HLN := hide (BLen_any hG (by simp; omega) (by simp))
  obtain ⟨pA, pc, sA, sc, eA, ec, base, l, h1, h2, h3, h5, h6⟩ := hG
  obtain ⟨gl, lc, rfl, hlc⟩ := h3.form
  have HP := hide h3.pop
  have H2 := hide h2
  have H56 := hide (And.intro h5 h6)
  have KG := hide h1
  have e1 : (((ps ++ [P]).length : Nat) : Int) - 1 = (ps.length : Int) := by simp
  rw [e1] at HLN
  have hwl : IntKind.i64.wrap (((ps.length + 1 : Nat) : Int) - 1) = (ps.length : Int) := by rw [IntKind.wrap_i64]; omega
  have hwl2 : IntKind.i64.wrap ((ps.length : Int) + 1 - 1) = (ps.length : Int) := by rw [IntKind.wrap_i64]; omega
  have hwl3 : IntKind.i64.wrap (ps.length : Int) = (ps.length : Int) := by rw [IntKind.wrap_i64]; omega
  have i0 : (0 : Int) ≤ (ps.length : Int) := by omega
  have i1 : (ps.length : Int) ≤ (lc : Int) := by omega
  have i4 : ps.length ≤ lc := by omega
  have tz2 : ((ps.length : Int) == 0) = false := by simp; rintro rfl; simp at hn
  clear h1 h2 h3 h5 h6 hlc e1
  go_enter Try.func21, Try.ntmps21
  go_wp2_with fail
  refine HLN.out.mono ?_
  rintro e w2 ⟨rfl, x2⟩
  have KG2 := hide (KG.out.ext x2)
  have HP2 := hide (HP.out.ext x2)
  have H22 := hide (H2.out.ext x2)
  have X2 := hide (ext_trans H56.out.2 x2)
  clear x2 HLN KG HP H2
  have f := KG2.out.cell
  have z := KG2.out.frozen
  go_upto_region 3 with fail
  go_still_tail 14, (by kernel_rfl)
  go_wp2
  have k9 := blk_put (i := 11) (u := .slice (some ⟨gl, 0, none⟩) ps.length lc) KG2.out (cs' := #[.string R.name, .int .i64 R.width, .int .i64 R.height, .slice pA R.pieces.length pc, .slice sA R.start.length sc, .bool R.falls, .bool R.keeps, .slice eA R.ends.length ec, .int .i64 R.blocked, .int .i64 R.quiet, .int .i64 R.rept, .slice (some ⟨gl, 0, none⟩) ps.length lc]) rfl
  have TF : TFr [100] w2 (w2.setCell ⟨BG, 11, none⟩ (.slice (some ⟨gl, 0, none⟩) ps.length lc)) := TFr.set KG2.out (List.mem_singleton.2 rfl) 11 _
  have X9 := ext_set X2.out (p := ⟨BG, 11, none⟩) H56.out.1 (.slice (some ⟨gl, 0, none⟩) ps.length lc)
  go_ret
  exact ⟨rfl, pA, pc, sA, sc, eA, ec, base, _, k9, H22.out.tfr ⟨by decide, by decide, by decide, by decide⟩ TF, HP2.out.tfr (by decide) (by decide) TF, H56.out.1, Below.drew X9⟩

end Go.Proofs.Ythmldoffonlddaa
