/- Walk: the law PerftParts. -/
import Derived.Test.YtcfiannlpkofpaaGPerft
namespace Go.Proofs.Ytcfiannlpkofpaa
open Go.ChangeShapes Go.WideShapes Go.ChangeAt Go.RowKit Go.Shelf
set_option linter.unusedVariables false
set_option linter.unusedSimpArgs false
theorem parts_get {w : World} {A : Option Addr} {L : List PartM} (h : CellsAt w A (L.flatMap partV)) {k : Nat} {x : PartM} (hk : L[k]? = some x) :
    ∃ b o, A = some ⟨b, o, none⟩ ∧ w.cell? ⟨b, o + k * 4, none⟩ = some (.int .i64 x.1.src) ∧ w.cell? ⟨b, o + k * 4 + 1, none⟩ = some (.int .i64 x.1.dst) ∧ w.cell? ⟨b, o + k * 4 + 2, none⟩ = some (.int .i64 x.1.piece) ∧ w.cell? ⟨b, o + k * 4 + 3, none⟩ = some (.int .i64 x.2) := by
  have g := fun j hj => flat_get partV 4 (fun _ => rfl) L k j x hk hj
  obtain ⟨b, o, rfl, c0⟩ := h (k * 4 + 0) _ (g 0 (by omega))
  have c : ∀ j v, (L.flatMap partV)[k * 4 + j]? = some v → w.cell? ⟨b, o + k * 4 + j, none⟩ = some v := fun j v hj => by
    obtain ⟨b', o', e, c⟩ := h (k * 4 + j) v hj
    simp only [Option.some.injEq, Addr.mk.injEq, and_true] at e
    obtain ⟨rfl, rfl⟩ := e
    rw [Nat.add_assoc]; exact c
  exact ⟨b, o, rfl, c 0 _ (g 0 (by omega)), c 1 _ (g 1 (by omega)), c 2 _ (g 2 (by omega)), c 3 _ (g 3 (by omega))⟩
theorem div_near {w0 w : World} {v : Value} (h : OwnT w0 w v (divM threeR nearP 1)) : ∃ g c, v = .slice (some ⟨g, 0, none⟩) 5 c ∧ w.cell? ⟨g, 0, none⟩ = some (.int .i64 (-1)) ∧ w.cell? ⟨g, 1, none⟩ = some (.int .i64 2) ∧ w.cell? ⟨g, 2, none⟩ = some (.int .i64 0) := by
  obtain ⟨A, c, rfl, h⟩ := h
  have hl := near_div.2.1
  have hc := (own_cells h).1
  obtain ⟨g, cap, e, -, -⟩ := World.ownsRow.form h (by omega)
  simp only [Value.slice.injEq] at e
  obtain ⟨rfl, -, -⟩ := e
  obtain ⟨b, o, e, c0, c1, c2, -⟩ := parts_get hc near_div.2.2
  simp only [Option.some.injEq, Addr.mk.injEq, and_true] at e
  obtain ⟨rfl, rfl⟩ := e
  exact ⟨g, c, by rw [hl], c0, c1, c2⟩
set_option maxHeartbeats 4000000 in
set_option maxRecDepth 100000 in
theorem perftParts_heavy (R : RulesM) (P : PosM) (v u : Value) (D : Int) (w : World) (hR : RulesAt w v R) (hP : PosAt w u P) (hh : heavyB R P D = true) :
    Calls Try.prog 12 #[v, u, .int .i64 D] w fun e w' => e = .returned (.bool true) ∧ Ext w w' := by
  have HD1 := hide (fun W (v1 v2 : Value) (h1 : RulesAt W v1 threeR) (h2 : PosAt W v2 nearP) => Divide_yes threeR nearP v1 v2 1 W h1 h2 near_div.1)
  have HHV := hide (fun W (v1 v2 : Value) (h1 : RulesAt W v1 R) (h2 : PosAt W v2 P) => heavy_any R P v1 v2 D W h1 h2)
  rw [hh] at HHV
  clear hh
  have hR0 := hR
  have hP0 := hP
  obtain ⟨pA, pc, sA, sc, eA, ec, rfl, -⟩ := hR0
  obtain ⟨cA, cc, aA, ac, bA, bc, rfl, -⟩ := hP0
  go_enter Try.func12, Try.ntmps12
  go_wp2_with fail
  obtain ⟨xa, kR, kP⟩ := blks2 w #[.string R.name, .int .i64 R.width, .int .i64 R.height, .slice pA R.pieces.length pc, .slice sA R.start.length sc, .bool R.falls, .bool R.keeps, .slice eA R.ends.length ec, .int .i64 R.blocked, .int .i64 R.quiet, .int .i64 R.rept] 26 #[.slice cA P.cells.length cc, .slice aA P.hand0.length ac, .slice bA P.hand1.length bc, .int .i64 P.turn, .int .i64 P.quiet] 36
  replace hR := hR.ext xa
  replace hP := hP.ext xa
  have X := xa
  clear xa
  generalize ((w.alloc (.cells #[.string R.name, .int .i64 R.width, .int .i64 R.height, .slice pA R.pieces.length pc, .slice sA R.start.length sc, .bool R.falls, .bool R.keeps, .slice eA R.ends.length ec, .int .i64 R.blocked, .int .i64 R.quiet, .int .i64 R.rept] 26)).alloc (.cells #[.slice cA P.cells.length cc, .slice aA P.hand0.length ac, .slice bA P.hand1.length bc, .int .i64 P.turn, .int .i64 P.quiet] 36)) = w2 at *
  generalize w.heap.size + 1 = BP at *
  generalize w.heap.size = BR at *
  refine (three_any _).mono ?_
  rintro e w3 ⟨v1, rfl, h1, x⟩
  replace hR := hR.ext x
  replace hP := hP.ext x
  replace kR := kR.ext x
  replace kP := kP.ext x
  replace X := ext_trans X x
  clear x
  go_wp2_with fail
  refine (near_any _).mono ?_
  rintro e w4 ⟨v2, rfl, h2, x⟩
  replace hR := hR.ext x
  replace hP := hP.ext x
  replace kR := kR.ext x
  replace kP := kP.ext x
  replace h1 := h1.ext x
  replace X := ext_trans X x
  clear x
  replace h2 := h2.at_
  go_wp2_with fail
  refine (HD1.out _ _ _ h1 h2).mono ?_
  rintro e w5 ⟨v3, rfl, own3, x⟩
  replace hR := hR.ext x
  replace hP := hP.ext x
  replace kR := kR.ext x
  replace kP := kP.ext x
  replace h1 := h1.ext x
  replace h2 := h2.ext x
  replace X := ext_trans X x
  clear x
  obtain ⟨g3, c3, rfl, q0, q1, q2⟩ := div_near own3
  clear own3
  clear h1 h2
  clear HD1
  go_upto_region 2 with fail
  have HS0 := hide (fun W (h : Ext w5 W) => And.intro (hR.ext h) ( And.intro (hP.ext h) ( And.intro (kR.ext h) ( And.intro (kP.ext h) (ext_trans X h)))))
  have Q0 := hide q0
  have Q1 := hide q1
  have Q2 := hide q2
  clear q0 q1 q2 X hR hP kR kP
  have keepK := hide (fun W (h : Ext w5 W) => (show (fun W => W.cell? ⟨g3, 0, none⟩ = some (.int .i64 (-1)) ∧ W.cell? ⟨g3, 1, none⟩ = some (.int .i64 2) ∧ W.cell? ⟨g3, 2, none⟩ = some (.int .i64 0) ∧ Ext w5 W) W from ⟨h.cell Q0.out, h.cell Q1.out, h.cell Q2.out, h⟩))
  have yy : Ext w5 w5.drew := Below.drew (Below.refl _ _)
  refine region_K (fun W => W.cell? ⟨g3, 0, none⟩ = some (.int .i64 (-1)) ∧ W.cell? ⟨g3, 1, none⟩ = some (.int .i64 2) ∧ W.cell? ⟨g3, 2, none⟩ = some (.int .i64 0) ∧ Ext w5 W) (fun _ => True) [] (by kernel_rfl) ?_
  have hT0 := keepK.out _ yy
  refine anyK_take 0 (oi := ?oo216) ?ho216 (by kernel_rfl) (by kernel_rfl) (by kernel_rfl) (by kernel_rfl) ?hq216 ?hw216 hT0 (fun _ => trivial) (v := ?vv216) ?hy216 ?hk216
  case ho216 => (simp only [List.getElem?_toArray, List.getElem?_cons_succ, List.getElem?_cons_zero]; rfl)
  case hq216 => exact fun _ _ _ h => h
  case hw216 => rfl
  case hy216 =>
    intro W hW
    go_simp
    first | done | with_reducible rfl
  case hk216 =>
  try simp only [Act.put, List.setIfInBounds_toArray, List.set_cons_zero, List.set_cons_succ]
  refine anyK_take 1 (oi := ?oo217) ?ho217 (by kernel_rfl) (by kernel_rfl) (by kernel_rfl) (by kernel_rfl) ?hq217 ?hw217 hT0 (fun _ => trivial) (v := ?vv217) ?hy217 ?hk217
  case ho217 => (simp only [List.getElem?_toArray, List.getElem?_cons_succ, List.getElem?_cons_zero]; rfl)
  case hq217 => exact fun _ _ _ h => h
  case hw217 => rfl
  case hy217 =>
    intro W hW
    go_simp
    first | done | with_reducible rfl
  case hk217 =>
  try simp only [Act.put, List.setIfInBounds_toArray, List.set_cons_zero, List.set_cons_succ]
  refine anyK_take 2 (oi := ?oo218) ?ho218 (by kernel_rfl) (by kernel_rfl) (by kernel_rfl) (by kernel_rfl) ?hq218 ?hw218 hT0 (fun _ => trivial) (v := ?vv218) ?hy218 ?hk218
  case ho218 => (simp only [List.getElem?_toArray, List.getElem?_cons_succ, List.getElem?_cons_zero]; rfl)
  case hq218 => exact fun _ _ _ h => h
  case hw218 => rfl
  case hy218 =>
    intro W hW
    go_simp
    first | done | with_reducible rfl
  case hk218 =>
  try simp only [Act.put, List.setIfInBounds_toArray, List.set_cons_zero, List.set_cons_succ]
  refine anyK_take 3 (oi := ?oo219) ?ho219 (by kernel_rfl) (by kernel_rfl) (by kernel_rfl) (by kernel_rfl) ?hq219 ?hw219 hT0 (fun _ => trivial) (v := ?vv219) ?hy219 ?hk219
  case ho219 => (simp only [List.getElem?_toArray, List.getElem?_cons_succ, List.getElem?_cons_zero]; rfl)
  case hq219 => exact fun _ _ _ h => h
  case hw219 => rfl
  case hy219 =>
    intro W hW
    go_simp
    first | done | with_reducible rfl
  case hk219 =>
  try simp only [Act.put, List.setIfInBounds_toArray, List.set_cons_zero, List.set_cons_succ]
  refine anyK_take 4 (oi := ?oo220) ?ho220 (by kernel_rfl) (by kernel_rfl) (by kernel_rfl) (by kernel_rfl) ?hq220 ?hw220 hT0 (fun _ => trivial) (v := ?vv220) ?hy220 ?hk220
  case ho220 => (simp only [List.getElem?_toArray, List.getElem?_cons_succ, List.getElem?_cons_zero]; rfl)
  case hq220 => exact fun _ _ _ h => h
  case hw220 => rfl
  case hy220 =>
    intro W hW
    go_simp
    first | done | with_reducible rfl
  case hk220 =>
  try simp only [Act.put, List.setIfInBounds_toArray, List.set_cons_zero, List.set_cons_succ]
  refine anyK_take 5 (oi := ?oo221) ?ho221 (by kernel_rfl) (by kernel_rfl) (by kernel_rfl) (by kernel_rfl) ?hq221 ?hw221 hT0 (fun _ => trivial) (v := ?vv221) ?hy221 ?hk221
  case ho221 => (simp only [List.getElem?_toArray, List.getElem?_cons_succ, List.getElem?_cons_zero]; rfl)
  case hq221 => exact fun _ _ _ h => h
  case hw221 => rfl
  case hy221 =>
    intro W hW
    go_simp
    first | done | with_reducible rfl
  case hk221 =>
  try simp only [Act.put, List.setIfInBounds_toArray, List.set_cons_zero, List.set_cons_succ]
  refine anyK_take 6 (oi := ?oo222) ?ho222 (by kernel_rfl) (by kernel_rfl) (by kernel_rfl) (by kernel_rfl) ?hq222 ?hw222 hT0 (fun _ => trivial) (v := ?vv222) ?hy222 ?hk222
  case ho222 => (simp only [List.getElem?_toArray, List.getElem?_cons_succ, List.getElem?_cons_zero]; rfl)
  case hq222 => exact fun _ _ _ h => h
  case hw222 => rfl
  case hy222 =>
    intro W hW
    go_simp
    first | done | with_reducible rfl
  case hk222 =>
  try simp only [Act.put, List.setIfInBounds_toArray, List.set_cons_zero, List.set_cons_succ]
  refine anyK_take 7 (oi := ?oo223) ?ho223 (by kernel_rfl) (by kernel_rfl) (by kernel_rfl) (by kernel_rfl) ?hq223 ?hw223 hT0 (fun _ => trivial) (v := ?vv223) ?hy223 ?hk223
  case ho223 => (simp only [List.getElem?_toArray, List.getElem?_cons_succ, List.getElem?_cons_zero]; rfl)
  case hq223 => exact fun _ _ _ h => h
  case hw223 => rfl
  case hy223 =>
    intro W hW
    go_simp
    first | done | with_reducible rfl
  case hk223 =>
  try simp only [Act.put, List.setIfInBounds_toArray, List.set_cons_zero, List.set_cons_succ]
  refine anyK_take 8 (oi := ?oo224) ?ho224 (by kernel_rfl) (by kernel_rfl) (by kernel_rfl) (by kernel_rfl) ?hq224 ?hw224 hT0 (fun _ => trivial) (v := ?vv224) ?hy224 ?hk224
  case ho224 => (simp only [List.getElem?_toArray, List.getElem?_cons_succ, List.getElem?_cons_zero]; rfl)
  case hq224 => exact fun _ _ _ h => h
  case hw224 => rfl
  case hy224 =>
    intro W hW
    go_simp
    first | done | with_reducible rfl
  case hk224 =>
  try simp only [Act.put, List.setIfInBounds_toArray, List.set_cons_zero, List.set_cons_succ]
  refine anyK_take 9 (oi := ?oo225) ?ho225 (by kernel_rfl) (by kernel_rfl) (by kernel_rfl) (by kernel_rfl) ?hq225 ?hw225 hT0 (fun _ => trivial) (v := ?vv225) ?hy225 ?hk225
  case ho225 => (simp only [List.getElem?_toArray, List.getElem?_cons_succ, List.getElem?_cons_zero]; rfl)
  case hq225 => exact fun _ _ _ h => h
  case hw225 => rfl
  case hy225 =>
    intro W hW
    go_simp
    first | done | with_reducible rfl
  case hk225 =>
  try simp only [Act.put, List.setIfInBounds_toArray, List.set_cons_zero, List.set_cons_succ]
  refine anyK_take 10 (oi := ?oo226) ?ho226 (by kernel_rfl) (by kernel_rfl) (by kernel_rfl) (by kernel_rfl) ?hq226 ?hw226 hT0 (fun _ => trivial) (v := ?vv226) ?hy226 ?hk226
  case ho226 => (simp only [List.getElem?_toArray, List.getElem?_cons_succ, List.getElem?_cons_zero]; rfl)
  case hq226 => exact fun _ _ _ h => h
  case hw226 => rfl
  case hy226 =>
    intro W hW
    go_simp
    first | done | with_reducible rfl
  case hk226 =>
  try simp only [Act.put, List.setIfInBounds_toArray, List.set_cons_zero, List.set_cons_succ]
  refine anyK_take 11 (oi := ?oo227) ?ho227 (by kernel_rfl) (by kernel_rfl) (by kernel_rfl) (by kernel_rfl) ?hq227 ?hw227 hT0 (fun _ => trivial) (v := ?vv227) ?hy227 ?hk227
  case ho227 => (simp only [List.getElem?_toArray, List.getElem?_cons_succ, List.getElem?_cons_zero]; rfl)
  case hq227 => exact fun _ _ _ h => h
  case hw227 => rfl
  case hy227 =>
    intro W hW
    obtain ⟨z0, z1, z2, z3⟩ := hW
    go_simp
    first | done | with_reducible rfl
  case hk227 =>
  try simp only [Act.put, List.setIfInBounds_toArray, List.set_cons_zero, List.set_cons_succ]
  refine anyK_on1 12 (by kernel_rfl) ?_
  refine anyK_one 12 (o := ?oo228) ?ho228 ?hk228
  case ho228 => (simp only [List.getElem?_toArray, List.getElem?_cons_succ, List.getElem?_cons_zero]; rfl)
  case hk228 =>
  intro K hK
  go_simp
  refine (put_any 2 _).mono ?_
  rintro e wp ⟨rfl, xx⟩
  try go_wp2_with fail
  replace yy := ext_trans yy xx
  have hT1 := keepK.out _ yy
  refine hK.out _ _ hT1 (fun _ => trivial) ?_
  clear hK K
  try simp only [Act.put, List.setIfInBounds_toArray, List.set_cons_zero, List.set_cons_succ]
  refine anyK_take 13 (oi := ?oo229) ?ho229 (by kernel_rfl) (by kernel_rfl) (by kernel_rfl) (by kernel_rfl) ?hq229 ?hw229 hT1 (fun _ => trivial) (v := ?vv229) ?hy229 ?hk229
  case ho229 => (simp only [List.getElem?_toArray, List.getElem?_cons_succ, List.getElem?_cons_zero]; rfl)
  case hq229 => exact fun _ _ _ h => h
  case hw229 => rfl
  case hy229 =>
    intro W hW
    go_simp
    first | done | with_reducible rfl
  case hk229 =>
  try simp only [Act.put, List.setIfInBounds_toArray, List.set_cons_zero, List.set_cons_succ]
  refine anyK_take 14 (oi := ?oo230) ?ho230 (by kernel_rfl) (by kernel_rfl) (by kernel_rfl) (by kernel_rfl) ?hq230 ?hw230 hT1 (fun _ => trivial) (v := ?vv230) ?hy230 ?hk230
  case ho230 => (simp only [List.getElem?_toArray, List.getElem?_cons_succ, List.getElem?_cons_zero]; rfl)
  case hq230 => exact fun _ _ _ h => h
  case hw230 => rfl
  case hy230 =>
    intro W hW
    go_simp
    first | done | with_reducible rfl
  case hk230 =>
  try simp only [Act.put, List.setIfInBounds_toArray, List.set_cons_zero, List.set_cons_succ]
  refine anyK_take 15 (oi := ?oo231) ?ho231 (by kernel_rfl) (by kernel_rfl) (by kernel_rfl) (by kernel_rfl) ?hq231 ?hw231 hT1 (fun _ => trivial) (v := ?vv231) ?hy231 ?hk231
  case ho231 => (simp only [List.getElem?_toArray, List.getElem?_cons_succ, List.getElem?_cons_zero]; rfl)
  case hq231 => exact fun _ _ _ h => h
  case hw231 => rfl
  case hy231 =>
    intro W hW
    go_simp
    first | done | with_reducible rfl
  case hk231 =>
  try simp only [Act.put, List.setIfInBounds_toArray, List.set_cons_zero, List.set_cons_succ]
  refine anyK_on1 16 (by kernel_rfl) ?_
  refine anyK_one 16 (o := ?oo232) ?ho232 ?hk232
  case ho232 => (simp only [List.getElem?_toArray, List.getElem?_cons_succ, List.getElem?_cons_zero]; rfl)
  case hk232 =>
  intro K hK
  go_simp
  refine (counted_any _).mono ?_
  rintro e wc ⟨rfl, xx⟩
  try go_wp2_with fail
  replace yy := ext_trans yy xx
  have hT2 := keepK.out _ yy
  refine hK.out _ _ hT2 (fun _ => trivial) ?_
  clear hK K
  try simp only [Act.put, List.setIfInBounds_toArray, List.set_cons_zero, List.set_cons_succ]
  refine anyK_take 17 (oi := ?oo233) ?ho233 (by kernel_rfl) (by kernel_rfl) (by kernel_rfl) (by kernel_rfl) ?hq233 ?hw233 hT2 (fun _ => trivial) (v := ?vv233) ?hy233 ?hk233
  case ho233 => (simp only [List.getElem?_toArray, List.getElem?_cons_succ, List.getElem?_cons_zero]; rfl)
  case hq233 => exact fun _ _ _ h => h
  case hw233 => rfl
  case hy233 =>
    intro W hW
    go_simp
    first | done | with_reducible rfl
  case hk233 =>
  try simp only [Act.put, List.setIfInBounds_toArray, List.set_cons_zero, List.set_cons_succ]
  refine anyK_take 18 (oi := ?oo234) ?ho234 (by kernel_rfl) (by kernel_rfl) (by kernel_rfl) (by kernel_rfl) ?hq234 ?hw234 hT2 (fun _ => trivial) (v := ?vv234) ?hy234 ?hk234
  case ho234 => (simp only [List.getElem?_toArray, List.getElem?_cons_succ, List.getElem?_cons_zero]; rfl)
  case hq234 => exact fun _ _ _ h => h
  case hw234 => rfl
  case hy234 =>
    intro W hW
    go_simp
    first | done | with_reducible rfl
  case hk234 =>
  try simp only [Act.put, List.setIfInBounds_toArray, List.set_cons_zero, List.set_cons_succ]
  refine anyK_done (by kernel_rfl) ?_ _
  clear keepK hT0 hT1 hT2
  obtain ⟨hR, hP, kR, kP, X⟩ := HS0.out _ yy
  clear HS0 Q0 Q1 Q2 xx yy
  have fR := kR.cell
  have fP := kP.cell
  go_wp2_with fail
  refine (HHV.out _ _ _ hR hP).mono ?_
  rintro e w26 ⟨rfl, x⟩
  replace hR := hR.ext x
  replace hP := hP.ext x
  replace kR := kR.ext x
  replace kP := kP.ext x
  replace X := ext_trans X x
  replace fR := kR.cell
  replace fP := kP.cell
  clear x
  clear HHV
  clear fR fP
  go_wp2
  go_ret
  exact ⟨rfl, X⟩
set_option maxHeartbeats 4000000 in
set_option maxRecDepth 100000 in
theorem perftParts_bad (R : RulesM) (P : PosM) (v u : Value) (D : Int) (w : World) (hR : RulesAt w v R) (hP : PosAt w u P) (hh : heavyB R P D = false) (hb : divE R P D ≠ 0) :
    Calls Try.prog 12 #[v, u, .int .i64 D] w fun e w' => e = .returned (.bool true) ∧ Ext w w' := by
  have HD1 := hide (fun W (v1 v2 : Value) (h1 : RulesAt W v1 threeR) (h2 : PosAt W v2 nearP) => Divide_yes threeR nearP v1 v2 1 W h1 h2 near_div.1)
  have HHV := hide (fun W (v1 v2 : Value) (h1 : RulesAt W v1 R) (h2 : PosAt W v2 P) => heavy_any R P v1 v2 D W h1 h2)
  rw [hh] at HHV
  clear hh
  have hR0 := hR
  have hP0 := hP
  obtain ⟨pA, pc, sA, sc, eA, ec, rfl, -⟩ := hR0
  obtain ⟨cA, cc, aA, ac, bA, bc, rfl, -⟩ := hP0
  go_enter Try.func12, Try.ntmps12
  go_wp2_with fail
  obtain ⟨xa, kR, kP⟩ := blks2 w #[.string R.name, .int .i64 R.width, .int .i64 R.height, .slice pA R.pieces.length pc, .slice sA R.start.length sc, .bool R.falls, .bool R.keeps, .slice eA R.ends.length ec, .int .i64 R.blocked, .int .i64 R.quiet, .int .i64 R.rept] 26 #[.slice cA P.cells.length cc, .slice aA P.hand0.length ac, .slice bA P.hand1.length bc, .int .i64 P.turn, .int .i64 P.quiet] 36
  replace hR := hR.ext xa
  replace hP := hP.ext xa
  have X := xa
  clear xa
  generalize ((w.alloc (.cells #[.string R.name, .int .i64 R.width, .int .i64 R.height, .slice pA R.pieces.length pc, .slice sA R.start.length sc, .bool R.falls, .bool R.keeps, .slice eA R.ends.length ec, .int .i64 R.blocked, .int .i64 R.quiet, .int .i64 R.rept] 26)).alloc (.cells #[.slice cA P.cells.length cc, .slice aA P.hand0.length ac, .slice bA P.hand1.length bc, .int .i64 P.turn, .int .i64 P.quiet] 36)) = w2 at *
  generalize w.heap.size + 1 = BP at *
  generalize w.heap.size = BR at *
  refine (three_any _).mono ?_
  rintro e w3 ⟨v1, rfl, h1, x⟩
  replace hR := hR.ext x
  replace hP := hP.ext x
  replace kR := kR.ext x
  replace kP := kP.ext x
  replace X := ext_trans X x
  clear x
  go_wp2_with fail
  refine (near_any _).mono ?_
  rintro e w4 ⟨v2, rfl, h2, x⟩
  replace hR := hR.ext x
  replace hP := hP.ext x
  replace kR := kR.ext x
  replace kP := kP.ext x
  replace h1 := h1.ext x
  replace X := ext_trans X x
  clear x
  replace h2 := h2.at_
  go_wp2_with fail
  refine (HD1.out _ _ _ h1 h2).mono ?_
  rintro e w5 ⟨v3, rfl, own3, x⟩
  replace hR := hR.ext x
  replace hP := hP.ext x
  replace kR := kR.ext x
  replace kP := kP.ext x
  replace h1 := h1.ext x
  replace h2 := h2.ext x
  replace X := ext_trans X x
  clear x
  obtain ⟨g3, c3, rfl, q0, q1, q2⟩ := div_near own3
  clear own3
  clear h1 h2
  clear HD1
  go_upto_region 2 with fail
  have HS0 := hide (fun W (h : Ext w5 W) => And.intro (hR.ext h) ( And.intro (hP.ext h) ( And.intro (kR.ext h) ( And.intro (kP.ext h) (ext_trans X h)))))
  have Q0 := hide q0
  have Q1 := hide q1
  have Q2 := hide q2
  clear q0 q1 q2 X hR hP kR kP
  have keepK := hide (fun W (h : Ext w5 W) => (show (fun W => W.cell? ⟨g3, 0, none⟩ = some (.int .i64 (-1)) ∧ W.cell? ⟨g3, 1, none⟩ = some (.int .i64 2) ∧ W.cell? ⟨g3, 2, none⟩ = some (.int .i64 0) ∧ Ext w5 W) W from ⟨h.cell Q0.out, h.cell Q1.out, h.cell Q2.out, h⟩))
  have yy : Ext w5 w5.drew := Below.drew (Below.refl _ _)
  refine region_K (fun W => W.cell? ⟨g3, 0, none⟩ = some (.int .i64 (-1)) ∧ W.cell? ⟨g3, 1, none⟩ = some (.int .i64 2) ∧ W.cell? ⟨g3, 2, none⟩ = some (.int .i64 0) ∧ Ext w5 W) (fun _ => True) [] (by kernel_rfl) ?_
  have hT0 := keepK.out _ yy
  refine anyK_take 0 (oi := ?oo235) ?ho235 (by kernel_rfl) (by kernel_rfl) (by kernel_rfl) (by kernel_rfl) ?hq235 ?hw235 hT0 (fun _ => trivial) (v := ?vv235) ?hy235 ?hk235
  case ho235 => (simp only [List.getElem?_toArray, List.getElem?_cons_succ, List.getElem?_cons_zero]; rfl)
  case hq235 => exact fun _ _ _ h => h
  case hw235 => rfl
  case hy235 =>
    intro W hW
    go_simp
    first | done | with_reducible rfl
  case hk235 =>
  try simp only [Act.put, List.setIfInBounds_toArray, List.set_cons_zero, List.set_cons_succ]
  refine anyK_take 1 (oi := ?oo236) ?ho236 (by kernel_rfl) (by kernel_rfl) (by kernel_rfl) (by kernel_rfl) ?hq236 ?hw236 hT0 (fun _ => trivial) (v := ?vv236) ?hy236 ?hk236
  case ho236 => (simp only [List.getElem?_toArray, List.getElem?_cons_succ, List.getElem?_cons_zero]; rfl)
  case hq236 => exact fun _ _ _ h => h
  case hw236 => rfl
  case hy236 =>
    intro W hW
    go_simp
    first | done | with_reducible rfl
  case hk236 =>
  try simp only [Act.put, List.setIfInBounds_toArray, List.set_cons_zero, List.set_cons_succ]
  refine anyK_take 2 (oi := ?oo237) ?ho237 (by kernel_rfl) (by kernel_rfl) (by kernel_rfl) (by kernel_rfl) ?hq237 ?hw237 hT0 (fun _ => trivial) (v := ?vv237) ?hy237 ?hk237
  case ho237 => (simp only [List.getElem?_toArray, List.getElem?_cons_succ, List.getElem?_cons_zero]; rfl)
  case hq237 => exact fun _ _ _ h => h
  case hw237 => rfl
  case hy237 =>
    intro W hW
    go_simp
    first | done | with_reducible rfl
  case hk237 =>
  try simp only [Act.put, List.setIfInBounds_toArray, List.set_cons_zero, List.set_cons_succ]
  refine anyK_take 3 (oi := ?oo238) ?ho238 (by kernel_rfl) (by kernel_rfl) (by kernel_rfl) (by kernel_rfl) ?hq238 ?hw238 hT0 (fun _ => trivial) (v := ?vv238) ?hy238 ?hk238
  case ho238 => (simp only [List.getElem?_toArray, List.getElem?_cons_succ, List.getElem?_cons_zero]; rfl)
  case hq238 => exact fun _ _ _ h => h
  case hw238 => rfl
  case hy238 =>
    intro W hW
    go_simp
    first | done | with_reducible rfl
  case hk238 =>
  try simp only [Act.put, List.setIfInBounds_toArray, List.set_cons_zero, List.set_cons_succ]
  refine anyK_take 4 (oi := ?oo239) ?ho239 (by kernel_rfl) (by kernel_rfl) (by kernel_rfl) (by kernel_rfl) ?hq239 ?hw239 hT0 (fun _ => trivial) (v := ?vv239) ?hy239 ?hk239
  case ho239 => (simp only [List.getElem?_toArray, List.getElem?_cons_succ, List.getElem?_cons_zero]; rfl)
  case hq239 => exact fun _ _ _ h => h
  case hw239 => rfl
  case hy239 =>
    intro W hW
    go_simp
    first | done | with_reducible rfl
  case hk239 =>
  try simp only [Act.put, List.setIfInBounds_toArray, List.set_cons_zero, List.set_cons_succ]
  refine anyK_take 5 (oi := ?oo240) ?ho240 (by kernel_rfl) (by kernel_rfl) (by kernel_rfl) (by kernel_rfl) ?hq240 ?hw240 hT0 (fun _ => trivial) (v := ?vv240) ?hy240 ?hk240
  case ho240 => (simp only [List.getElem?_toArray, List.getElem?_cons_succ, List.getElem?_cons_zero]; rfl)
  case hq240 => exact fun _ _ _ h => h
  case hw240 => rfl
  case hy240 =>
    intro W hW
    go_simp
    first | done | with_reducible rfl
  case hk240 =>
  try simp only [Act.put, List.setIfInBounds_toArray, List.set_cons_zero, List.set_cons_succ]
  refine anyK_take 6 (oi := ?oo241) ?ho241 (by kernel_rfl) (by kernel_rfl) (by kernel_rfl) (by kernel_rfl) ?hq241 ?hw241 hT0 (fun _ => trivial) (v := ?vv241) ?hy241 ?hk241
  case ho241 => (simp only [List.getElem?_toArray, List.getElem?_cons_succ, List.getElem?_cons_zero]; rfl)
  case hq241 => exact fun _ _ _ h => h
  case hw241 => rfl
  case hy241 =>
    intro W hW
    go_simp
    first | done | with_reducible rfl
  case hk241 =>
  try simp only [Act.put, List.setIfInBounds_toArray, List.set_cons_zero, List.set_cons_succ]
  refine anyK_take 7 (oi := ?oo242) ?ho242 (by kernel_rfl) (by kernel_rfl) (by kernel_rfl) (by kernel_rfl) ?hq242 ?hw242 hT0 (fun _ => trivial) (v := ?vv242) ?hy242 ?hk242
  case ho242 => (simp only [List.getElem?_toArray, List.getElem?_cons_succ, List.getElem?_cons_zero]; rfl)
  case hq242 => exact fun _ _ _ h => h
  case hw242 => rfl
  case hy242 =>
    intro W hW
    go_simp
    first | done | with_reducible rfl
  case hk242 =>
  try simp only [Act.put, List.setIfInBounds_toArray, List.set_cons_zero, List.set_cons_succ]
  refine anyK_take 8 (oi := ?oo243) ?ho243 (by kernel_rfl) (by kernel_rfl) (by kernel_rfl) (by kernel_rfl) ?hq243 ?hw243 hT0 (fun _ => trivial) (v := ?vv243) ?hy243 ?hk243
  case ho243 => (simp only [List.getElem?_toArray, List.getElem?_cons_succ, List.getElem?_cons_zero]; rfl)
  case hq243 => exact fun _ _ _ h => h
  case hw243 => rfl
  case hy243 =>
    intro W hW
    go_simp
    first | done | with_reducible rfl
  case hk243 =>
  try simp only [Act.put, List.setIfInBounds_toArray, List.set_cons_zero, List.set_cons_succ]
  refine anyK_take 9 (oi := ?oo244) ?ho244 (by kernel_rfl) (by kernel_rfl) (by kernel_rfl) (by kernel_rfl) ?hq244 ?hw244 hT0 (fun _ => trivial) (v := ?vv244) ?hy244 ?hk244
  case ho244 => (simp only [List.getElem?_toArray, List.getElem?_cons_succ, List.getElem?_cons_zero]; rfl)
  case hq244 => exact fun _ _ _ h => h
  case hw244 => rfl
  case hy244 =>
    intro W hW
    go_simp
    first | done | with_reducible rfl
  case hk244 =>
  try simp only [Act.put, List.setIfInBounds_toArray, List.set_cons_zero, List.set_cons_succ]
  refine anyK_take 10 (oi := ?oo245) ?ho245 (by kernel_rfl) (by kernel_rfl) (by kernel_rfl) (by kernel_rfl) ?hq245 ?hw245 hT0 (fun _ => trivial) (v := ?vv245) ?hy245 ?hk245
  case ho245 => (simp only [List.getElem?_toArray, List.getElem?_cons_succ, List.getElem?_cons_zero]; rfl)
  case hq245 => exact fun _ _ _ h => h
  case hw245 => rfl
  case hy245 =>
    intro W hW
    go_simp
    first | done | with_reducible rfl
  case hk245 =>
  try simp only [Act.put, List.setIfInBounds_toArray, List.set_cons_zero, List.set_cons_succ]
  refine anyK_take 11 (oi := ?oo246) ?ho246 (by kernel_rfl) (by kernel_rfl) (by kernel_rfl) (by kernel_rfl) ?hq246 ?hw246 hT0 (fun _ => trivial) (v := ?vv246) ?hy246 ?hk246
  case ho246 => (simp only [List.getElem?_toArray, List.getElem?_cons_succ, List.getElem?_cons_zero]; rfl)
  case hq246 => exact fun _ _ _ h => h
  case hw246 => rfl
  case hy246 =>
    intro W hW
    obtain ⟨z0, z1, z2, z3⟩ := hW
    go_simp
    first | done | with_reducible rfl
  case hk246 =>
  try simp only [Act.put, List.setIfInBounds_toArray, List.set_cons_zero, List.set_cons_succ]
  refine anyK_on1 12 (by kernel_rfl) ?_
  refine anyK_one 12 (o := ?oo247) ?ho247 ?hk247
  case ho247 => (simp only [List.getElem?_toArray, List.getElem?_cons_succ, List.getElem?_cons_zero]; rfl)
  case hk247 =>
  intro K hK
  go_simp
  refine (put_any 2 _).mono ?_
  rintro e wp ⟨rfl, xx⟩
  try go_wp2_with fail
  replace yy := ext_trans yy xx
  have hT1 := keepK.out _ yy
  refine hK.out _ _ hT1 (fun _ => trivial) ?_
  clear hK K
  try simp only [Act.put, List.setIfInBounds_toArray, List.set_cons_zero, List.set_cons_succ]
  refine anyK_take 13 (oi := ?oo248) ?ho248 (by kernel_rfl) (by kernel_rfl) (by kernel_rfl) (by kernel_rfl) ?hq248 ?hw248 hT1 (fun _ => trivial) (v := ?vv248) ?hy248 ?hk248
  case ho248 => (simp only [List.getElem?_toArray, List.getElem?_cons_succ, List.getElem?_cons_zero]; rfl)
  case hq248 => exact fun _ _ _ h => h
  case hw248 => rfl
  case hy248 =>
    intro W hW
    go_simp
    first | done | with_reducible rfl
  case hk248 =>
  try simp only [Act.put, List.setIfInBounds_toArray, List.set_cons_zero, List.set_cons_succ]
  refine anyK_take 14 (oi := ?oo249) ?ho249 (by kernel_rfl) (by kernel_rfl) (by kernel_rfl) (by kernel_rfl) ?hq249 ?hw249 hT1 (fun _ => trivial) (v := ?vv249) ?hy249 ?hk249
  case ho249 => (simp only [List.getElem?_toArray, List.getElem?_cons_succ, List.getElem?_cons_zero]; rfl)
  case hq249 => exact fun _ _ _ h => h
  case hw249 => rfl
  case hy249 =>
    intro W hW
    go_simp
    first | done | with_reducible rfl
  case hk249 =>
  try simp only [Act.put, List.setIfInBounds_toArray, List.set_cons_zero, List.set_cons_succ]
  refine anyK_take 15 (oi := ?oo250) ?ho250 (by kernel_rfl) (by kernel_rfl) (by kernel_rfl) (by kernel_rfl) ?hq250 ?hw250 hT1 (fun _ => trivial) (v := ?vv250) ?hy250 ?hk250
  case ho250 => (simp only [List.getElem?_toArray, List.getElem?_cons_succ, List.getElem?_cons_zero]; rfl)
  case hq250 => exact fun _ _ _ h => h
  case hw250 => rfl
  case hy250 =>
    intro W hW
    go_simp
    first | done | with_reducible rfl
  case hk250 =>
  try simp only [Act.put, List.setIfInBounds_toArray, List.set_cons_zero, List.set_cons_succ]
  refine anyK_on1 16 (by kernel_rfl) ?_
  refine anyK_one 16 (o := ?oo251) ?ho251 ?hk251
  case ho251 => (simp only [List.getElem?_toArray, List.getElem?_cons_succ, List.getElem?_cons_zero]; rfl)
  case hk251 =>
  intro K hK
  go_simp
  refine (counted_any _).mono ?_
  rintro e wc ⟨rfl, xx⟩
  try go_wp2_with fail
  replace yy := ext_trans yy xx
  have hT2 := keepK.out _ yy
  refine hK.out _ _ hT2 (fun _ => trivial) ?_
  clear hK K
  try simp only [Act.put, List.setIfInBounds_toArray, List.set_cons_zero, List.set_cons_succ]
  refine anyK_take 17 (oi := ?oo252) ?ho252 (by kernel_rfl) (by kernel_rfl) (by kernel_rfl) (by kernel_rfl) ?hq252 ?hw252 hT2 (fun _ => trivial) (v := ?vv252) ?hy252 ?hk252
  case ho252 => (simp only [List.getElem?_toArray, List.getElem?_cons_succ, List.getElem?_cons_zero]; rfl)
  case hq252 => exact fun _ _ _ h => h
  case hw252 => rfl
  case hy252 =>
    intro W hW
    go_simp
    first | done | with_reducible rfl
  case hk252 =>
  try simp only [Act.put, List.setIfInBounds_toArray, List.set_cons_zero, List.set_cons_succ]
  refine anyK_take 18 (oi := ?oo253) ?ho253 (by kernel_rfl) (by kernel_rfl) (by kernel_rfl) (by kernel_rfl) ?hq253 ?hw253 hT2 (fun _ => trivial) (v := ?vv253) ?hy253 ?hk253
  case ho253 => (simp only [List.getElem?_toArray, List.getElem?_cons_succ, List.getElem?_cons_zero]; rfl)
  case hq253 => exact fun _ _ _ h => h
  case hw253 => rfl
  case hy253 =>
    intro W hW
    go_simp
    first | done | with_reducible rfl
  case hk253 =>
  try simp only [Act.put, List.setIfInBounds_toArray, List.set_cons_zero, List.set_cons_succ]
  refine anyK_done (by kernel_rfl) ?_ _
  clear keepK hT0 hT1 hT2
  obtain ⟨hR, hP, kR, kP, X⟩ := HS0.out _ yy
  clear HS0 Q0 Q1 Q2 xx yy
  have fR := kR.cell
  have fP := kP.cell
  go_wp2_with fail
  refine (HHV.out _ _ _ hR hP).mono ?_
  rintro e w26 ⟨rfl, x⟩
  replace hR := hR.ext x
  replace hP := hP.ext x
  replace kR := kR.ext x
  replace kP := kP.ext x
  replace X := ext_trans X x
  replace fR := kR.cell
  replace fP := kP.cell
  clear x
  clear HHV
  have HT := hide (fun W (v1 v2 : Value) (h1 : RulesAt W v1 R) (h2 : PosAt W v2 P) => PfTree_any R P v1 v2 D W h1 h2)
  have HD := hide (fun W (v1 v2 : Value) (h1 : RulesAt W v1 R) (h2 : PosAt W v2 P) => Divide_no R P v1 v2 D W h1 h2 hb)
  have HN := hide (fun W (v1 v2 : Value) (h1 : RulesAt W v1 R) (h2 : PosAt W v2 P) => PfCount_any R P v1 v2 D W h1 h2)
  rcases perft_bad hb with ⟨e1, e2, e3, e4⟩ | ⟨rfl, e1, e2, e3, e4⟩
  · skip
    rw [e2] at HT
    rw [e3] at HN
    rw [e4] at HD
    have t0 : (perftE R P D != 0) = true := by simpa using e1
    have hz : allZero [perftE R P D, perftE R P D, perftE R P D] = false := by simp [allZero, e1]
    clear e1 e2 e3 e4 hb
    generalize perftE R P D = E at *
    go_wp2_with fail
    refine (HT.out _ _ _ hR hP).mono ?_
    rintro e w27 ⟨rfl, x⟩
    replace hR := hR.ext x
    replace hP := hP.ext x
    replace kR := kR.ext x
    replace kP := kP.ext x
    replace X := ext_trans X x
    replace fR := kR.cell
    replace fP := kP.cell
    clear x
    go_wp2_with fail
    refine (HD.out _ _ _ hR hP).mono ?_
    rintro e w28 ⟨rfl, x⟩
    replace hR := hR.ext x
    replace hP := hP.ext x
    replace kR := kR.ext x
    replace kP := kP.ext x
    replace X := ext_trans X x
    replace fR := kR.cell
    replace fP := kP.cell
    clear x
    go_wp2_with fail
    refine (HN.out _ _ _ hR hP).mono ?_
    rintro e w29 ⟨rfl, x⟩
    replace hR := hR.ext x
    replace hP := hP.ext x
    replace kR := kR.ext x
    replace kP := kP.ext x
    replace X := ext_trans X x
    replace fR := kR.cell
    replace fP := kP.cell
    clear x
    clear fR fP
    obtain ⟨xa, kE⟩ := blks1 w29 #[.int .i64 E, .int .i64 E, .int .i64 E] 28
    replace hR := hR.ext xa
    replace hP := hP.ext xa
    replace kR := kR.ext xa
    replace kP := kP.ext xa
    replace X := ext_trans X xa
    clear xa
    go_wp2_with fail
    generalize (w29.alloc (.cells #[.int .i64 E, .int .i64 E, .int .i64 E] 28)) = w30 at *
    generalize w29.heap.size = BE at *
    refine (fine_ext (fine_any (some ⟨BE, 0, none⟩) 3 3 [E, E, E] _ rfl (by omega) (blk_ints kE))).mono ?_
    rintro e w31 ⟨rfl, x⟩
    replace hR := hR.ext x
    replace hP := hP.ext x
    replace kR := kR.ext x
    replace kP := kP.ext x
    replace kE := kE.ext x
    replace X := ext_trans X x
    clear x
    rw [hz]
    clear kE
    go_wp2
    go_ret
    exact ⟨rfl, X⟩
  · skip
    rw [e1, e2] at HT
    rw [e1, e3] at HN
    rw [e4] at HD
    clear e1 e2 e3 e4 hb
    go_wp2_with fail
    refine (HT.out _ _ _ hR hP).mono ?_
    rintro e w27 ⟨rfl, x⟩
    replace hR := hR.ext x
    replace hP := hP.ext x
    replace kR := kR.ext x
    replace kP := kP.ext x
    replace X := ext_trans X x
    replace fR := kR.cell
    replace fP := kP.cell
    clear x
    go_wp2_with fail
    refine (HD.out _ _ _ hR hP).mono ?_
    rintro e w28 ⟨rfl, x⟩
    replace hR := hR.ext x
    replace hP := hP.ext x
    replace kR := kR.ext x
    replace kP := kP.ext x
    replace X := ext_trans X x
    replace fR := kR.cell
    replace fP := kP.cell
    clear x
    go_wp2_with fail
    refine (HN.out _ _ _ hR hP).mono ?_
    rintro e w29 ⟨rfl, x⟩
    replace hR := hR.ext x
    replace hP := hP.ext x
    replace kR := kR.ext x
    replace kP := kP.ext x
    replace X := ext_trans X x
    replace fR := kR.cell
    replace fP := kP.cell
    clear x
    clear fR fP
    obtain ⟨xa, kE⟩ := blks1 w29 #[.int .i64 0, .int .i64 1, .int .i64 0] 28
    replace hR := hR.ext xa
    replace hP := hP.ext xa
    replace kR := kR.ext xa
    replace kP := kP.ext xa
    replace X := ext_trans X xa
    clear xa
    go_wp2_with fail
    generalize (w29.alloc (.cells #[.int .i64 0, .int .i64 1, .int .i64 0] 28)) = w30 at *
    generalize w29.heap.size = BE at *
    refine (fine_ext (fine_any (some ⟨BE, 0, none⟩) 3 3 [0, 1, 0] _ rfl (by omega) (blk_ints kE))).mono ?_
    rintro e w31 ⟨rfl, x⟩
    replace hR := hR.ext x
    replace hP := hP.ext x
    replace kR := kR.ext x
    replace kP := kP.ext x
    replace kE := kE.ext x
    replace X := ext_trans X x
    clear x
    rw [show allZero [0, 1, 0] = false from rfl]
    clear kE
    go_wp2
    go_ret
    exact ⟨rfl, X⟩
set_option maxHeartbeats 4000000 in
set_option maxRecDepth 100000 in
theorem perftParts_fine (R : RulesM) (P : PosM) (v u : Value) (D : Int) (w : World) (hR : RulesAt w v R) (hP : PosAt w u P) (hh : heavyB R P D = false) (h0 : divE R P D = 0) :
    Calls Try.prog 12 #[v, u, .int .i64 D] w fun e w' => e = .returned (.bool true) ∧ Ext w w' := by
  have HD1 := hide (fun W (v1 v2 : Value) (h1 : RulesAt W v1 threeR) (h2 : PosAt W v2 nearP) => Divide_yes threeR nearP v1 v2 1 W h1 h2 near_div.1)
  have HHV := hide (fun W (v1 v2 : Value) (h1 : RulesAt W v1 R) (h2 : PosAt W v2 P) => heavy_any R P v1 v2 D W h1 h2)
  rw [hh] at HHV
  clear hh
  have hR0 := hR
  have hP0 := hP
  obtain ⟨pA, pc, sA, sc, eA, ec, rfl, -⟩ := hR0
  obtain ⟨cA, cc, aA, ac, bA, bc, rfl, -⟩ := hP0
  go_enter Try.func12, Try.ntmps12
  go_wp2_with fail
  obtain ⟨xa, kR, kP⟩ := blks2 w #[.string R.name, .int .i64 R.width, .int .i64 R.height, .slice pA R.pieces.length pc, .slice sA R.start.length sc, .bool R.falls, .bool R.keeps, .slice eA R.ends.length ec, .int .i64 R.blocked, .int .i64 R.quiet, .int .i64 R.rept] 26 #[.slice cA P.cells.length cc, .slice aA P.hand0.length ac, .slice bA P.hand1.length bc, .int .i64 P.turn, .int .i64 P.quiet] 36
  replace hR := hR.ext xa
  replace hP := hP.ext xa
  have X := xa
  clear xa
  generalize ((w.alloc (.cells #[.string R.name, .int .i64 R.width, .int .i64 R.height, .slice pA R.pieces.length pc, .slice sA R.start.length sc, .bool R.falls, .bool R.keeps, .slice eA R.ends.length ec, .int .i64 R.blocked, .int .i64 R.quiet, .int .i64 R.rept] 26)).alloc (.cells #[.slice cA P.cells.length cc, .slice aA P.hand0.length ac, .slice bA P.hand1.length bc, .int .i64 P.turn, .int .i64 P.quiet] 36)) = w2 at *
  generalize w.heap.size + 1 = BP at *
  generalize w.heap.size = BR at *
  refine (three_any _).mono ?_
  rintro e w3 ⟨v1, rfl, h1, x⟩
  replace hR := hR.ext x
  replace hP := hP.ext x
  replace kR := kR.ext x
  replace kP := kP.ext x
  replace X := ext_trans X x
  clear x
  go_wp2_with fail
  refine (near_any _).mono ?_
  rintro e w4 ⟨v2, rfl, h2, x⟩
  replace hR := hR.ext x
  replace hP := hP.ext x
  replace kR := kR.ext x
  replace kP := kP.ext x
  replace h1 := h1.ext x
  replace X := ext_trans X x
  clear x
  replace h2 := h2.at_
  go_wp2_with fail
  refine (HD1.out _ _ _ h1 h2).mono ?_
  rintro e w5 ⟨v3, rfl, own3, x⟩
  replace hR := hR.ext x
  replace hP := hP.ext x
  replace kR := kR.ext x
  replace kP := kP.ext x
  replace h1 := h1.ext x
  replace h2 := h2.ext x
  replace X := ext_trans X x
  clear x
  obtain ⟨g3, c3, rfl, q0, q1, q2⟩ := div_near own3
  clear own3
  clear h1 h2
  clear HD1
  go_upto_region 2 with fail
  have HS0 := hide (fun W (h : Ext w5 W) => And.intro (hR.ext h) ( And.intro (hP.ext h) ( And.intro (kR.ext h) ( And.intro (kP.ext h) (ext_trans X h)))))
  have Q0 := hide q0
  have Q1 := hide q1
  have Q2 := hide q2
  clear q0 q1 q2 X hR hP kR kP
  have keepK := hide (fun W (h : Ext w5 W) => (show (fun W => W.cell? ⟨g3, 0, none⟩ = some (.int .i64 (-1)) ∧ W.cell? ⟨g3, 1, none⟩ = some (.int .i64 2) ∧ W.cell? ⟨g3, 2, none⟩ = some (.int .i64 0) ∧ Ext w5 W) W from ⟨h.cell Q0.out, h.cell Q1.out, h.cell Q2.out, h⟩))
  have yy : Ext w5 w5.drew := Below.drew (Below.refl _ _)
  refine region_K (fun W => W.cell? ⟨g3, 0, none⟩ = some (.int .i64 (-1)) ∧ W.cell? ⟨g3, 1, none⟩ = some (.int .i64 2) ∧ W.cell? ⟨g3, 2, none⟩ = some (.int .i64 0) ∧ Ext w5 W) (fun _ => True) [] (by kernel_rfl) ?_
  have hT0 := keepK.out _ yy
  refine anyK_take 0 (oi := ?oo254) ?ho254 (by kernel_rfl) (by kernel_rfl) (by kernel_rfl) (by kernel_rfl) ?hq254 ?hw254 hT0 (fun _ => trivial) (v := ?vv254) ?hy254 ?hk254
  case ho254 => (simp only [List.getElem?_toArray, List.getElem?_cons_succ, List.getElem?_cons_zero]; rfl)
  case hq254 => exact fun _ _ _ h => h
  case hw254 => rfl
  case hy254 =>
    intro W hW
    go_simp
    first | done | with_reducible rfl
  case hk254 =>
  try simp only [Act.put, List.setIfInBounds_toArray, List.set_cons_zero, List.set_cons_succ]
  refine anyK_take 1 (oi := ?oo255) ?ho255 (by kernel_rfl) (by kernel_rfl) (by kernel_rfl) (by kernel_rfl) ?hq255 ?hw255 hT0 (fun _ => trivial) (v := ?vv255) ?hy255 ?hk255
  case ho255 => (simp only [List.getElem?_toArray, List.getElem?_cons_succ, List.getElem?_cons_zero]; rfl)
  case hq255 => exact fun _ _ _ h => h
  case hw255 => rfl
  case hy255 =>
    intro W hW
    go_simp
    first | done | with_reducible rfl
  case hk255 =>
  try simp only [Act.put, List.setIfInBounds_toArray, List.set_cons_zero, List.set_cons_succ]
  refine anyK_take 2 (oi := ?oo256) ?ho256 (by kernel_rfl) (by kernel_rfl) (by kernel_rfl) (by kernel_rfl) ?hq256 ?hw256 hT0 (fun _ => trivial) (v := ?vv256) ?hy256 ?hk256
  case ho256 => (simp only [List.getElem?_toArray, List.getElem?_cons_succ, List.getElem?_cons_zero]; rfl)
  case hq256 => exact fun _ _ _ h => h
  case hw256 => rfl
  case hy256 =>
    intro W hW
    go_simp
    first | done | with_reducible rfl
  case hk256 =>
  try simp only [Act.put, List.setIfInBounds_toArray, List.set_cons_zero, List.set_cons_succ]
  refine anyK_take 3 (oi := ?oo257) ?ho257 (by kernel_rfl) (by kernel_rfl) (by kernel_rfl) (by kernel_rfl) ?hq257 ?hw257 hT0 (fun _ => trivial) (v := ?vv257) ?hy257 ?hk257
  case ho257 => (simp only [List.getElem?_toArray, List.getElem?_cons_succ, List.getElem?_cons_zero]; rfl)
  case hq257 => exact fun _ _ _ h => h
  case hw257 => rfl
  case hy257 =>
    intro W hW
    go_simp
    first | done | with_reducible rfl
  case hk257 =>
  try simp only [Act.put, List.setIfInBounds_toArray, List.set_cons_zero, List.set_cons_succ]
  refine anyK_take 4 (oi := ?oo258) ?ho258 (by kernel_rfl) (by kernel_rfl) (by kernel_rfl) (by kernel_rfl) ?hq258 ?hw258 hT0 (fun _ => trivial) (v := ?vv258) ?hy258 ?hk258
  case ho258 => (simp only [List.getElem?_toArray, List.getElem?_cons_succ, List.getElem?_cons_zero]; rfl)
  case hq258 => exact fun _ _ _ h => h
  case hw258 => rfl
  case hy258 =>
    intro W hW
    go_simp
    first | done | with_reducible rfl
  case hk258 =>
  try simp only [Act.put, List.setIfInBounds_toArray, List.set_cons_zero, List.set_cons_succ]
  refine anyK_take 5 (oi := ?oo259) ?ho259 (by kernel_rfl) (by kernel_rfl) (by kernel_rfl) (by kernel_rfl) ?hq259 ?hw259 hT0 (fun _ => trivial) (v := ?vv259) ?hy259 ?hk259
  case ho259 => (simp only [List.getElem?_toArray, List.getElem?_cons_succ, List.getElem?_cons_zero]; rfl)
  case hq259 => exact fun _ _ _ h => h
  case hw259 => rfl
  case hy259 =>
    intro W hW
    go_simp
    first | done | with_reducible rfl
  case hk259 =>
  try simp only [Act.put, List.setIfInBounds_toArray, List.set_cons_zero, List.set_cons_succ]
  refine anyK_take 6 (oi := ?oo260) ?ho260 (by kernel_rfl) (by kernel_rfl) (by kernel_rfl) (by kernel_rfl) ?hq260 ?hw260 hT0 (fun _ => trivial) (v := ?vv260) ?hy260 ?hk260
  case ho260 => (simp only [List.getElem?_toArray, List.getElem?_cons_succ, List.getElem?_cons_zero]; rfl)
  case hq260 => exact fun _ _ _ h => h
  case hw260 => rfl
  case hy260 =>
    intro W hW
    go_simp
    first | done | with_reducible rfl
  case hk260 =>
  try simp only [Act.put, List.setIfInBounds_toArray, List.set_cons_zero, List.set_cons_succ]
  refine anyK_take 7 (oi := ?oo261) ?ho261 (by kernel_rfl) (by kernel_rfl) (by kernel_rfl) (by kernel_rfl) ?hq261 ?hw261 hT0 (fun _ => trivial) (v := ?vv261) ?hy261 ?hk261
  case ho261 => (simp only [List.getElem?_toArray, List.getElem?_cons_succ, List.getElem?_cons_zero]; rfl)
  case hq261 => exact fun _ _ _ h => h
  case hw261 => rfl
  case hy261 =>
    intro W hW
    go_simp
    first | done | with_reducible rfl
  case hk261 =>
  try simp only [Act.put, List.setIfInBounds_toArray, List.set_cons_zero, List.set_cons_succ]
  refine anyK_take 8 (oi := ?oo262) ?ho262 (by kernel_rfl) (by kernel_rfl) (by kernel_rfl) (by kernel_rfl) ?hq262 ?hw262 hT0 (fun _ => trivial) (v := ?vv262) ?hy262 ?hk262
  case ho262 => (simp only [List.getElem?_toArray, List.getElem?_cons_succ, List.getElem?_cons_zero]; rfl)
  case hq262 => exact fun _ _ _ h => h
  case hw262 => rfl
  case hy262 =>
    intro W hW
    go_simp
    first | done | with_reducible rfl
  case hk262 =>
  try simp only [Act.put, List.setIfInBounds_toArray, List.set_cons_zero, List.set_cons_succ]
  refine anyK_take 9 (oi := ?oo263) ?ho263 (by kernel_rfl) (by kernel_rfl) (by kernel_rfl) (by kernel_rfl) ?hq263 ?hw263 hT0 (fun _ => trivial) (v := ?vv263) ?hy263 ?hk263
  case ho263 => (simp only [List.getElem?_toArray, List.getElem?_cons_succ, List.getElem?_cons_zero]; rfl)
  case hq263 => exact fun _ _ _ h => h
  case hw263 => rfl
  case hy263 =>
    intro W hW
    go_simp
    first | done | with_reducible rfl
  case hk263 =>
  try simp only [Act.put, List.setIfInBounds_toArray, List.set_cons_zero, List.set_cons_succ]
  refine anyK_take 10 (oi := ?oo264) ?ho264 (by kernel_rfl) (by kernel_rfl) (by kernel_rfl) (by kernel_rfl) ?hq264 ?hw264 hT0 (fun _ => trivial) (v := ?vv264) ?hy264 ?hk264
  case ho264 => (simp only [List.getElem?_toArray, List.getElem?_cons_succ, List.getElem?_cons_zero]; rfl)
  case hq264 => exact fun _ _ _ h => h
  case hw264 => rfl
  case hy264 =>
    intro W hW
    go_simp
    first | done | with_reducible rfl
  case hk264 =>
  try simp only [Act.put, List.setIfInBounds_toArray, List.set_cons_zero, List.set_cons_succ]
  refine anyK_take 11 (oi := ?oo265) ?ho265 (by kernel_rfl) (by kernel_rfl) (by kernel_rfl) (by kernel_rfl) ?hq265 ?hw265 hT0 (fun _ => trivial) (v := ?vv265) ?hy265 ?hk265
  case ho265 => (simp only [List.getElem?_toArray, List.getElem?_cons_succ, List.getElem?_cons_zero]; rfl)
  case hq265 => exact fun _ _ _ h => h
  case hw265 => rfl
  case hy265 =>
    intro W hW
    obtain ⟨z0, z1, z2, z3⟩ := hW
    go_simp
    first | done | with_reducible rfl
  case hk265 =>
  try simp only [Act.put, List.setIfInBounds_toArray, List.set_cons_zero, List.set_cons_succ]
  refine anyK_on1 12 (by kernel_rfl) ?_
  refine anyK_one 12 (o := ?oo266) ?ho266 ?hk266
  case ho266 => (simp only [List.getElem?_toArray, List.getElem?_cons_succ, List.getElem?_cons_zero]; rfl)
  case hk266 =>
  intro K hK
  go_simp
  refine (put_any 2 _).mono ?_
  rintro e wp ⟨rfl, xx⟩
  try go_wp2_with fail
  replace yy := ext_trans yy xx
  have hT1 := keepK.out _ yy
  refine hK.out _ _ hT1 (fun _ => trivial) ?_
  clear hK K
  try simp only [Act.put, List.setIfInBounds_toArray, List.set_cons_zero, List.set_cons_succ]
  refine anyK_take 13 (oi := ?oo267) ?ho267 (by kernel_rfl) (by kernel_rfl) (by kernel_rfl) (by kernel_rfl) ?hq267 ?hw267 hT1 (fun _ => trivial) (v := ?vv267) ?hy267 ?hk267
  case ho267 => (simp only [List.getElem?_toArray, List.getElem?_cons_succ, List.getElem?_cons_zero]; rfl)
  case hq267 => exact fun _ _ _ h => h
  case hw267 => rfl
  case hy267 =>
    intro W hW
    go_simp
    first | done | with_reducible rfl
  case hk267 =>
  try simp only [Act.put, List.setIfInBounds_toArray, List.set_cons_zero, List.set_cons_succ]
  refine anyK_take 14 (oi := ?oo268) ?ho268 (by kernel_rfl) (by kernel_rfl) (by kernel_rfl) (by kernel_rfl) ?hq268 ?hw268 hT1 (fun _ => trivial) (v := ?vv268) ?hy268 ?hk268
  case ho268 => (simp only [List.getElem?_toArray, List.getElem?_cons_succ, List.getElem?_cons_zero]; rfl)
  case hq268 => exact fun _ _ _ h => h
  case hw268 => rfl
  case hy268 =>
    intro W hW
    go_simp
    first | done | with_reducible rfl
  case hk268 =>
  try simp only [Act.put, List.setIfInBounds_toArray, List.set_cons_zero, List.set_cons_succ]
  refine anyK_take 15 (oi := ?oo269) ?ho269 (by kernel_rfl) (by kernel_rfl) (by kernel_rfl) (by kernel_rfl) ?hq269 ?hw269 hT1 (fun _ => trivial) (v := ?vv269) ?hy269 ?hk269
  case ho269 => (simp only [List.getElem?_toArray, List.getElem?_cons_succ, List.getElem?_cons_zero]; rfl)
  case hq269 => exact fun _ _ _ h => h
  case hw269 => rfl
  case hy269 =>
    intro W hW
    go_simp
    first | done | with_reducible rfl
  case hk269 =>
  try simp only [Act.put, List.setIfInBounds_toArray, List.set_cons_zero, List.set_cons_succ]
  refine anyK_on1 16 (by kernel_rfl) ?_
  refine anyK_one 16 (o := ?oo270) ?ho270 ?hk270
  case ho270 => (simp only [List.getElem?_toArray, List.getElem?_cons_succ, List.getElem?_cons_zero]; rfl)
  case hk270 =>
  intro K hK
  go_simp
  refine (counted_any _).mono ?_
  rintro e wc ⟨rfl, xx⟩
  try go_wp2_with fail
  replace yy := ext_trans yy xx
  have hT2 := keepK.out _ yy
  refine hK.out _ _ hT2 (fun _ => trivial) ?_
  clear hK K
  try simp only [Act.put, List.setIfInBounds_toArray, List.set_cons_zero, List.set_cons_succ]
  refine anyK_take 17 (oi := ?oo271) ?ho271 (by kernel_rfl) (by kernel_rfl) (by kernel_rfl) (by kernel_rfl) ?hq271 ?hw271 hT2 (fun _ => trivial) (v := ?vv271) ?hy271 ?hk271
  case ho271 => (simp only [List.getElem?_toArray, List.getElem?_cons_succ, List.getElem?_cons_zero]; rfl)
  case hq271 => exact fun _ _ _ h => h
  case hw271 => rfl
  case hy271 =>
    intro W hW
    go_simp
    first | done | with_reducible rfl
  case hk271 =>
  try simp only [Act.put, List.setIfInBounds_toArray, List.set_cons_zero, List.set_cons_succ]
  refine anyK_take 18 (oi := ?oo272) ?ho272 (by kernel_rfl) (by kernel_rfl) (by kernel_rfl) (by kernel_rfl) ?hq272 ?hw272 hT2 (fun _ => trivial) (v := ?vv272) ?hy272 ?hk272
  case ho272 => (simp only [List.getElem?_toArray, List.getElem?_cons_succ, List.getElem?_cons_zero]; rfl)
  case hq272 => exact fun _ _ _ h => h
  case hw272 => rfl
  case hy272 =>
    intro W hW
    go_simp
    first | done | with_reducible rfl
  case hk272 =>
  try simp only [Act.put, List.setIfInBounds_toArray, List.set_cons_zero, List.set_cons_succ]
  refine anyK_done (by kernel_rfl) ?_ _
  clear keepK hT0 hT1 hT2
  obtain ⟨hR, hP, kR, kP, X⟩ := HS0.out _ yy
  clear HS0 Q0 Q1 Q2 xx yy
  have fR := kR.cell
  have fP := kP.cell
  go_wp2_with fail
  refine (HHV.out _ _ _ hR hP).mono ?_
  rintro e w26 ⟨rfl, x⟩
  replace hR := hR.ext x
  replace hP := hP.ext x
  replace kR := kR.ext x
  replace kP := kP.ext x
  replace X := ext_trans X x
  replace fR := kR.cell
  replace fP := kP.cell
  clear x
  clear HHV
  obtain ⟨hck, d1, d2, ht, e1, e2, e3⟩ := perft_fine h0
  have HT := hide (fun W (v1 v2 : Value) (h1 : RulesAt W v1 R) (h2 : PosAt W v2 P) => PfTree_any R P v1 v2 D W h1 h2)
  have HN := hide (fun W (v1 v2 : Value) (h1 : RulesAt W v1 R) (h2 : PosAt W v2 P) => PfCount_any R P v1 v2 D W h1 h2)
  rw [e1, e2] at HT
  rw [e1, e3] at HN
  have HD := hide (fun W (v1 v2 : Value) (h1 : RulesAt W v1 R) (h2 : PosAt W v2 P) => Divide_yes R P v1 v2 D W h1 h2 h0)
  have HQ : Hid (∀ k : Nat, (k : Int) ≤ D → ∀ W (v1 v2 : Value), RulesAt W v1 R → PosAt W v2 P → Calls Try.prog 44 #[v1, v2, .int .i64 (k : Int)] W fun e w' => e = .returned (.tuple #[.int .i64 (leafM R k P), .int .i64 0]) ∧ Ext W w') := hide (fun k hk W v1 v2 h1 h2 => by
    have := PfCount_any R P v1 v2 k W h1 h2
    rw [(perft_at h0 hk).1, (perft_at h0 hk).2] at this
    exact this)
  have HSU := hide (div_sum R P D d1)
  have HCB := hide (cntS_bd (div_nonneg R P D))
  have HNB : Hid (leafM R D.toNat P ≤ treeM R D.toNat P ∧ treeM R D.toNat P ≤ 50000) := hide ⟨leaf_le _ _ _, ht⟩
  have HA0 : Hid (allS R P (D.toNat + 1) = treeM R D.toNat P) := hide (tree_sum R D.toNat P).symm
  have HAB : Hid (∀ k : Nat, (k : Int) ≤ D + 1 → 0 ≤ allS R P k ∧ allS R P k ≤ 50000) := hide (fun k hk => by
    have h1 := allS_nonneg R P k
    have h2 := allS_mono R P (show k ≤ D.toNat + 1 by omega)
    have h3 := HA0.out
    omega)
  have HLL : Hid ((divM R P D).length ≤ 1000000) := hide (by
    unfold divM movesM
    rw [List.length_map]
    obtain ⟨hV, hS⟩ := check_iff.1 hck
    split
    · exact listM_len hV hS
    · simp)
  clear e1 e2 e3 h0 hck ht
  generalize treeM R D.toNat P = T at *
  generalize leafM R D.toNat P = N at *
  generalize divM R P D = ps at *
  go_wp2_with fail
  refine (HT.out _ _ _ hR hP).mono ?_
  rintro e w27 ⟨rfl, x⟩
  replace hR := hR.ext x
  replace hP := hP.ext x
  replace kR := kR.ext x
  replace kP := kP.ext x
  replace X := ext_trans X x
  replace fR := kR.cell
  replace fP := kP.cell
  clear x
  go_wp2_with fail
  refine (HD.out _ _ _ hR hP).mono ?_
  rintro e w28 ⟨v7, rfl, own7, x⟩
  replace hR := hR.ext x
  replace hP := hP.ext x
  replace kR := kR.ext x
  replace kP := kP.ext x
  replace X := ext_trans X x
  replace fR := kR.cell
  replace fP := kP.cell
  clear x
  obtain ⟨A7, c7, rfl, hrow⟩ := own7
  have hce := (own_cells hrow).1
  clear hrow
  go_wp2_with fail
  refine (HN.out _ _ _ hR hP).mono ?_
  rintro e w29 ⟨rfl, x⟩
  replace hR := hR.ext x
  replace hP := hP.ext x
  replace kR := kR.ext x
  replace kP := kP.ext x
  replace hce := hce.ext x
  replace X := ext_trans X x
  replace fR := kR.cell
  replace fP := kP.cell
  clear x
  clear fR fP
  obtain ⟨xa, kE⟩ := blks1 w29 #[.int .i64 0, .int .i64 0, .int .i64 0] 28
  replace hR := hR.ext xa
  replace hP := hP.ext xa
  replace kR := kR.ext xa
  replace kP := kP.ext xa
  replace hce := hce.ext xa
  replace X := ext_trans X xa
  clear xa
  go_wp2_with fail
  generalize (w29.alloc (.cells #[.int .i64 0, .int .i64 0, .int .i64 0] 28)) = w30 at *
  generalize w29.heap.size = BE at *
  refine (fine_ext (fine_any (some ⟨BE, 0, none⟩) 3 3 [0, 0, 0] _ rfl (by omega) (blk_ints kE))).mono ?_
  rintro e w31 ⟨rfl, x⟩
  replace hR := hR.ext x
  replace hP := hP.ext x
  replace kR := kR.ext x
  replace kP := kP.ext x
  replace hce := hce.ext x
  replace kE := kE.ext x
  replace X := ext_trans X x
  clear x
  rw [show allZero [0, 0, 0] = true from rfl]
  clear kE
  have HCE := hide hce
  have HR := hide hR
  have HP := hide hP
  have KR := hide kR
  have KP := hide kP
  have XB := hide X
  have hll := HLL.out
  clear hce hR hP kR kP X HT HD HN
  go_wp2
  go_loopw [15, 111] (fun s i wr => ∃ k : Nat, k ≤ ps.length ∧ i = .int .i64 k ∧ s = .int .i64 (cntS ps k) ∧ Ext w31 wr) (fun _ i _ => ps.length - (intOf i).toNat)
  case atStart => exact ⟨0, Nat.zero_le _, rfl, rfl, Below.refl _ _⟩
  case round =>
    obtain ⟨k, hk, rfl, rfl, xr⟩ := hrel
    by_cases hlt : k < ps.length
    · obtain ⟨p, hp⟩ : ∃ p, ps[k]? = some p := ⟨ps[k], List.getElem?_eq_getElem _⟩
      obtain ⟨b, o, rfl, m0, m1, m2, m3⟩ := parts_get (HCE.out.ext xr) hp
      have HCS := hide (cntS_succ hp)
      have b1 := HCB.out (k + 1)
      rw [HCS.out] at b1
      have b2 := HNB.out
      have b3 := HSU.out
      have hw : IntKind.i64.wrap (cntS ps k + p.2) = cntS ps k + p.2 := by rw [IntKind.wrap_i64]; omega
      have XR := hide xr
      clear hp xr b1 b2 b3
      generalize cntS ps k = s at *
      go_upto_region 15 with fail
      obtain ⟨x5, k5⟩ := blks1 wr #[.int .i64 p.1.src, .int .i64 p.1.dst, .int .i64 p.1.piece, .int .i64 p.2] 71
      have X5 := hide (ext_trans XR.out x5)
      have kc := k5.cell
      clear x5 k5 m0 m1 m2 m3 XR
      generalize wr.alloc (.cells #[.int .i64 p.1.src, .int .i64 p.1.dst, .int .i64 p.1.piece, .int .i64 p.2] 71) = w9 at *
      generalize wr.heap.size = B9 at *
      go_wp2
      go_roundw
      case rel => exact ⟨k + 1, by omega, by go_num, by rw [HCS.out], X5.out⟩
      case measure => simp [intOf]; omega
    · obtain rfl : k = ps.length := by omega
      have HSN : Hid (cntS ps ps.length = N) := hide (by unfold cntS; rw [List.take_length]; exact HSU.out)
      rw [HSN.out]
      have XR := hide xr
      clear xr hk hlt hll
      generalize wr = ws at *
      have hwD : IntKind.i64.wrap (D + 1) = D + 1 := by rw [IntKind.wrap_i64]; omega
      go_wp2
      go_loopw [18, 122] (fun s i wr => ∃ k : Nat, (k : Int) ≤ D + 1 ∧ i = .int .i64 k ∧ s = .int .i64 (allS R P k) ∧ Ext ws wr) (fun _ i _ => (D + 1).toNat - (intOf i).toNat)
      case atStart => exact ⟨0, by omega, rfl, rfl, Below.refl _ _⟩
      case round =>
        obtain ⟨k, hk, rfl, rfl, xr⟩ := hrel
        by_cases hlt : (k : Int) < D + 1
        · have b1 := HAB.out (k + 1) (by omega)
          have HAS := hide (allS_succ R P k)
          rw [HAS.out] at b1
          have HQ2 := hide (HQ.out k (by omega))
          have hw : IntKind.i64.wrap (allS R P k + leafM R k P) = allS R P k + leafM R k P := by rw [IntKind.wrap_i64]; omega
          have XQ := hide xr
          have f1 := (KR.out.ext (ext_trans XR.out xr)).cell
          have f2 := (KP.out.ext (ext_trans XR.out xr)).cell
          clear xr b1
          generalize allS R P k = s at *
          generalize leafM R k P = l at *
          go_wp2_with fail
          refine (HQ2.out _ _ _ (HR.out.ext (ext_trans XR.out XQ.out)) (HP.out.ext (ext_trans XR.out XQ.out))).mono ?_
          rintro e wq ⟨rfl, xq⟩
          have X5 := hide (ext_trans XQ.out xq)
          clear xq f1 f2
          go_wp2
          go_roundw
          case rel => exact ⟨k + 1, by omega, by go_num, by rw [HAS.out], X5.out⟩
          case measure => simp [intOf]; omega
        · obtain rfl : k = D.toNat + 1 := by omega
          rw [HA0.out]
          have XQ := hide xr
          clear xr hk hlt hwD
          go_wp2
          go_ret
          exact ⟨by simp, ext_trans XB.out (ext_trans XR.out XQ.out)⟩
theorem perftParts_law (v : Value) (R : RulesM) (u : Value) (P : PosM) (D : Int) (w : World) (hR : RulesAt w v R) (hP : PosAt w u P) :
    Calls Try.prog 12 #[v, u, .int .i64 D] w fun e w' => e = .returned (.bool true) ∧ Ext w w' := by
  cases hh : heavyB R P D
  · by_cases h0 : divE R P D = 0
    · exact perftParts_fine R P v u D w hR hP hh h0
    · exact perftParts_bad R P v u D w hR hP hh h0
  · exact perftParts_heavy R P v u D w hR hP hh

end Go.Proofs.Ytcfiannlpkofpaa
