/- Walk: the law DeepenAgrees. -/
import Derived.Test.YtmofipijjokjfaaScored
import Derived.Test.YtmofipijjokjfaaDeepen
import Derived.Test.YtmofipijjokjfaaGPerft
namespace Go.Proofs.Ytmofipijjokjfaa
open Go.ChangeShapes Go.WideShapes Go.ChangeAt Go.RowKit Go.Shelf
set_option linter.unusedVariables false
set_option linter.unusedSimpArgs false
theorem near_deep : deepX threeR nearP 1 50 = ((⟨-1, 2, 0⟩, 999), 1, 6) ∧ deepE threeR nearP 1 50 = 0 := by decide +kernel
theorem deep_zero {R : RulesM} {P : PosM} {D b : Int} (h : deepE R P D b = 0) : 1 ≤ ((deepN R P D b : Nat) : Int) ∧ ((deepN R P D b : Nat) : Int) ≤ D ∧ (perftE R P ((deepN R P D b : Nat) : Int) = 0 ∧ D ≤ 12) ∧ perftN R P ((deepN R P D b : Nat) : Int) ≤ b ∧
    (bestY R P ((deepN R P D b : Nat) : Int) = firstM R (deepN R P D b - 1) P ∧ bestE R P ((deepN R P D b : Nat) : Int) = 0) ∧
    (((deepN R P D b : Nat) : Int) = D ∨ perftE R P (((deepN R P D b : Nat) : Int) + 1) ≠ 0 ∨ b < perftN R P (((deepN R P D b : Nat) : Int) + 1)) ∧
    deepX R P D b = (firstM R (deepN R P D b - 1) P, ((deepN R P D b : Nat) : Int), perftN R P ((deepN R P D b : Nat) : Int)) := by
  by_cases hc : checkE R P = 0
  · by_cases hd : D < 1 ∨ 12 < D
    · exact absurd h (by rw [(deep2 hc hd).1]; decide)
    · by_cases hb : b < 1 ∨ 50000 < b
      · exact absurd h (by rw [(deep3 hc hd hb).1]; decide)
      · by_cases hr : resultM R P = 0
        · by_cases hn : deepN R P D b = 0
          · exact absurd h (by rw [(deep5 hc hd hb hr hn).1]; decide)
          · have s : _ ∧ _ ∧ _ ∧ _ := runN_spec (okD R P b) D.toNat 0
            rw [show runN (okD R P b) D.toNat 0 = deepN R P D b from rfl] at s
            obtain ⟨-, s2, s3, s4⟩ := s
            have ok := s3 _ (show 0 < deepN R P D b by omega) (Nat.le_refl _)
            unfold okD at ok
            rw [Bool.and_eq_true, beq_iff_eq, decide_eq_true_eq] at ok
            have hne : ((deepN R P D b : Nat) : Int) ≠ 0 := by omega
            have hb4 := bestE_four ok.1 hne hr
            refine ⟨by omega, by omega, ⟨ok.1, by omega⟩, ok.2, ⟨hb4.2, hb4.1⟩, ?_, (deep6 hc hd hb hr hn).2⟩
            rcases s4 with s4 | s4
            · exact .inl (by omega)
            · unfold okD at s4
              rw [Bool.and_eq_false_iff, beq_eq_false_iff_ne, decide_eq_false_iff_not] at s4
              push_cast at s4
              exact .inr (s4.imp id (fun h => by omega))
        · exact absurd h (by rw [(deep4 hc hd hb hr).1]; decide)
  · exact absurd h (by rw [(deep1 hc).1]; exact hc)
set_option maxHeartbeats 4000000 in
set_option maxRecDepth 100000 in
theorem deepenAgrees_h1 (R : RulesM) (P : PosM) (v u : Value) (D b : Int) (w : World) (hR : RulesAt w v R) (hP : PosAt w u P) (hh : heavyB R P D = true) :
    Calls Try.prog 11 #[v, u, .int .i64 D, .int .i64 b] w fun e w' => e = .returned (.bool true) ∧ Ext w w' := by
  have HHV := hide (fun W (v1 v2 : Value) (h1 : RulesAt W v1 R) (h2 : PosAt W v2 P) => heavy_any R P v1 v2 D W h1 h2)
  rw [hh] at HHV
  clear hh
  have HDN := hide (fun W (v1 v2 : Value) (h1 : RulesAt W v1 threeR) (h2 : PosAt W v2 nearP) => Deepen_any threeR nearP v1 v2 1 50 W h1 h2)
  rw [near_deep.1, near_deep.2] at HDN
  have hR0 := hR
  have hP0 := hP
  obtain ⟨pA, pc, sA, sc, eA, ec, rfl, -⟩ := hR0
  obtain ⟨cA, cc, aA, ac, bA, bc, rfl, -⟩ := hP0
  go_enter Try.func11, Try.ntmps11
  go_wp2_with fail
  obtain ⟨xa, kR, kP⟩ := blks2 w #[.string R.name, .int .i64 R.width, .int .i64 R.height, .slice pA R.pieces.length pc, .slice sA R.start.length sc, .bool R.falls, .bool R.keeps, .slice eA R.ends.length ec, .int .i64 R.blocked, .int .i64 R.quiet, .int .i64 R.rept] 26 #[.slice cA P.cells.length cc, .slice aA P.hand0.length ac, .slice bA P.hand1.length bc, .int .i64 P.turn, .int .i64 P.quiet] 29
  replace hR := hR.ext xa
  replace hP := hP.ext xa
  have X := xa
  clear xa
  generalize ((w.alloc (.cells #[.string R.name, .int .i64 R.width, .int .i64 R.height, .slice pA R.pieces.length pc, .slice sA R.start.length sc, .bool R.falls, .bool R.keeps, .slice eA R.ends.length ec, .int .i64 R.blocked, .int .i64 R.quiet, .int .i64 R.rept] 26)).alloc (.cells #[.slice cA P.cells.length cc, .slice aA P.hand0.length ac, .slice bA P.hand1.length bc, .int .i64 P.turn, .int .i64 P.quiet] 29)) = w2 at *
  generalize w.heap.size + 1 = BP at *
  generalize w.heap.size = BR at *
  refine (three_any _).mono ?_
  rintro e w3 ⟨v1, rfl, h1, x⟩
  replace hR := hR.ext x
  replace hP := hP.ext x
  replace kR := kR.ext x
  replace kP := kP.ext x
  replace X := ext_trans X x
  clear x
  go_wp2_with fail
  refine (near_any _).mono ?_
  rintro e w4 ⟨v2, rfl, h2, x⟩
  replace hR := hR.ext x
  replace hP := hP.ext x
  replace kR := kR.ext x
  replace kP := kP.ext x
  replace h1 := h1.ext x
  replace X := ext_trans X x
  clear x
  replace h2 := h2.at_
  go_wp2_with fail
  refine (HDN.out _ _ _ h1 h2).mono ?_
  rintro e w5 ⟨rfl, x⟩
  replace hR := hR.ext x
  replace hP := hP.ext x
  replace kR := kR.ext x
  replace kP := kP.ext x
  replace h1 := h1.ext x
  replace h2 := h2.ext x
  replace X := ext_trans X x
  clear x
  clear h1 h2
  clear HDN
  obtain ⟨xa, kX⟩ := blks1 w5 #[.int .i64 (-1), .int .i64 2, .int .i64 0, .int .i64 999, .int .i64 1, .int .i64 6] 62
  replace hR := hR.ext xa
  replace hP := hP.ext xa
  replace kR := kR.ext xa
  replace kP := kP.ext xa
  replace X := ext_trans X xa
  clear xa
  go_upto_region 2 with fail
  generalize (w5.alloc (.cells #[.int .i64 (-1), .int .i64 2, .int .i64 0, .int .i64 999, .int .i64 1, .int .i64 6] 62)) = w6 at *
  generalize w5.heap.size = BX at *
  have KX := hide kX
  clear kX
  have HS0 := hide (fun W (h : Ext w6 W) => And.intro (hR.ext h) ( And.intro (hP.ext h) ( And.intro (kR.ext h) ( And.intro (kP.ext h) (ext_trans X h)))))
  clear X hR hP kR kP
  have keepK := hide (fun W (h : Ext w6 W) => (show (fun W => W.cell? ⟨BX, 0, none⟩ = some (.int .i64 (-1)) ∧ W.cell? ⟨BX, 1, none⟩ = some (.int .i64 2) ∧ W.cell? ⟨BX, 2, none⟩ = some (.int .i64 0) ∧ W.cell? ⟨BX, 3, none⟩ = some (.int .i64 999) ∧ W.cell? ⟨BX, 4, none⟩ = some (.int .i64 1) ∧ W.cell? ⟨BX, 5, none⟩ = some (.int .i64 6) ∧ Ext w6 W) W from ⟨(KX.out.ext h).cell 0, (KX.out.ext h).cell 1, (KX.out.ext h).cell 2, (KX.out.ext h).cell 3, (KX.out.ext h).cell 4, (KX.out.ext h).cell 5, h⟩))
  have yy : Ext w6 w6.drew := Below.drew (Below.refl _ _)
  refine region_K (fun W => W.cell? ⟨BX, 0, none⟩ = some (.int .i64 (-1)) ∧ W.cell? ⟨BX, 1, none⟩ = some (.int .i64 2) ∧ W.cell? ⟨BX, 2, none⟩ = some (.int .i64 0) ∧ W.cell? ⟨BX, 3, none⟩ = some (.int .i64 999) ∧ W.cell? ⟨BX, 4, none⟩ = some (.int .i64 1) ∧ W.cell? ⟨BX, 5, none⟩ = some (.int .i64 6) ∧ Ext w6 W) (fun _ => True) [] (by kernel_rfl) ?_
  have hT0 := keepK.out _ yy
  refine anyK_take 0 (oi := ?oo1) ?ho1 (by kernel_rfl) (by kernel_rfl) (by kernel_rfl) (by kernel_rfl) ?hq1 ?hw1 hT0 (fun _ => trivial) (v := ?vv1) ?hy1 ?hk1
  case ho1 => (simp only [List.getElem?_toArray, List.getElem?_cons_succ, List.getElem?_cons_zero]; rfl)
  case hq1 => exact fun _ _ _ h => h
  case hw1 => rfl
  case hy1 =>
    intro W hW
    go_simp
    first | done | with_reducible rfl
  case hk1 =>
  try simp only [Act.put, List.setIfInBounds_toArray, List.set_cons_zero, List.set_cons_succ]
  refine anyK_take 1 (oi := ?oo2) ?ho2 (by kernel_rfl) (by kernel_rfl) (by kernel_rfl) (by kernel_rfl) ?hq2 ?hw2 hT0 (fun _ => trivial) (v := ?vv2) ?hy2 ?hk2
  case ho2 => (simp only [List.getElem?_toArray, List.getElem?_cons_succ, List.getElem?_cons_zero]; rfl)
  case hq2 => exact fun _ _ _ h => h
  case hw2 => rfl
  case hy2 =>
    intro W hW
    go_simp
    first | done | with_reducible rfl
  case hk2 =>
  try simp only [Act.put, List.setIfInBounds_toArray, List.set_cons_zero, List.set_cons_succ]
  refine anyK_take 2 (oi := ?oo3) ?ho3 (by kernel_rfl) (by kernel_rfl) (by kernel_rfl) (by kernel_rfl) ?hq3 ?hw3 hT0 (fun _ => trivial) (v := ?vv3) ?hy3 ?hk3
  case ho3 => (simp only [List.getElem?_toArray, List.getElem?_cons_succ, List.getElem?_cons_zero]; rfl)
  case hq3 => exact fun _ _ _ h => h
  case hw3 => rfl
  case hy3 =>
    intro W hW
    go_simp
    first | done | with_reducible rfl
  case hk3 =>
  try simp only [Act.put, List.setIfInBounds_toArray, List.set_cons_zero, List.set_cons_succ]
  refine anyK_take 3 (oi := ?oo4) ?ho4 (by kernel_rfl) (by kernel_rfl) (by kernel_rfl) (by kernel_rfl) ?hq4 ?hw4 hT0 (fun _ => trivial) (v := ?vv4) ?hy4 ?hk4
  case ho4 => (simp only [List.getElem?_toArray, List.getElem?_cons_succ, List.getElem?_cons_zero]; rfl)
  case hq4 => exact fun _ _ _ h => h
  case hw4 => rfl
  case hy4 =>
    intro W hW
    go_simp
    first | done | with_reducible rfl
  case hk4 =>
  try simp only [Act.put, List.setIfInBounds_toArray, List.set_cons_zero, List.set_cons_succ]
  refine anyK_take 4 (oi := ?oo5) ?ho5 (by kernel_rfl) (by kernel_rfl) (by kernel_rfl) (by kernel_rfl) ?hq5 ?hw5 hT0 (fun _ => trivial) (v := ?vv5) ?hy5 ?hk5
  case ho5 => (simp only [List.getElem?_toArray, List.getElem?_cons_succ, List.getElem?_cons_zero]; rfl)
  case hq5 => exact fun _ _ _ h => h
  case hw5 => rfl
  case hy5 =>
    intro W hW
    obtain ⟨z0, z1, z2, z3, z4, z5, z6⟩ := hW
    go_simp
    first | done | with_reducible rfl
  case hk5 =>
  try simp only [Act.put, List.setIfInBounds_toArray, List.set_cons_zero, List.set_cons_succ]
  refine anyK_on1 5 (by kernel_rfl) ?_
  refine anyK_one 5 (o := ?oo6) ?ho6 ?hk6
  case ho6 => (simp only [List.getElem?_toArray, List.getElem?_cons_succ, List.getElem?_cons_zero]; rfl)
  case hk6 =>
  intro K hK
  go_simp
  refine (put_any 2 _).mono ?_
  rintro e wp ⟨rfl, xx⟩
  try go_wp2_with fail
  replace yy := ext_trans yy xx
  have hT1 := keepK.out _ yy
  refine hK.out _ _ hT1 (fun _ => trivial) ?_
  clear hK K
  try simp only [Act.put, List.setIfInBounds_toArray, List.set_cons_zero, List.set_cons_succ]
  refine anyK_take 6 (oi := ?oo7) ?ho7 (by kernel_rfl) (by kernel_rfl) (by kernel_rfl) (by kernel_rfl) ?hq7 ?hw7 hT1 (fun _ => trivial) (v := ?vv7) ?hy7 ?hk7
  case ho7 => (simp only [List.getElem?_toArray, List.getElem?_cons_succ, List.getElem?_cons_zero]; rfl)
  case hq7 => exact fun _ _ _ h => h
  case hw7 => rfl
  case hy7 =>
    intro W hW
    go_simp
    first | done | with_reducible rfl
  case hk7 =>
  try simp only [Act.put, List.setIfInBounds_toArray, List.set_cons_zero, List.set_cons_succ]
  refine anyK_take 7 (oi := ?oo8) ?ho8 (by kernel_rfl) (by kernel_rfl) (by kernel_rfl) (by kernel_rfl) ?hq8 ?hw8 hT1 (fun _ => trivial) (v := ?vv8) ?hy8 ?hk8
  case ho8 => (simp only [List.getElem?_toArray, List.getElem?_cons_succ, List.getElem?_cons_zero]; rfl)
  case hq8 => exact fun _ _ _ h => h
  case hw8 => rfl
  case hy8 =>
    intro W hW
    go_simp
    first | done | with_reducible rfl
  case hk8 =>
  try simp only [Act.put, List.setIfInBounds_toArray, List.set_cons_zero, List.set_cons_succ]
  refine anyK_take 8 (oi := ?oo9) ?ho9 (by kernel_rfl) (by kernel_rfl) (by kernel_rfl) (by kernel_rfl) ?hq9 ?hw9 hT1 (fun _ => trivial) (v := ?vv9) ?hy9 ?hk9
  case ho9 => (simp only [List.getElem?_toArray, List.getElem?_cons_succ, List.getElem?_cons_zero]; rfl)
  case hq9 => exact fun _ _ _ h => h
  case hw9 => rfl
  case hy9 =>
    intro W hW
    go_simp
    first | done | with_reducible rfl
  case hk9 =>
  try simp only [Act.put, List.setIfInBounds_toArray, List.set_cons_zero, List.set_cons_succ]
  refine anyK_take 9 (oi := ?oo10) ?ho10 (by kernel_rfl) (by kernel_rfl) (by kernel_rfl) (by kernel_rfl) ?hq10 ?hw10 hT1 (fun _ => trivial) (v := ?vv10) ?hy10 ?hk10
  case ho10 => (simp only [List.getElem?_toArray, List.getElem?_cons_succ, List.getElem?_cons_zero]; rfl)
  case hq10 => exact fun _ _ _ h => h
  case hw10 => rfl
  case hy10 =>
    intro W hW
    go_simp
    first | done | with_reducible rfl
  case hk10 =>
  try simp only [Act.put, List.setIfInBounds_toArray, List.set_cons_zero, List.set_cons_succ]
  refine anyK_take 10 (oi := ?oo11) ?ho11 (by kernel_rfl) (by kernel_rfl) (by kernel_rfl) (by kernel_rfl) ?hq11 ?hw11 hT1 (fun _ => trivial) (v := ?vv11) ?hy11 ?hk11
  case ho11 => (simp only [List.getElem?_toArray, List.getElem?_cons_succ, List.getElem?_cons_zero]; rfl)
  case hq11 => exact fun _ _ _ h => h
  case hw11 => rfl
  case hy11 =>
    intro W hW
    obtain ⟨z0, z1, z2, z3, z4, z5, z6⟩ := hW
    go_simp
    first | done | with_reducible rfl
  case hk11 =>
  try simp only [Act.put, List.setIfInBounds_toArray, List.set_cons_zero, List.set_cons_succ]
  refine anyK_take 11 (oi := ?oo12) ?ho12 (by kernel_rfl) (by kernel_rfl) (by kernel_rfl) (by kernel_rfl) ?hq12 ?hw12 hT1 (fun _ => trivial) (v := ?vv12) ?hy12 ?hk12
  case ho12 => (simp only [List.getElem?_toArray, List.getElem?_cons_succ, List.getElem?_cons_zero]; rfl)
  case hq12 => exact fun _ _ _ h => h
  case hw12 => rfl
  case hy12 =>
    intro W hW
    go_simp
    first | done | with_reducible rfl
  case hk12 =>
  try simp only [Act.put, List.setIfInBounds_toArray, List.set_cons_zero, List.set_cons_succ]
  refine anyK_take 12 (oi := ?oo13) ?ho13 (by kernel_rfl) (by kernel_rfl) (by kernel_rfl) (by kernel_rfl) ?hq13 ?hw13 hT1 (fun _ => trivial) (v := ?vv13) ?hy13 ?hk13
  case ho13 => (simp only [List.getElem?_toArray, List.getElem?_cons_succ, List.getElem?_cons_zero]; rfl)
  case hq13 => exact fun _ _ _ h => h
  case hw13 => rfl
  case hy13 =>
    intro W hW
    go_simp
    first | done | with_reducible rfl
  case hk13 =>
  try simp only [Act.put, List.setIfInBounds_toArray, List.set_cons_zero, List.set_cons_succ]
  refine anyK_take 13 (oi := ?oo14) ?ho14 (by kernel_rfl) (by kernel_rfl) (by kernel_rfl) (by kernel_rfl) ?hq14 ?hw14 hT1 (fun _ => trivial) (v := ?vv14) ?hy14 ?hk14
  case ho14 => (simp only [List.getElem?_toArray, List.getElem?_cons_succ, List.getElem?_cons_zero]; rfl)
  case hq14 => exact fun _ _ _ h => h
  case hw14 => rfl
  case hy14 =>
    intro W hW
    go_simp
    first | done | with_reducible rfl
  case hk14 =>
  try simp only [Act.put, List.setIfInBounds_toArray, List.set_cons_zero, List.set_cons_succ]
  refine anyK_on1 14 (by kernel_rfl) ?_
  refine anyK_one 14 (o := ?oo15) ?ho15 ?hk15
  case ho15 => (simp only [List.getElem?_toArray, List.getElem?_cons_succ, List.getElem?_cons_zero]; rfl)
  case hk15 =>
  intro K hK
  go_simp
  refine (scored_any _).mono ?_
  rintro e wq ⟨rfl, xx⟩
  try go_wp2_with fail
  replace yy := ext_trans yy xx
  have hT2 := keepK.out _ yy
  refine hK.out _ _ hT2 (fun _ => trivial) ?_
  clear hK K
  try simp only [Act.put, List.setIfInBounds_toArray, List.set_cons_zero, List.set_cons_succ]
  refine anyK_take 15 (oi := ?oo16) ?ho16 (by kernel_rfl) (by kernel_rfl) (by kernel_rfl) (by kernel_rfl) ?hq16 ?hw16 hT2 (fun _ => trivial) (v := ?vv16) ?hy16 ?hk16
  case ho16 => (simp only [List.getElem?_toArray, List.getElem?_cons_succ, List.getElem?_cons_zero]; rfl)
  case hq16 => exact fun _ _ _ h => h
  case hw16 => rfl
  case hy16 =>
    intro W hW
    go_simp
    first | done | with_reducible rfl
  case hk16 =>
  try simp only [Act.put, List.setIfInBounds_toArray, List.set_cons_zero, List.set_cons_succ]
  refine anyK_take 16 (oi := ?oo17) ?ho17 (by kernel_rfl) (by kernel_rfl) (by kernel_rfl) (by kernel_rfl) ?hq17 ?hw17 hT2 (fun _ => trivial) (v := ?vv17) ?hy17 ?hk17
  case ho17 => (simp only [List.getElem?_toArray, List.getElem?_cons_succ, List.getElem?_cons_zero]; rfl)
  case hq17 => exact fun _ _ _ h => h
  case hw17 => rfl
  case hy17 =>
    intro W hW
    go_simp
    first | done | with_reducible rfl
  case hk17 =>
  try simp only [Act.put, List.setIfInBounds_toArray, List.set_cons_zero, List.set_cons_succ]
  refine anyK_take 17 (oi := ?oo18) ?ho18 (by kernel_rfl) (by kernel_rfl) (by kernel_rfl) (by kernel_rfl) ?hq18 ?hw18 hT2 (fun _ => trivial) (v := ?vv18) ?hy18 ?hk18
  case ho18 => (simp only [List.getElem?_toArray, List.getElem?_cons_succ, List.getElem?_cons_zero]; rfl)
  case hq18 => exact fun _ _ _ h => h
  case hw18 => rfl
  case hy18 =>
    intro W hW
    go_simp
    first | done | with_reducible rfl
  case hk18 =>
  try simp only [Act.put, List.setIfInBounds_toArray, List.set_cons_zero, List.set_cons_succ]
  refine anyK_on1 18 (by kernel_rfl) ?_
  refine anyK_one 18 (o := ?oo19) ?ho19 ?hk19
  case ho19 => (simp only [List.getElem?_toArray, List.getElem?_cons_succ, List.getElem?_cons_zero]; rfl)
  case hk19 =>
  intro K hK
  go_simp
  refine (counted_any _).mono ?_
  rintro e wc ⟨rfl, xx⟩
  try go_wp2_with fail
  replace yy := ext_trans yy xx
  have hT3 := keepK.out _ yy
  refine hK.out _ _ hT3 (fun _ => trivial) ?_
  clear hK K
  try simp only [Act.put, List.setIfInBounds_toArray, List.set_cons_zero, List.set_cons_succ]
  refine anyK_take 19 (oi := ?oo20) ?ho20 (by kernel_rfl) (by kernel_rfl) (by kernel_rfl) (by kernel_rfl) ?hq20 ?hw20 hT3 (fun _ => trivial) (v := ?vv20) ?hy20 ?hk20
  case ho20 => (simp only [List.getElem?_toArray, List.getElem?_cons_succ, List.getElem?_cons_zero]; rfl)
  case hq20 => exact fun _ _ _ h => h
  case hw20 => rfl
  case hy20 =>
    intro W hW
    go_simp
    first | done | with_reducible rfl
  case hk20 =>
  try simp only [Act.put, List.setIfInBounds_toArray, List.set_cons_zero, List.set_cons_succ]
  refine anyK_take 20 (oi := ?oo21) ?ho21 (by kernel_rfl) (by kernel_rfl) (by kernel_rfl) (by kernel_rfl) ?hq21 ?hw21 hT3 (fun _ => trivial) (v := ?vv21) ?hy21 ?hk21
  case ho21 => (simp only [List.getElem?_toArray, List.getElem?_cons_succ, List.getElem?_cons_zero]; rfl)
  case hq21 => exact fun _ _ _ h => h
  case hw21 => rfl
  case hy21 =>
    intro W hW
    go_simp
    first | done | with_reducible rfl
  case hk21 =>
  try simp only [Act.put, List.setIfInBounds_toArray, List.set_cons_zero, List.set_cons_succ]
  refine anyK_done (by kernel_rfl) ?_ _
  clear keepK hT0 hT1 hT2 hT3
  obtain ⟨hR, hP, kR, kP, X⟩ := HS0.out _ yy
  clear HS0 KX xx yy
  have fR := kR.cell
  have fP := kP.cell
  go_wp2_with fail
  refine (HHV.out _ _ _ hR hP).mono ?_
  rintro e w27 ⟨rfl, x⟩
  replace hR := hR.ext x
  replace hP := hP.ext x
  replace kR := kR.ext x
  replace kP := kP.ext x
  replace X := ext_trans X x
  replace fR := kR.cell
  replace fP := kP.cell
  clear x
  clear HHV
  clear fR fP
  go_wp2
  all_goals go_ret
  all_goals exact ⟨by first | rfl | simp, X⟩
set_option maxHeartbeats 4000000 in
set_option maxRecDepth 100000 in
theorem deepenAgrees_bad (R : RulesM) (P : PosM) (v u : Value) (D b : Int) (w : World) (hR : RulesAt w v R) (hP : PosAt w u P) (hh : heavyB R P D = false) (he : deepE R P D b ≠ 0) :
    Calls Try.prog 11 #[v, u, .int .i64 D, .int .i64 b] w fun e w' => e = .returned (.bool true) ∧ Ext w w' := by
  have HHV := hide (fun W (v1 v2 : Value) (h1 : RulesAt W v1 R) (h2 : PosAt W v2 P) => heavy_any R P v1 v2 D W h1 h2)
  rw [hh] at HHV
  clear hh
  have HDN := hide (fun W (v1 v2 : Value) (h1 : RulesAt W v1 threeR) (h2 : PosAt W v2 nearP) => Deepen_any threeR nearP v1 v2 1 50 W h1 h2)
  rw [near_deep.1, near_deep.2] at HDN
  have HB := hide (fun W (v1 v2 : Value) (h1 : RulesAt W v1 R) (h2 : PosAt W v2 P) => Deepen_any R P v1 v2 D b W h1 h2)
  rw [show deepX R P D b = ((⟨0, 0, 0⟩, 0), 0, 0) from if_neg he] at HB
  have t0 : (deepE R P D b != 0) = true := by simpa using he
  clear he
  generalize deepE R P D b = E at *
  have hR0 := hR
  have hP0 := hP
  obtain ⟨pA, pc, sA, sc, eA, ec, rfl, -⟩ := hR0
  obtain ⟨cA, cc, aA, ac, bA, bc, rfl, -⟩ := hP0
  go_enter Try.func11, Try.ntmps11
  go_wp2_with fail
  obtain ⟨xa, kR, kP⟩ := blks2 w #[.string R.name, .int .i64 R.width, .int .i64 R.height, .slice pA R.pieces.length pc, .slice sA R.start.length sc, .bool R.falls, .bool R.keeps, .slice eA R.ends.length ec, .int .i64 R.blocked, .int .i64 R.quiet, .int .i64 R.rept] 26 #[.slice cA P.cells.length cc, .slice aA P.hand0.length ac, .slice bA P.hand1.length bc, .int .i64 P.turn, .int .i64 P.quiet] 29
  replace hR := hR.ext xa
  replace hP := hP.ext xa
  have X := xa
  clear xa
  generalize ((w.alloc (.cells #[.string R.name, .int .i64 R.width, .int .i64 R.height, .slice pA R.pieces.length pc, .slice sA R.start.length sc, .bool R.falls, .bool R.keeps, .slice eA R.ends.length ec, .int .i64 R.blocked, .int .i64 R.quiet, .int .i64 R.rept] 26)).alloc (.cells #[.slice cA P.cells.length cc, .slice aA P.hand0.length ac, .slice bA P.hand1.length bc, .int .i64 P.turn, .int .i64 P.quiet] 29)) = w2 at *
  generalize w.heap.size + 1 = BP at *
  generalize w.heap.size = BR at *
  refine (three_any _).mono ?_
  rintro e w3 ⟨v1, rfl, h1, x⟩
  replace hR := hR.ext x
  replace hP := hP.ext x
  replace kR := kR.ext x
  replace kP := kP.ext x
  replace X := ext_trans X x
  clear x
  go_wp2_with fail
  refine (near_any _).mono ?_
  rintro e w4 ⟨v2, rfl, h2, x⟩
  replace hR := hR.ext x
  replace hP := hP.ext x
  replace kR := kR.ext x
  replace kP := kP.ext x
  replace h1 := h1.ext x
  replace X := ext_trans X x
  clear x
  replace h2 := h2.at_
  go_wp2_with fail
  refine (HDN.out _ _ _ h1 h2).mono ?_
  rintro e w5 ⟨rfl, x⟩
  replace hR := hR.ext x
  replace hP := hP.ext x
  replace kR := kR.ext x
  replace kP := kP.ext x
  replace h1 := h1.ext x
  replace h2 := h2.ext x
  replace X := ext_trans X x
  clear x
  clear h1 h2
  clear HDN
  obtain ⟨xa, kX⟩ := blks1 w5 #[.int .i64 (-1), .int .i64 2, .int .i64 0, .int .i64 999, .int .i64 1, .int .i64 6] 62
  replace hR := hR.ext xa
  replace hP := hP.ext xa
  replace kR := kR.ext xa
  replace kP := kP.ext xa
  replace X := ext_trans X xa
  clear xa
  go_upto_region 2 with fail
  generalize (w5.alloc (.cells #[.int .i64 (-1), .int .i64 2, .int .i64 0, .int .i64 999, .int .i64 1, .int .i64 6] 62)) = w6 at *
  generalize w5.heap.size = BX at *
  have KX := hide kX
  clear kX
  have HS0 := hide (fun W (h : Ext w6 W) => And.intro (hR.ext h) ( And.intro (hP.ext h) ( And.intro (kR.ext h) ( And.intro (kP.ext h) (ext_trans X h)))))
  clear X hR hP kR kP
  have keepK := hide (fun W (h : Ext w6 W) => (show (fun W => W.cell? ⟨BX, 0, none⟩ = some (.int .i64 (-1)) ∧ W.cell? ⟨BX, 1, none⟩ = some (.int .i64 2) ∧ W.cell? ⟨BX, 2, none⟩ = some (.int .i64 0) ∧ W.cell? ⟨BX, 3, none⟩ = some (.int .i64 999) ∧ W.cell? ⟨BX, 4, none⟩ = some (.int .i64 1) ∧ W.cell? ⟨BX, 5, none⟩ = some (.int .i64 6) ∧ Ext w6 W) W from ⟨(KX.out.ext h).cell 0, (KX.out.ext h).cell 1, (KX.out.ext h).cell 2, (KX.out.ext h).cell 3, (KX.out.ext h).cell 4, (KX.out.ext h).cell 5, h⟩))
  have yy : Ext w6 w6.drew := Below.drew (Below.refl _ _)
  refine region_K (fun W => W.cell? ⟨BX, 0, none⟩ = some (.int .i64 (-1)) ∧ W.cell? ⟨BX, 1, none⟩ = some (.int .i64 2) ∧ W.cell? ⟨BX, 2, none⟩ = some (.int .i64 0) ∧ W.cell? ⟨BX, 3, none⟩ = some (.int .i64 999) ∧ W.cell? ⟨BX, 4, none⟩ = some (.int .i64 1) ∧ W.cell? ⟨BX, 5, none⟩ = some (.int .i64 6) ∧ Ext w6 W) (fun _ => True) [] (by kernel_rfl) ?_
  have hT0 := keepK.out _ yy
  refine anyK_take 0 (oi := ?oo22) ?ho22 (by kernel_rfl) (by kernel_rfl) (by kernel_rfl) (by kernel_rfl) ?hq22 ?hw22 hT0 (fun _ => trivial) (v := ?vv22) ?hy22 ?hk22
  case ho22 => (simp only [List.getElem?_toArray, List.getElem?_cons_succ, List.getElem?_cons_zero]; rfl)
  case hq22 => exact fun _ _ _ h => h
  case hw22 => rfl
  case hy22 =>
    intro W hW
    go_simp
    first | done | with_reducible rfl
  case hk22 =>
  try simp only [Act.put, List.setIfInBounds_toArray, List.set_cons_zero, List.set_cons_succ]
  refine anyK_take 1 (oi := ?oo23) ?ho23 (by kernel_rfl) (by kernel_rfl) (by kernel_rfl) (by kernel_rfl) ?hq23 ?hw23 hT0 (fun _ => trivial) (v := ?vv23) ?hy23 ?hk23
  case ho23 => (simp only [List.getElem?_toArray, List.getElem?_cons_succ, List.getElem?_cons_zero]; rfl)
  case hq23 => exact fun _ _ _ h => h
  case hw23 => rfl
  case hy23 =>
    intro W hW
    go_simp
    first | done | with_reducible rfl
  case hk23 =>
  try simp only [Act.put, List.setIfInBounds_toArray, List.set_cons_zero, List.set_cons_succ]
  refine anyK_take 2 (oi := ?oo24) ?ho24 (by kernel_rfl) (by kernel_rfl) (by kernel_rfl) (by kernel_rfl) ?hq24 ?hw24 hT0 (fun _ => trivial) (v := ?vv24) ?hy24 ?hk24
  case ho24 => (simp only [List.getElem?_toArray, List.getElem?_cons_succ, List.getElem?_cons_zero]; rfl)
  case hq24 => exact fun _ _ _ h => h
  case hw24 => rfl
  case hy24 =>
    intro W hW
    go_simp
    first | done | with_reducible rfl
  case hk24 =>
  try simp only [Act.put, List.setIfInBounds_toArray, List.set_cons_zero, List.set_cons_succ]
  refine anyK_take 3 (oi := ?oo25) ?ho25 (by kernel_rfl) (by kernel_rfl) (by kernel_rfl) (by kernel_rfl) ?hq25 ?hw25 hT0 (fun _ => trivial) (v := ?vv25) ?hy25 ?hk25
  case ho25 => (simp only [List.getElem?_toArray, List.getElem?_cons_succ, List.getElem?_cons_zero]; rfl)
  case hq25 => exact fun _ _ _ h => h
  case hw25 => rfl
  case hy25 =>
    intro W hW
    go_simp
    first | done | with_reducible rfl
  case hk25 =>
  try simp only [Act.put, List.setIfInBounds_toArray, List.set_cons_zero, List.set_cons_succ]
  refine anyK_take 4 (oi := ?oo26) ?ho26 (by kernel_rfl) (by kernel_rfl) (by kernel_rfl) (by kernel_rfl) ?hq26 ?hw26 hT0 (fun _ => trivial) (v := ?vv26) ?hy26 ?hk26
  case ho26 => (simp only [List.getElem?_toArray, List.getElem?_cons_succ, List.getElem?_cons_zero]; rfl)
  case hq26 => exact fun _ _ _ h => h
  case hw26 => rfl
  case hy26 =>
    intro W hW
    obtain ⟨z0, z1, z2, z3, z4, z5, z6⟩ := hW
    go_simp
    first | done | with_reducible rfl
  case hk26 =>
  try simp only [Act.put, List.setIfInBounds_toArray, List.set_cons_zero, List.set_cons_succ]
  refine anyK_on1 5 (by kernel_rfl) ?_
  refine anyK_one 5 (o := ?oo27) ?ho27 ?hk27
  case ho27 => (simp only [List.getElem?_toArray, List.getElem?_cons_succ, List.getElem?_cons_zero]; rfl)
  case hk27 =>
  intro K hK
  go_simp
  refine (put_any 2 _).mono ?_
  rintro e wp ⟨rfl, xx⟩
  try go_wp2_with fail
  replace yy := ext_trans yy xx
  have hT1 := keepK.out _ yy
  refine hK.out _ _ hT1 (fun _ => trivial) ?_
  clear hK K
  try simp only [Act.put, List.setIfInBounds_toArray, List.set_cons_zero, List.set_cons_succ]
  refine anyK_take 6 (oi := ?oo28) ?ho28 (by kernel_rfl) (by kernel_rfl) (by kernel_rfl) (by kernel_rfl) ?hq28 ?hw28 hT1 (fun _ => trivial) (v := ?vv28) ?hy28 ?hk28
  case ho28 => (simp only [List.getElem?_toArray, List.getElem?_cons_succ, List.getElem?_cons_zero]; rfl)
  case hq28 => exact fun _ _ _ h => h
  case hw28 => rfl
  case hy28 =>
    intro W hW
    go_simp
    first | done | with_reducible rfl
  case hk28 =>
  try simp only [Act.put, List.setIfInBounds_toArray, List.set_cons_zero, List.set_cons_succ]
  refine anyK_take 7 (oi := ?oo29) ?ho29 (by kernel_rfl) (by kernel_rfl) (by kernel_rfl) (by kernel_rfl) ?hq29 ?hw29 hT1 (fun _ => trivial) (v := ?vv29) ?hy29 ?hk29
  case ho29 => (simp only [List.getElem?_toArray, List.getElem?_cons_succ, List.getElem?_cons_zero]; rfl)
  case hq29 => exact fun _ _ _ h => h
  case hw29 => rfl
  case hy29 =>
    intro W hW
    go_simp
    first | done | with_reducible rfl
  case hk29 =>
  try simp only [Act.put, List.setIfInBounds_toArray, List.set_cons_zero, List.set_cons_succ]
  refine anyK_take 8 (oi := ?oo30) ?ho30 (by kernel_rfl) (by kernel_rfl) (by kernel_rfl) (by kernel_rfl) ?hq30 ?hw30 hT1 (fun _ => trivial) (v := ?vv30) ?hy30 ?hk30
  case ho30 => (simp only [List.getElem?_toArray, List.getElem?_cons_succ, List.getElem?_cons_zero]; rfl)
  case hq30 => exact fun _ _ _ h => h
  case hw30 => rfl
  case hy30 =>
    intro W hW
    go_simp
    first | done | with_reducible rfl
  case hk30 =>
  try simp only [Act.put, List.setIfInBounds_toArray, List.set_cons_zero, List.set_cons_succ]
  refine anyK_take 9 (oi := ?oo31) ?ho31 (by kernel_rfl) (by kernel_rfl) (by kernel_rfl) (by kernel_rfl) ?hq31 ?hw31 hT1 (fun _ => trivial) (v := ?vv31) ?hy31 ?hk31
  case ho31 => (simp only [List.getElem?_toArray, List.getElem?_cons_succ, List.getElem?_cons_zero]; rfl)
  case hq31 => exact fun _ _ _ h => h
  case hw31 => rfl
  case hy31 =>
    intro W hW
    go_simp
    first | done | with_reducible rfl
  case hk31 =>
  try simp only [Act.put, List.setIfInBounds_toArray, List.set_cons_zero, List.set_cons_succ]
  refine anyK_take 10 (oi := ?oo32) ?ho32 (by kernel_rfl) (by kernel_rfl) (by kernel_rfl) (by kernel_rfl) ?hq32 ?hw32 hT1 (fun _ => trivial) (v := ?vv32) ?hy32 ?hk32
  case ho32 => (simp only [List.getElem?_toArray, List.getElem?_cons_succ, List.getElem?_cons_zero]; rfl)
  case hq32 => exact fun _ _ _ h => h
  case hw32 => rfl
  case hy32 =>
    intro W hW
    obtain ⟨z0, z1, z2, z3, z4, z5, z6⟩ := hW
    go_simp
    first | done | with_reducible rfl
  case hk32 =>
  try simp only [Act.put, List.setIfInBounds_toArray, List.set_cons_zero, List.set_cons_succ]
  refine anyK_take 11 (oi := ?oo33) ?ho33 (by kernel_rfl) (by kernel_rfl) (by kernel_rfl) (by kernel_rfl) ?hq33 ?hw33 hT1 (fun _ => trivial) (v := ?vv33) ?hy33 ?hk33
  case ho33 => (simp only [List.getElem?_toArray, List.getElem?_cons_succ, List.getElem?_cons_zero]; rfl)
  case hq33 => exact fun _ _ _ h => h
  case hw33 => rfl
  case hy33 =>
    intro W hW
    go_simp
    first | done | with_reducible rfl
  case hk33 =>
  try simp only [Act.put, List.setIfInBounds_toArray, List.set_cons_zero, List.set_cons_succ]
  refine anyK_take 12 (oi := ?oo34) ?ho34 (by kernel_rfl) (by kernel_rfl) (by kernel_rfl) (by kernel_rfl) ?hq34 ?hw34 hT1 (fun _ => trivial) (v := ?vv34) ?hy34 ?hk34
  case ho34 => (simp only [List.getElem?_toArray, List.getElem?_cons_succ, List.getElem?_cons_zero]; rfl)
  case hq34 => exact fun _ _ _ h => h
  case hw34 => rfl
  case hy34 =>
    intro W hW
    go_simp
    first | done | with_reducible rfl
  case hk34 =>
  try simp only [Act.put, List.setIfInBounds_toArray, List.set_cons_zero, List.set_cons_succ]
  refine anyK_take 13 (oi := ?oo35) ?ho35 (by kernel_rfl) (by kernel_rfl) (by kernel_rfl) (by kernel_rfl) ?hq35 ?hw35 hT1 (fun _ => trivial) (v := ?vv35) ?hy35 ?hk35
  case ho35 => (simp only [List.getElem?_toArray, List.getElem?_cons_succ, List.getElem?_cons_zero]; rfl)
  case hq35 => exact fun _ _ _ h => h
  case hw35 => rfl
  case hy35 =>
    intro W hW
    go_simp
    first | done | with_reducible rfl
  case hk35 =>
  try simp only [Act.put, List.setIfInBounds_toArray, List.set_cons_zero, List.set_cons_succ]
  refine anyK_on1 14 (by kernel_rfl) ?_
  refine anyK_one 14 (o := ?oo36) ?ho36 ?hk36
  case ho36 => (simp only [List.getElem?_toArray, List.getElem?_cons_succ, List.getElem?_cons_zero]; rfl)
  case hk36 =>
  intro K hK
  go_simp
  refine (scored_any _).mono ?_
  rintro e wq ⟨rfl, xx⟩
  try go_wp2_with fail
  replace yy := ext_trans yy xx
  have hT2 := keepK.out _ yy
  refine hK.out _ _ hT2 (fun _ => trivial) ?_
  clear hK K
  try simp only [Act.put, List.setIfInBounds_toArray, List.set_cons_zero, List.set_cons_succ]
  refine anyK_take 15 (oi := ?oo37) ?ho37 (by kernel_rfl) (by kernel_rfl) (by kernel_rfl) (by kernel_rfl) ?hq37 ?hw37 hT2 (fun _ => trivial) (v := ?vv37) ?hy37 ?hk37
  case ho37 => (simp only [List.getElem?_toArray, List.getElem?_cons_succ, List.getElem?_cons_zero]; rfl)
  case hq37 => exact fun _ _ _ h => h
  case hw37 => rfl
  case hy37 =>
    intro W hW
    go_simp
    first | done | with_reducible rfl
  case hk37 =>
  try simp only [Act.put, List.setIfInBounds_toArray, List.set_cons_zero, List.set_cons_succ]
  refine anyK_take 16 (oi := ?oo38) ?ho38 (by kernel_rfl) (by kernel_rfl) (by kernel_rfl) (by kernel_rfl) ?hq38 ?hw38 hT2 (fun _ => trivial) (v := ?vv38) ?hy38 ?hk38
  case ho38 => (simp only [List.getElem?_toArray, List.getElem?_cons_succ, List.getElem?_cons_zero]; rfl)
  case hq38 => exact fun _ _ _ h => h
  case hw38 => rfl
  case hy38 =>
    intro W hW
    go_simp
    first | done | with_reducible rfl
  case hk38 =>
  try simp only [Act.put, List.setIfInBounds_toArray, List.set_cons_zero, List.set_cons_succ]
  refine anyK_take 17 (oi := ?oo39) ?ho39 (by kernel_rfl) (by kernel_rfl) (by kernel_rfl) (by kernel_rfl) ?hq39 ?hw39 hT2 (fun _ => trivial) (v := ?vv39) ?hy39 ?hk39
  case ho39 => (simp only [List.getElem?_toArray, List.getElem?_cons_succ, List.getElem?_cons_zero]; rfl)
  case hq39 => exact fun _ _ _ h => h
  case hw39 => rfl
  case hy39 =>
    intro W hW
    go_simp
    first | done | with_reducible rfl
  case hk39 =>
  try simp only [Act.put, List.setIfInBounds_toArray, List.set_cons_zero, List.set_cons_succ]
  refine anyK_on1 18 (by kernel_rfl) ?_
  refine anyK_one 18 (o := ?oo40) ?ho40 ?hk40
  case ho40 => (simp only [List.getElem?_toArray, List.getElem?_cons_succ, List.getElem?_cons_zero]; rfl)
  case hk40 =>
  intro K hK
  go_simp
  refine (counted_any _).mono ?_
  rintro e wc ⟨rfl, xx⟩
  try go_wp2_with fail
  replace yy := ext_trans yy xx
  have hT3 := keepK.out _ yy
  refine hK.out _ _ hT3 (fun _ => trivial) ?_
  clear hK K
  try simp only [Act.put, List.setIfInBounds_toArray, List.set_cons_zero, List.set_cons_succ]
  refine anyK_take 19 (oi := ?oo41) ?ho41 (by kernel_rfl) (by kernel_rfl) (by kernel_rfl) (by kernel_rfl) ?hq41 ?hw41 hT3 (fun _ => trivial) (v := ?vv41) ?hy41 ?hk41
  case ho41 => (simp only [List.getElem?_toArray, List.getElem?_cons_succ, List.getElem?_cons_zero]; rfl)
  case hq41 => exact fun _ _ _ h => h
  case hw41 => rfl
  case hy41 =>
    intro W hW
    go_simp
    first | done | with_reducible rfl
  case hk41 =>
  try simp only [Act.put, List.setIfInBounds_toArray, List.set_cons_zero, List.set_cons_succ]
  refine anyK_take 20 (oi := ?oo42) ?ho42 (by kernel_rfl) (by kernel_rfl) (by kernel_rfl) (by kernel_rfl) ?hq42 ?hw42 hT3 (fun _ => trivial) (v := ?vv42) ?hy42 ?hk42
  case ho42 => (simp only [List.getElem?_toArray, List.getElem?_cons_succ, List.getElem?_cons_zero]; rfl)
  case hq42 => exact fun _ _ _ h => h
  case hw42 => rfl
  case hy42 =>
    intro W hW
    go_simp
    first | done | with_reducible rfl
  case hk42 =>
  try simp only [Act.put, List.setIfInBounds_toArray, List.set_cons_zero, List.set_cons_succ]
  refine anyK_done (by kernel_rfl) ?_ _
  clear keepK hT0 hT1 hT2 hT3
  obtain ⟨hR, hP, kR, kP, X⟩ := HS0.out _ yy
  clear HS0 KX xx yy
  have fR := kR.cell
  have fP := kP.cell
  go_wp2_with fail
  refine (HHV.out _ _ _ hR hP).mono ?_
  rintro e w27 ⟨rfl, x⟩
  replace hR := hR.ext x
  replace hP := hP.ext x
  replace kR := kR.ext x
  replace kP := kP.ext x
  replace X := ext_trans X x
  replace fR := kR.cell
  replace fP := kP.cell
  clear x
  clear HHV
  go_wp2_with fail
  refine (HB.out _ _ _ hR hP).mono ?_
  rintro e w28 ⟨rfl, x⟩
  replace hR := hR.ext x
  replace hP := hP.ext x
  replace kR := kR.ext x
  replace kP := kP.ext x
  replace X := ext_trans X x
  replace fR := kR.cell
  replace fP := kP.cell
  clear x
  clear fR fP
  obtain ⟨xa, kX2⟩ := blks1 w28 #[.int .i64 0, .int .i64 0, .int .i64 0, .int .i64 0, .int .i64 0, .int .i64 0] 62
  replace hR := hR.ext xa
  replace hP := hP.ext xa
  replace kR := kR.ext xa
  replace kP := kP.ext xa
  replace X := ext_trans X xa
  clear xa
  go_wp2_with fail
  generalize (w28.alloc (.cells #[.int .i64 0, .int .i64 0, .int .i64 0, .int .i64 0, .int .i64 0, .int .i64 0] 62)) = w29 at *
  generalize w28.heap.size = BX2 at *
  have fX := kX2.cell
  go_wp2
  all_goals go_ret
  all_goals exact ⟨by first | rfl | simp, X⟩
set_option maxHeartbeats 4000000 in
set_option maxRecDepth 100000 in
theorem deepenAgrees_ok (R : RulesM) (P : PosM) (v u : Value) (D b : Int) (w : World) (hR : RulesAt w v R) (hP : PosAt w u P) (hh : heavyB R P D = false) (he : deepE R P D b = 0) :
    Calls Try.prog 11 #[v, u, .int .i64 D, .int .i64 b] w fun e w' => e = .returned (.bool true) ∧ Ext w w' := by
  have HHV := hide (fun W (v1 v2 : Value) (h1 : RulesAt W v1 R) (h2 : PosAt W v2 P) => heavy_any R P v1 v2 D W h1 h2)
  rw [hh] at HHV
  clear hh
  have HDN := hide (fun W (v1 v2 : Value) (h1 : RulesAt W v1 threeR) (h2 : PosAt W v2 nearP) => Deepen_any threeR nearP v1 v2 1 50 W h1 h2)
  rw [near_deep.1, near_deep.2] at HDN
  obtain ⟨hn1, hn2, e1, e2, e3, e4, e5⟩ := deep_zero he
  have hd12 := e1.2
  have HB := hide (fun W (v1 v2 : Value) (h1 : RulesAt W v1 R) (h2 : PosAt W v2 P) => Deepen_any R P v1 v2 D b W h1 h2)
  rw [e5, he] at HB
  generalize hN : ((deepN R P D b : Nat) : Int) = N at *
  have HM := hide (fun W (v1 v2 : Value) (h1 : RulesAt W v1 R) (h2 : PosAt W v2 P) => MBest_any R P v1 v2 N W h1 h2)
  have HT := hide (fun W (v1 v2 : Value) (h1 : RulesAt W v1 R) (h2 : PosAt W v2 P) => PfTree_any R P v1 v2 N W h1 h2)
  have HT2 := hide (fun W (v1 v2 : Value) (h1 : RulesAt W v1 R) (h2 : PosAt W v2 P) => PfTree_any R P v1 v2 (N + 1) W h1 h2)
  rw [e3.1, e3.2] at HM
  rw [e1.1] at HT
  have hwn : IntKind.i64.wrap (N + 1) = N + 1 := by rw [IntKind.wrap_i64]; omega
  have HEND := hide e4
  have tb : decide (perftN R P N ≤ b) = true := by simpa using e2
  have td : decide (N ≤ D) = true := by simpa using hn2
  clear he e1 e2 e3 e4 e5 hN
  generalize firstM R (deepN R P D b - 1) P = y at *
  generalize perftN R P N = n at *
  generalize perftN R P (N + 1) = more at *
  generalize perftE R P (N + 1) = F at *
  have hR0 := hR
  have hP0 := hP
  obtain ⟨pA, pc, sA, sc, eA, ec, rfl, -⟩ := hR0
  obtain ⟨cA, cc, aA, ac, bA, bc, rfl, -⟩ := hP0
  go_enter Try.func11, Try.ntmps11
  go_wp2_with fail
  obtain ⟨xa, kR, kP⟩ := blks2 w #[.string R.name, .int .i64 R.width, .int .i64 R.height, .slice pA R.pieces.length pc, .slice sA R.start.length sc, .bool R.falls, .bool R.keeps, .slice eA R.ends.length ec, .int .i64 R.blocked, .int .i64 R.quiet, .int .i64 R.rept] 26 #[.slice cA P.cells.length cc, .slice aA P.hand0.length ac, .slice bA P.hand1.length bc, .int .i64 P.turn, .int .i64 P.quiet] 29
  replace hR := hR.ext xa
  replace hP := hP.ext xa
  have X := xa
  clear xa
  generalize ((w.alloc (.cells #[.string R.name, .int .i64 R.width, .int .i64 R.height, .slice pA R.pieces.length pc, .slice sA R.start.length sc, .bool R.falls, .bool R.keeps, .slice eA R.ends.length ec, .int .i64 R.blocked, .int .i64 R.quiet, .int .i64 R.rept] 26)).alloc (.cells #[.slice cA P.cells.length cc, .slice aA P.hand0.length ac, .slice bA P.hand1.length bc, .int .i64 P.turn, .int .i64 P.quiet] 29)) = w2 at *
  generalize w.heap.size + 1 = BP at *
  generalize w.heap.size = BR at *
  refine (three_any _).mono ?_
  rintro e w3 ⟨v1, rfl, h1, x⟩
  replace hR := hR.ext x
  replace hP := hP.ext x
  replace kR := kR.ext x
  replace kP := kP.ext x
  replace X := ext_trans X x
  clear x
  go_wp2_with fail
  refine (near_any _).mono ?_
  rintro e w4 ⟨v2, rfl, h2, x⟩
  replace hR := hR.ext x
  replace hP := hP.ext x
  replace kR := kR.ext x
  replace kP := kP.ext x
  replace h1 := h1.ext x
  replace X := ext_trans X x
  clear x
  replace h2 := h2.at_
  go_wp2_with fail
  refine (HDN.out _ _ _ h1 h2).mono ?_
  rintro e w5 ⟨rfl, x⟩
  replace hR := hR.ext x
  replace hP := hP.ext x
  replace kR := kR.ext x
  replace kP := kP.ext x
  replace h1 := h1.ext x
  replace h2 := h2.ext x
  replace X := ext_trans X x
  clear x
  clear h1 h2
  clear HDN
  obtain ⟨xa, kX⟩ := blks1 w5 #[.int .i64 (-1), .int .i64 2, .int .i64 0, .int .i64 999, .int .i64 1, .int .i64 6] 62
  replace hR := hR.ext xa
  replace hP := hP.ext xa
  replace kR := kR.ext xa
  replace kP := kP.ext xa
  replace X := ext_trans X xa
  clear xa
  go_upto_region 2 with fail
  generalize (w5.alloc (.cells #[.int .i64 (-1), .int .i64 2, .int .i64 0, .int .i64 999, .int .i64 1, .int .i64 6] 62)) = w6 at *
  generalize w5.heap.size = BX at *
  have KX := hide kX
  clear kX
  have HS0 := hide (fun W (h : Ext w6 W) => And.intro (hR.ext h) ( And.intro (hP.ext h) ( And.intro (kR.ext h) ( And.intro (kP.ext h) (ext_trans X h)))))
  clear X hR hP kR kP
  have keepK := hide (fun W (h : Ext w6 W) => (show (fun W => W.cell? ⟨BX, 0, none⟩ = some (.int .i64 (-1)) ∧ W.cell? ⟨BX, 1, none⟩ = some (.int .i64 2) ∧ W.cell? ⟨BX, 2, none⟩ = some (.int .i64 0) ∧ W.cell? ⟨BX, 3, none⟩ = some (.int .i64 999) ∧ W.cell? ⟨BX, 4, none⟩ = some (.int .i64 1) ∧ W.cell? ⟨BX, 5, none⟩ = some (.int .i64 6) ∧ Ext w6 W) W from ⟨(KX.out.ext h).cell 0, (KX.out.ext h).cell 1, (KX.out.ext h).cell 2, (KX.out.ext h).cell 3, (KX.out.ext h).cell 4, (KX.out.ext h).cell 5, h⟩))
  have yy : Ext w6 w6.drew := Below.drew (Below.refl _ _)
  refine region_K (fun W => W.cell? ⟨BX, 0, none⟩ = some (.int .i64 (-1)) ∧ W.cell? ⟨BX, 1, none⟩ = some (.int .i64 2) ∧ W.cell? ⟨BX, 2, none⟩ = some (.int .i64 0) ∧ W.cell? ⟨BX, 3, none⟩ = some (.int .i64 999) ∧ W.cell? ⟨BX, 4, none⟩ = some (.int .i64 1) ∧ W.cell? ⟨BX, 5, none⟩ = some (.int .i64 6) ∧ Ext w6 W) (fun _ => True) [] (by kernel_rfl) ?_
  have hT0 := keepK.out _ yy
  refine anyK_take 0 (oi := ?oo43) ?ho43 (by kernel_rfl) (by kernel_rfl) (by kernel_rfl) (by kernel_rfl) ?hq43 ?hw43 hT0 (fun _ => trivial) (v := ?vv43) ?hy43 ?hk43
  case ho43 => (simp only [List.getElem?_toArray, List.getElem?_cons_succ, List.getElem?_cons_zero]; rfl)
  case hq43 => exact fun _ _ _ h => h
  case hw43 => rfl
  case hy43 =>
    intro W hW
    go_simp
    first | done | with_reducible rfl
  case hk43 =>
  try simp only [Act.put, List.setIfInBounds_toArray, List.set_cons_zero, List.set_cons_succ]
  refine anyK_take 1 (oi := ?oo44) ?ho44 (by kernel_rfl) (by kernel_rfl) (by kernel_rfl) (by kernel_rfl) ?hq44 ?hw44 hT0 (fun _ => trivial) (v := ?vv44) ?hy44 ?hk44
  case ho44 => (simp only [List.getElem?_toArray, List.getElem?_cons_succ, List.getElem?_cons_zero]; rfl)
  case hq44 => exact fun _ _ _ h => h
  case hw44 => rfl
  case hy44 =>
    intro W hW
    go_simp
    first | done | with_reducible rfl
  case hk44 =>
  try simp only [Act.put, List.setIfInBounds_toArray, List.set_cons_zero, List.set_cons_succ]
  refine anyK_take 2 (oi := ?oo45) ?ho45 (by kernel_rfl) (by kernel_rfl) (by kernel_rfl) (by kernel_rfl) ?hq45 ?hw45 hT0 (fun _ => trivial) (v := ?vv45) ?hy45 ?hk45
  case ho45 => (simp only [List.getElem?_toArray, List.getElem?_cons_succ, List.getElem?_cons_zero]; rfl)
  case hq45 => exact fun _ _ _ h => h
  case hw45 => rfl
  case hy45 =>
    intro W hW
    go_simp
    first | done | with_reducible rfl
  case hk45 =>
  try simp only [Act.put, List.setIfInBounds_toArray, List.set_cons_zero, List.set_cons_succ]
  refine anyK_take 3 (oi := ?oo46) ?ho46 (by kernel_rfl) (by kernel_rfl) (by kernel_rfl) (by kernel_rfl) ?hq46 ?hw46 hT0 (fun _ => trivial) (v := ?vv46) ?hy46 ?hk46
  case ho46 => (simp only [List.getElem?_toArray, List.getElem?_cons_succ, List.getElem?_cons_zero]; rfl)
  case hq46 => exact fun _ _ _ h => h
  case hw46 => rfl
  case hy46 =>
    intro W hW
    go_simp
    first | done | with_reducible rfl
  case hk46 =>
  try simp only [Act.put, List.setIfInBounds_toArray, List.set_cons_zero, List.set_cons_succ]
  refine anyK_take 4 (oi := ?oo47) ?ho47 (by kernel_rfl) (by kernel_rfl) (by kernel_rfl) (by kernel_rfl) ?hq47 ?hw47 hT0 (fun _ => trivial) (v := ?vv47) ?hy47 ?hk47
  case ho47 => (simp only [List.getElem?_toArray, List.getElem?_cons_succ, List.getElem?_cons_zero]; rfl)
  case hq47 => exact fun _ _ _ h => h
  case hw47 => rfl
  case hy47 =>
    intro W hW
    obtain ⟨z0, z1, z2, z3, z4, z5, z6⟩ := hW
    go_simp
    first | done | with_reducible rfl
  case hk47 =>
  try simp only [Act.put, List.setIfInBounds_toArray, List.set_cons_zero, List.set_cons_succ]
  refine anyK_on1 5 (by kernel_rfl) ?_
  refine anyK_one 5 (o := ?oo48) ?ho48 ?hk48
  case ho48 => (simp only [List.getElem?_toArray, List.getElem?_cons_succ, List.getElem?_cons_zero]; rfl)
  case hk48 =>
  intro K hK
  go_simp
  refine (put_any 2 _).mono ?_
  rintro e wp ⟨rfl, xx⟩
  try go_wp2_with fail
  replace yy := ext_trans yy xx
  have hT1 := keepK.out _ yy
  refine hK.out _ _ hT1 (fun _ => trivial) ?_
  clear hK K
  try simp only [Act.put, List.setIfInBounds_toArray, List.set_cons_zero, List.set_cons_succ]
  refine anyK_take 6 (oi := ?oo49) ?ho49 (by kernel_rfl) (by kernel_rfl) (by kernel_rfl) (by kernel_rfl) ?hq49 ?hw49 hT1 (fun _ => trivial) (v := ?vv49) ?hy49 ?hk49
  case ho49 => (simp only [List.getElem?_toArray, List.getElem?_cons_succ, List.getElem?_cons_zero]; rfl)
  case hq49 => exact fun _ _ _ h => h
  case hw49 => rfl
  case hy49 =>
    intro W hW
    go_simp
    first | done | with_reducible rfl
  case hk49 =>
  try simp only [Act.put, List.setIfInBounds_toArray, List.set_cons_zero, List.set_cons_succ]
  refine anyK_take 7 (oi := ?oo50) ?ho50 (by kernel_rfl) (by kernel_rfl) (by kernel_rfl) (by kernel_rfl) ?hq50 ?hw50 hT1 (fun _ => trivial) (v := ?vv50) ?hy50 ?hk50
  case ho50 => (simp only [List.getElem?_toArray, List.getElem?_cons_succ, List.getElem?_cons_zero]; rfl)
  case hq50 => exact fun _ _ _ h => h
  case hw50 => rfl
  case hy50 =>
    intro W hW
    go_simp
    first | done | with_reducible rfl
  case hk50 =>
  try simp only [Act.put, List.setIfInBounds_toArray, List.set_cons_zero, List.set_cons_succ]
  refine anyK_take 8 (oi := ?oo51) ?ho51 (by kernel_rfl) (by kernel_rfl) (by kernel_rfl) (by kernel_rfl) ?hq51 ?hw51 hT1 (fun _ => trivial) (v := ?vv51) ?hy51 ?hk51
  case ho51 => (simp only [List.getElem?_toArray, List.getElem?_cons_succ, List.getElem?_cons_zero]; rfl)
  case hq51 => exact fun _ _ _ h => h
  case hw51 => rfl
  case hy51 =>
    intro W hW
    go_simp
    first | done | with_reducible rfl
  case hk51 =>
  try simp only [Act.put, List.setIfInBounds_toArray, List.set_cons_zero, List.set_cons_succ]
  refine anyK_take 9 (oi := ?oo52) ?ho52 (by kernel_rfl) (by kernel_rfl) (by kernel_rfl) (by kernel_rfl) ?hq52 ?hw52 hT1 (fun _ => trivial) (v := ?vv52) ?hy52 ?hk52
  case ho52 => (simp only [List.getElem?_toArray, List.getElem?_cons_succ, List.getElem?_cons_zero]; rfl)
  case hq52 => exact fun _ _ _ h => h
  case hw52 => rfl
  case hy52 =>
    intro W hW
    go_simp
    first | done | with_reducible rfl
  case hk52 =>
  try simp only [Act.put, List.setIfInBounds_toArray, List.set_cons_zero, List.set_cons_succ]
  refine anyK_take 10 (oi := ?oo53) ?ho53 (by kernel_rfl) (by kernel_rfl) (by kernel_rfl) (by kernel_rfl) ?hq53 ?hw53 hT1 (fun _ => trivial) (v := ?vv53) ?hy53 ?hk53
  case ho53 => (simp only [List.getElem?_toArray, List.getElem?_cons_succ, List.getElem?_cons_zero]; rfl)
  case hq53 => exact fun _ _ _ h => h
  case hw53 => rfl
  case hy53 =>
    intro W hW
    obtain ⟨z0, z1, z2, z3, z4, z5, z6⟩ := hW
    go_simp
    first | done | with_reducible rfl
  case hk53 =>
  try simp only [Act.put, List.setIfInBounds_toArray, List.set_cons_zero, List.set_cons_succ]
  refine anyK_take 11 (oi := ?oo54) ?ho54 (by kernel_rfl) (by kernel_rfl) (by kernel_rfl) (by kernel_rfl) ?hq54 ?hw54 hT1 (fun _ => trivial) (v := ?vv54) ?hy54 ?hk54
  case ho54 => (simp only [List.getElem?_toArray, List.getElem?_cons_succ, List.getElem?_cons_zero]; rfl)
  case hq54 => exact fun _ _ _ h => h
  case hw54 => rfl
  case hy54 =>
    intro W hW
    go_simp
    first | done | with_reducible rfl
  case hk54 =>
  try simp only [Act.put, List.setIfInBounds_toArray, List.set_cons_zero, List.set_cons_succ]
  refine anyK_take 12 (oi := ?oo55) ?ho55 (by kernel_rfl) (by kernel_rfl) (by kernel_rfl) (by kernel_rfl) ?hq55 ?hw55 hT1 (fun _ => trivial) (v := ?vv55) ?hy55 ?hk55
  case ho55 => (simp only [List.getElem?_toArray, List.getElem?_cons_succ, List.getElem?_cons_zero]; rfl)
  case hq55 => exact fun _ _ _ h => h
  case hw55 => rfl
  case hy55 =>
    intro W hW
    go_simp
    first | done | with_reducible rfl
  case hk55 =>
  try simp only [Act.put, List.setIfInBounds_toArray, List.set_cons_zero, List.set_cons_succ]
  refine anyK_take 13 (oi := ?oo56) ?ho56 (by kernel_rfl) (by kernel_rfl) (by kernel_rfl) (by kernel_rfl) ?hq56 ?hw56 hT1 (fun _ => trivial) (v := ?vv56) ?hy56 ?hk56
  case ho56 => (simp only [List.getElem?_toArray, List.getElem?_cons_succ, List.getElem?_cons_zero]; rfl)
  case hq56 => exact fun _ _ _ h => h
  case hw56 => rfl
  case hy56 =>
    intro W hW
    go_simp
    first | done | with_reducible rfl
  case hk56 =>
  try simp only [Act.put, List.setIfInBounds_toArray, List.set_cons_zero, List.set_cons_succ]
  refine anyK_on1 14 (by kernel_rfl) ?_
  refine anyK_one 14 (o := ?oo57) ?ho57 ?hk57
  case ho57 => (simp only [List.getElem?_toArray, List.getElem?_cons_succ, List.getElem?_cons_zero]; rfl)
  case hk57 =>
  intro K hK
  go_simp
  refine (scored_any _).mono ?_
  rintro e wq ⟨rfl, xx⟩
  try go_wp2_with fail
  replace yy := ext_trans yy xx
  have hT2 := keepK.out _ yy
  refine hK.out _ _ hT2 (fun _ => trivial) ?_
  clear hK K
  try simp only [Act.put, List.setIfInBounds_toArray, List.set_cons_zero, List.set_cons_succ]
  refine anyK_take 15 (oi := ?oo58) ?ho58 (by kernel_rfl) (by kernel_rfl) (by kernel_rfl) (by kernel_rfl) ?hq58 ?hw58 hT2 (fun _ => trivial) (v := ?vv58) ?hy58 ?hk58
  case ho58 => (simp only [List.getElem?_toArray, List.getElem?_cons_succ, List.getElem?_cons_zero]; rfl)
  case hq58 => exact fun _ _ _ h => h
  case hw58 => rfl
  case hy58 =>
    intro W hW
    go_simp
    first | done | with_reducible rfl
  case hk58 =>
  try simp only [Act.put, List.setIfInBounds_toArray, List.set_cons_zero, List.set_cons_succ]
  refine anyK_take 16 (oi := ?oo59) ?ho59 (by kernel_rfl) (by kernel_rfl) (by kernel_rfl) (by kernel_rfl) ?hq59 ?hw59 hT2 (fun _ => trivial) (v := ?vv59) ?hy59 ?hk59
  case ho59 => (simp only [List.getElem?_toArray, List.getElem?_cons_succ, List.getElem?_cons_zero]; rfl)
  case hq59 => exact fun _ _ _ h => h
  case hw59 => rfl
  case hy59 =>
    intro W hW
    go_simp
    first | done | with_reducible rfl
  case hk59 =>
  try simp only [Act.put, List.setIfInBounds_toArray, List.set_cons_zero, List.set_cons_succ]
  refine anyK_take 17 (oi := ?oo60) ?ho60 (by kernel_rfl) (by kernel_rfl) (by kernel_rfl) (by kernel_rfl) ?hq60 ?hw60 hT2 (fun _ => trivial) (v := ?vv60) ?hy60 ?hk60
  case ho60 => (simp only [List.getElem?_toArray, List.getElem?_cons_succ, List.getElem?_cons_zero]; rfl)
  case hq60 => exact fun _ _ _ h => h
  case hw60 => rfl
  case hy60 =>
    intro W hW
    go_simp
    first | done | with_reducible rfl
  case hk60 =>
  try simp only [Act.put, List.setIfInBounds_toArray, List.set_cons_zero, List.set_cons_succ]
  refine anyK_on1 18 (by kernel_rfl) ?_
  refine anyK_one 18 (o := ?oo61) ?ho61 ?hk61
  case ho61 => (simp only [List.getElem?_toArray, List.getElem?_cons_succ, List.getElem?_cons_zero]; rfl)
  case hk61 =>
  intro K hK
  go_simp
  refine (counted_any _).mono ?_
  rintro e wc ⟨rfl, xx⟩
  try go_wp2_with fail
  replace yy := ext_trans yy xx
  have hT3 := keepK.out _ yy
  refine hK.out _ _ hT3 (fun _ => trivial) ?_
  clear hK K
  try simp only [Act.put, List.setIfInBounds_toArray, List.set_cons_zero, List.set_cons_succ]
  refine anyK_take 19 (oi := ?oo62) ?ho62 (by kernel_rfl) (by kernel_rfl) (by kernel_rfl) (by kernel_rfl) ?hq62 ?hw62 hT3 (fun _ => trivial) (v := ?vv62) ?hy62 ?hk62
  case ho62 => (simp only [List.getElem?_toArray, List.getElem?_cons_succ, List.getElem?_cons_zero]; rfl)
  case hq62 => exact fun _ _ _ h => h
  case hw62 => rfl
  case hy62 =>
    intro W hW
    go_simp
    first | done | with_reducible rfl
  case hk62 =>
  try simp only [Act.put, List.setIfInBounds_toArray, List.set_cons_zero, List.set_cons_succ]
  refine anyK_take 20 (oi := ?oo63) ?ho63 (by kernel_rfl) (by kernel_rfl) (by kernel_rfl) (by kernel_rfl) ?hq63 ?hw63 hT3 (fun _ => trivial) (v := ?vv63) ?hy63 ?hk63
  case ho63 => (simp only [List.getElem?_toArray, List.getElem?_cons_succ, List.getElem?_cons_zero]; rfl)
  case hq63 => exact fun _ _ _ h => h
  case hw63 => rfl
  case hy63 =>
    intro W hW
    go_simp
    first | done | with_reducible rfl
  case hk63 =>
  try simp only [Act.put, List.setIfInBounds_toArray, List.set_cons_zero, List.set_cons_succ]
  refine anyK_done (by kernel_rfl) ?_ _
  clear keepK hT0 hT1 hT2 hT3
  obtain ⟨hR, hP, kR, kP, X⟩ := HS0.out _ yy
  clear HS0 KX xx yy
  have fR := kR.cell
  have fP := kP.cell
  go_wp2_with fail
  refine (HHV.out _ _ _ hR hP).mono ?_
  rintro e w27 ⟨rfl, x⟩
  replace hR := hR.ext x
  replace hP := hP.ext x
  replace kR := kR.ext x
  replace kP := kP.ext x
  replace X := ext_trans X x
  replace fR := kR.cell
  replace fP := kP.cell
  clear x
  clear HHV
  go_wp2_with fail
  refine (HB.out _ _ _ hR hP).mono ?_
  rintro e w28 ⟨rfl, x⟩
  replace hR := hR.ext x
  replace hP := hP.ext x
  replace kR := kR.ext x
  replace kP := kP.ext x
  replace X := ext_trans X x
  replace fR := kR.cell
  replace fP := kP.cell
  clear x
  obtain ⟨xa, kX2⟩ := blks1 w28 #[.int .i64 y.1.src, .int .i64 y.1.dst, .int .i64 y.1.piece, .int .i64 y.2, .int .i64 N, .int .i64 n] 62
  replace hR := hR.ext xa
  replace hP := hP.ext xa
  replace kR := kR.ext xa
  replace kP := kP.ext xa
  replace X := ext_trans X xa
  have fR' := kR.cell
  have fP' := kP.cell
  clear xa
  go_wp2_with fail
  generalize (w28.alloc (.cells #[.int .i64 y.1.src, .int .i64 y.1.dst, .int .i64 y.1.piece, .int .i64 y.2, .int .i64 N, .int .i64 n] 62)) = w29 at *
  generalize w28.heap.size = BX2 at *
  replace fR := kR.cell
  clear fR'
  replace fP := kP.cell
  clear fP'
  have fX := kX2.cell
  refine (HM.out _ _ _ hR hP).mono ?_
  rintro e w30 ⟨rfl, x⟩
  replace hR := hR.ext x
  replace hP := hP.ext x
  replace kR := kR.ext x
  replace kP := kP.ext x
  replace kX2 := kX2.ext x
  replace X := ext_trans X x
  replace fR := kR.cell
  replace fP := kP.cell
  replace fX := kX2.cell
  clear x
  obtain ⟨xa, kM⟩ := blks1 w30 #[.int .i64 y.1.src, .int .i64 y.1.dst, .int .i64 y.1.piece] 39
  replace hR := hR.ext xa
  replace hP := hP.ext xa
  replace kR := kR.ext xa
  replace kP := kP.ext xa
  replace kX2 := kX2.ext xa
  replace X := ext_trans X xa
  have fR' := kR.cell
  have fP' := kP.cell
  have fX' := kX2.cell
  clear xa
  go_wp2_with fail
  generalize (w30.alloc (.cells #[.int .i64 y.1.src, .int .i64 y.1.dst, .int .i64 y.1.piece] 39)) = w31 at *
  generalize w30.heap.size = BM at *
  replace fR := kR.cell
  clear fR'
  replace fP := kP.cell
  clear fP'
  replace fX := kX2.cell
  clear fX'
  refine (HT.out _ _ _ hR hP).mono ?_
  rintro e w32 ⟨rfl, x⟩
  replace hR := hR.ext x
  replace hP := hP.ext x
  replace kR := kR.ext x
  replace kP := kP.ext x
  replace kX2 := kX2.ext x
  replace kM := kM.ext x
  replace X := ext_trans X x
  replace fR := kR.cell
  replace fP := kP.cell
  replace fX := kX2.cell
  clear x
  go_wp2_with fail
  refine (HT2.out _ _ _ hR hP).mono ?_
  rintro e w33 ⟨rfl, x⟩
  replace hR := hR.ext x
  replace hP := hP.ext x
  replace kR := kR.ext x
  replace kP := kP.ext x
  replace kX2 := kX2.ext x
  replace kM := kM.ext x
  replace X := ext_trans X x
  replace fR := kR.cell
  replace fP := kP.cell
  replace fX := kX2.cell
  clear x
  clear fR fP fX
  obtain ⟨xa, kE⟩ := blks1 w33 #[.int .i64 0, .int .i64 0] 32
  replace hR := hR.ext xa
  replace hP := hP.ext xa
  replace kR := kR.ext xa
  replace kP := kP.ext xa
  replace kX2 := kX2.ext xa
  replace kM := kM.ext xa
  replace X := ext_trans X xa
  clear xa
  go_wp2_with fail
  generalize (w33.alloc (.cells #[.int .i64 0, .int .i64 0] 32)) = w34 at *
  generalize w33.heap.size = BE at *
  refine (fine_ok2 kE).mono ?_
  rintro e w35 ⟨rfl, x⟩
  replace hR := hR.ext x
  replace hP := hP.ext x
  replace kR := kR.ext x
  replace kP := kP.ext x
  replace kX2 := kX2.ext x
  replace kM := kM.ext x
  replace kE := kE.ext x
  replace X := ext_trans X x
  clear x
  clear kE
  have fM := kM.cell
  have fX := kX2.cell
  by_cases h1 : N = D
  · have t1 : (N == D) = true := by simpa using h1
    clear h1 HEND
    go_wp2
    all_goals go_ret
    all_goals exact ⟨by first | rfl | simp, X⟩
  · have t1 : (N == D) = false := by simpa using h1
    by_cases h2 : F = 0
    · have t2 : (F != 0) = false := by simpa using h2
      have t3 : decide (b < more) = true := by
        rcases HEND.out with h | h | h
        · exact absurd h h1
        · exact absurd h2 h
        · simpa using h
      clear h1 h2 HEND
      go_wp2
      all_goals go_ret
      all_goals exact ⟨by first | rfl | simp, X⟩
    · have t2 : (F != 0) = true := by simpa using h2
      clear h1 h2 HEND
      go_wp2
      all_goals go_ret
      all_goals exact ⟨by first | rfl | simp, X⟩
theorem deepenAgrees_law (v : Value) (R : RulesM) (u : Value) (P : PosM) (D b : Int) (w : World) (hR : RulesAt w v R) (hP : PosAt w u P) :
    Calls Try.prog 11 #[v, u, .int .i64 D, .int .i64 b] w fun e w' => e = .returned (.bool true) ∧ Ext w w' := by
  cases hh : heavyB R P D
  · by_cases he : deepE R P D b = 0
    · exact deepenAgrees_ok R P v u D b w hR hP hh he
    · exact deepenAgrees_bad R P v u D b w hR hP hh he
  · exact deepenAgrees_h1 R P v u D b w hR hP hh

end Go.Proofs.Ytmofipijjokjfaa
