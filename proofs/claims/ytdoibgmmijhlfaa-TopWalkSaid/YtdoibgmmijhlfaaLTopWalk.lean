/- Walk: the law TopWalk. -/
import Derived.Test.YtdoibgmmijhlfaaGTopW
import Derived.Test.YtdoibgmmijhlfaaGWalkC
namespace Go.Proofs.Ytdoibgmmijhlfaa
open Go.ChangeShapes Go.WideShapes Go.ChangeAt Go.RowKit Go.Shelf
set_option linter.unusedVariables false
set_option linter.unusedSimpArgs false
structure FromT (a b : World) : Prop where
  x : Ext a b
theorem FromT.ext {a b c : World} (h : FromT a b) (k : Ext b c) : FromT a c := ⟨ext_trans h.x k⟩
theorem score_0 {R : RulesM} {P : PosM} {m : MoveM} (hV : Valid R) (hS : Sound R P) (hm : m ∈ listM R P) : scoreM R (makeM R P m) 0 = ofM R 0 (makeM R P m) ∧ perftE R (makeM R P m) 0 = 0 := by
  have hc : checkE R (makeM R P m) = 0 := check_iff.2 ⟨hV, sound_make hV hS (mem_listM.1 hm)⟩
  have he : perftE R (makeM R P m) 0 = 0 := by
    unfold perftE
    rw [if_neg (by rw [hc]; decide), if_neg (by decide), if_neg (show ¬ (50000 < treeM R (Int.toNat 0) (makeM R P m)) by show ¬ ((50000 : Int) < 1); decide)]
  exact ⟨if_pos he, he⟩
theorem sumV_le {L : List MoveM} {La : List WMov} (h : ∀ (i : Nat) (x : WMov), La[i]? = some x → L[i]? = some x.m ∧ 0 ≤ x.v ∧ x.v ≤ 2001 ∧ 0 ≤ x.p ∧ x.p ≤ 2 * x.v) : ∀ {k : Nat}, k ≤ La.length → La.length ≤ 1000000 → 0 ≤ sumV (La.take k) ∧ sumV (La.take k) ≤ 2001 * (k : Int) ∧ (k : Int) ≤ 1000000
  | 0, _, hl => by
    have e : sumV (La.take 0) = 0 := rfl
    rw [e]; omega
  | k + 1, hk, hl => by
    obtain ⟨h1, h2, h3⟩ := sumV_le h (k := k) (by omega) hl
    have hx := List.getElem?_eq_getElem (show k < La.length by omega)
    obtain ⟨-, v0, v1, -, -⟩ := h k _ hx
    rw [sumV_take hx]
    omega
set_option maxHeartbeats 4000000 in
set_option maxRecDepth 100000 in
theorem topWalk_heavy (R : RulesM) (P : PosM) (v u : Value) (s : Int) (w : World) (hR : RulesAt w v R) (hP : PosAt w u P) (hh : bheavyB R P 1 = true) :
    Calls Try.prog 3 #[v, u, .int .i64 s] w fun e w' => e = .returned (.bool true) ∧ Ext w w' := by
  obtain ⟨-, nl, n1, n2, -⟩ := near_walk
  obtain ⟨nb0, nb1, nb2, nb3⟩ := near_best60
  have HA := hide (fun W (v1 v2 : Value) (h1 : RulesAt W v1 threeR) (h2 : PosAt W v2 nearP) => Run_yes threeR nearP v1 v2 5 1 W h1 h2 near_walk.1)
  have HB := hide (fun W (v1 v2 : Value) (h1 : RulesAt W v1 threeR) (h2 : PosAt W v2 nearP) => WBest_yes threeR nearP v1 v2 5 60 W h1 h2 nb0 (by decide))
  rw [show ((1 : Int)).toNat = 1 from rfl] at HA
  rw [show ((60 : Int)).toNat = 60 from rfl, nb1, nb2, nb3] at HB
  unfold RunPost at HA
  generalize walkM threeR 5 nearP 1 = L0 at *
  obtain ⟨y, hy⟩ : ∃ y, L0[0]? = some y := ⟨L0[0], List.getElem?_eq_getElem (by omega)⟩
  have hgd : L0.getD 0 ⟨⟨0, 0, 0⟩, 0, 0⟩ = y := by rw [List.getD_eq_getElem?_getD, hy]; rfl
  rw [hgd] at n1 n2
  have HY := hide hy
  have HN1 := hide n1
  have HN2 := hide n2
  have HNL := hide nl
  clear hy hgd n1 n2 nl nb0 nb1 nb2 nb3
  have HHV := hide (fun W (v1 v2 : Value) (h1 : RulesAt W v1 R) (h2 : PosAt W v2 P) => bheavy_any R P v1 v2 1 W h1 h2)
  rw [hh] at HHV
  clear hh
  
  have hR0 := hR
  have hP0 := hP
  obtain ⟨pA, pc, sA, sc, eA, ec, rfl, -⟩ := hR0
  obtain ⟨cA, cc, aA, ac, bA, bc, rfl, -⟩ := hP0
  go_enter Try.func3, Try.ntmps3
  go_wp2_with fail
  obtain ⟨xa, kR, kP⟩ := blks2 w #[.string R.name, .int .i64 R.width, .int .i64 R.height, .slice pA R.pieces.length pc, .slice sA R.start.length sc, .bool R.falls, .bool R.keeps, .slice eA R.ends.length ec, .int .i64 R.blocked, .int .i64 R.quiet, .int .i64 R.rept] 26 #[.slice cA P.cells.length cc, .slice aA P.hand0.length ac, .slice bA P.hand1.length bc, .int .i64 P.turn, .int .i64 P.quiet] 29
  replace hR := hR.ext xa
  replace hP := hP.ext xa
  have X := xa
  clear xa
  generalize ((w.alloc (.cells #[.string R.name, .int .i64 R.width, .int .i64 R.height, .slice pA R.pieces.length pc, .slice sA R.start.length sc, .bool R.falls, .bool R.keeps, .slice eA R.ends.length ec, .int .i64 R.blocked, .int .i64 R.quiet, .int .i64 R.rept] 26)).alloc (.cells #[.slice cA P.cells.length cc, .slice aA P.hand0.length ac, .slice bA P.hand1.length bc, .int .i64 P.turn, .int .i64 P.quiet] 29)) = w2 at *
  generalize w.heap.size + 1 = BP at *
  generalize w.heap.size = BR at *
  refine (three_any _).mono ?_
  rintro e w3 ⟨v1, rfl, h1, x⟩
  replace hR := hR.ext x
  replace hP := hP.ext x
  replace kR := kR.ext x
  replace kP := kP.ext x
  replace X := ext_trans X x
  clear x
  go_wp2_with fail
  refine (near_any _).mono ?_
  rintro e w4 ⟨v2, rfl, h2, x⟩
  replace hR := hR.ext x
  replace hP := hP.ext x
  replace kR := kR.ext x
  replace kP := kP.ext x
  replace h1 := h1.ext x
  replace X := ext_trans X x
  clear x
  replace h2 := h2.at_
  go_wp2_with fail
  refine (HA.out _ _ _ h1 h2).mono ?_
  rintro e w5 ⟨vl, rfl, hl, x⟩
  replace hR := hR.ext x
  replace hP := hP.ext x
  replace kR := kR.ext x
  replace kP := kP.ext x
  replace h1 := h1.ext x
  replace h2 := h2.ext x
  replace X := ext_trans X x
  clear x
  obtain ⟨lA, lc, rfl, ol⟩ := hl
  have hc := (own_cells ol).1
  clear ol
  rw [HNL.out]
  clear h1 h2
  clear HA
  obtain ⟨bq, oq, rfl, c0, c1, c2, c3, c4⟩ := wm_get hc HY.out
  simp only [Nat.zero_mul, Nat.add_zero] at c0 c1 c2 c3 c4
  rw [HN1.out.1] at c0
  rw [HN1.out.2.1] at c1
  rw [HN1.out.2.2] at c2
  rw [HN2.out.1] at c3
  rw [HN2.out.2] at c4
  have C0 := hide c0
  have C1 := hide c1
  have C2 := hide c2
  have C3 := hide c3
  have C4 := hide c4
  clear c0 c1 c2 c3 c4 hc HY HN1 HN2 HNL
  go_upto_region 2 with fail
  have keepK := hide (fun W (h : Ext w5 W) => (show (fun W => W.cell? ⟨bq, oq, none⟩ = some (.int .i64 (-1)) ∧ W.cell? ⟨bq, oq + 1, none⟩ = some (.int .i64 2) ∧ W.cell? ⟨bq, oq + 2, none⟩ = some (.int .i64 0) ∧ W.cell? ⟨bq, oq + 3, none⟩ = some (.int .i64 1) ∧ W.cell? ⟨bq, oq + 4, none⟩ = some (.int .i64 2) ∧ Ext w5 W) W from ⟨h.cell C0.out, h.cell C1.out, h.cell C2.out, h.cell C3.out, h.cell C4.out, h⟩))
  have yy : Ext w5 w5.drew := Below.drew (Below.refl _ _)
  refine region_K (fun W => W.cell? ⟨bq, oq, none⟩ = some (.int .i64 (-1)) ∧ W.cell? ⟨bq, oq + 1, none⟩ = some (.int .i64 2) ∧ W.cell? ⟨bq, oq + 2, none⟩ = some (.int .i64 0) ∧ W.cell? ⟨bq, oq + 3, none⟩ = some (.int .i64 1) ∧ W.cell? ⟨bq, oq + 4, none⟩ = some (.int .i64 2) ∧ Ext w5 W) (fun _ => True) [] (by kernel_rfl) ?_
  have hT0 := keepK.out _ yy
  refine anyK_take 0 (oi := ?oo1) ?ho1 (by kernel_rfl) (by kernel_rfl) (by kernel_rfl) (by kernel_rfl) ?hq1 ?hw1 hT0 (fun _ => trivial) (v := ?vv1) ?hy1 ?hk1
  case ho1 => (simp only [List.getElem?_toArray, List.getElem?_cons_succ, List.getElem?_cons_zero]; rfl)
  case hq1 => exact fun _ _ _ h => h
  case hw1 => rfl
  case hy1 =>
    intro W hW
    go_simp
    first | done | with_reducible rfl
  case hk1 =>
  try simp only [Act.put, List.setIfInBounds_toArray, List.set_cons_zero, List.set_cons_succ]
  refine anyK_take 1 (oi := ?oo2) ?ho2 (by kernel_rfl) (by kernel_rfl) (by kernel_rfl) (by kernel_rfl) ?hq2 ?hw2 hT0 (fun _ => trivial) (v := ?vv2) ?hy2 ?hk2
  case ho2 => (simp only [List.getElem?_toArray, List.getElem?_cons_succ, List.getElem?_cons_zero]; rfl)
  case hq2 => exact fun _ _ _ h => h
  case hw2 => rfl
  case hy2 =>
    intro W hW
    go_simp
    first | done | with_reducible rfl
  case hk2 =>
  try simp only [Act.put, List.setIfInBounds_toArray, List.set_cons_zero, List.set_cons_succ]
  refine anyK_take 2 (oi := ?oo3) ?ho3 (by kernel_rfl) (by kernel_rfl) (by kernel_rfl) (by kernel_rfl) ?hq3 ?hw3 hT0 (fun _ => trivial) (v := ?vv3) ?hy3 ?hk3
  case ho3 => (simp only [List.getElem?_toArray, List.getElem?_cons_succ, List.getElem?_cons_zero]; rfl)
  case hq3 => exact fun _ _ _ h => h
  case hw3 => rfl
  case hy3 =>
    intro W hW
    go_simp
    first | done | with_reducible rfl
  case hk3 =>
  try simp only [Act.put, List.setIfInBounds_toArray, List.set_cons_zero, List.set_cons_succ]
  refine anyK_take 3 (oi := ?oo4) ?ho4 (by kernel_rfl) (by kernel_rfl) (by kernel_rfl) (by kernel_rfl) ?hq4 ?hw4 hT0 (fun _ => trivial) (v := ?vv4) ?hy4 ?hk4
  case ho4 => (simp only [List.getElem?_toArray, List.getElem?_cons_succ, List.getElem?_cons_zero]; rfl)
  case hq4 => exact fun _ _ _ h => h
  case hw4 => rfl
  case hy4 =>
    intro W hW
    go_simp
    first | done | with_reducible rfl
  case hk4 =>
  try simp only [Act.put, List.setIfInBounds_toArray, List.set_cons_zero, List.set_cons_succ]
  refine anyK_take 4 (oi := ?oo5) ?ho5 (by kernel_rfl) (by kernel_rfl) (by kernel_rfl) (by kernel_rfl) ?hq5 ?hw5 hT0 (fun _ => trivial) (v := ?vv5) ?hy5 ?hk5
  case ho5 => (simp only [List.getElem?_toArray, List.getElem?_cons_succ, List.getElem?_cons_zero]; rfl)
  case hq5 => exact fun _ _ _ h => h
  case hw5 => rfl
  case hy5 =>
    intro W hW
    go_simp
    first | done | with_reducible rfl
  case hk5 =>
  try simp only [Act.put, List.setIfInBounds_toArray, List.set_cons_zero, List.set_cons_succ]
  refine anyK_take 5 (oi := ?oo6) ?ho6 (by kernel_rfl) (by kernel_rfl) (by kernel_rfl) (by kernel_rfl) ?hq6 ?hw6 hT0 (fun _ => trivial) (v := ?vv6) ?hy6 ?hk6
  case ho6 => (simp only [List.getElem?_toArray, List.getElem?_cons_succ, List.getElem?_cons_zero]; rfl)
  case hq6 => exact fun _ _ _ h => h
  case hw6 => rfl
  case hy6 =>
    intro W hW
    go_simp
    first | done | with_reducible rfl
  case hk6 =>
  try simp only [Act.put, List.setIfInBounds_toArray, List.set_cons_zero, List.set_cons_succ]
  refine anyK_take 6 (oi := ?oo7) ?ho7 (by kernel_rfl) (by kernel_rfl) (by kernel_rfl) (by kernel_rfl) ?hq7 ?hw7 hT0 (fun _ => trivial) (v := ?vv7) ?hy7 ?hk7
  case ho7 => (simp only [List.getElem?_toArray, List.getElem?_cons_succ, List.getElem?_cons_zero]; rfl)
  case hq7 => exact fun _ _ _ h => h
  case hw7 => rfl
  case hy7 =>
    intro W hW
    go_simp
    first | done | with_reducible rfl
  case hk7 =>
  try simp only [Act.put, List.setIfInBounds_toArray, List.set_cons_zero, List.set_cons_succ]
  refine anyK_take 7 (oi := ?oo8) ?ho8 (by kernel_rfl) (by kernel_rfl) (by kernel_rfl) (by kernel_rfl) ?hq8 ?hw8 hT0 (fun _ => trivial) (v := ?vv8) ?hy8 ?hk8
  case ho8 => (simp only [List.getElem?_toArray, List.getElem?_cons_succ, List.getElem?_cons_zero]; rfl)
  case hq8 => exact fun _ _ _ h => h
  case hw8 => rfl
  case hy8 =>
    intro W hW
    go_simp
    first | done | with_reducible rfl
  case hk8 =>
  try simp only [Act.put, List.setIfInBounds_toArray, List.set_cons_zero, List.set_cons_succ]
  refine anyK_take 8 (oi := ?oo9) ?ho9 (by kernel_rfl) (by kernel_rfl) (by kernel_rfl) (by kernel_rfl) ?hq9 ?hw9 hT0 (fun _ => trivial) (v := ?vv9) ?hy9 ?hk9
  case ho9 => (simp only [List.getElem?_toArray, List.getElem?_cons_succ, List.getElem?_cons_zero]; rfl)
  case hq9 => exact fun _ _ _ h => h
  case hw9 => rfl
  case hy9 =>
    intro W hW
    go_simp
    first | done | with_reducible rfl
  case hk9 =>
  try simp only [Act.put, List.setIfInBounds_toArray, List.set_cons_zero, List.set_cons_succ]
  refine anyK_take 9 (oi := ?oo10) ?ho10 (by kernel_rfl) (by kernel_rfl) (by kernel_rfl) (by kernel_rfl) ?hq10 ?hw10 hT0 (fun _ => trivial) (v := ?vv10) ?hy10 ?hk10
  case ho10 => (simp only [List.getElem?_toArray, List.getElem?_cons_succ, List.getElem?_cons_zero]; rfl)
  case hq10 => exact fun _ _ _ h => h
  case hw10 => rfl
  case hy10 =>
    intro W hW
    go_simp
    first | done | with_reducible rfl
  case hk10 =>
  try simp only [Act.put, List.setIfInBounds_toArray, List.set_cons_zero, List.set_cons_succ]
  refine anyK_take 10 (oi := ?oo11) ?ho11 (by kernel_rfl) (by kernel_rfl) (by kernel_rfl) (by kernel_rfl) ?hq11 ?hw11 hT0 (fun _ => trivial) (v := ?vv11) ?hy11 ?hk11
  case ho11 => (simp only [List.getElem?_toArray, List.getElem?_cons_succ, List.getElem?_cons_zero]; rfl)
  case hq11 => exact fun _ _ _ h => h
  case hw11 => rfl
  case hy11 =>
    intro W hW
    obtain ⟨z0, z1, z2, z3, z4, z5⟩ := hW
    go_simp
    first | done | with_reducible rfl
  case hk11 =>
  try simp only [Act.put, List.setIfInBounds_toArray, List.set_cons_zero, List.set_cons_succ]
  refine anyK_on1 11 (by kernel_rfl) ?_
  refine anyK_one 11 (o := ?oo12) ?ho12 ?hk12
  case ho12 => (simp only [List.getElem?_toArray, List.getElem?_cons_succ, List.getElem?_cons_zero]; rfl)
  case hk12 =>
  intro K hK
  go_simp
  refine (put_any 2 _).mono ?_
  rintro e wp ⟨rfl, xx⟩
  try go_wp2_with fail
  replace yy := ext_trans yy xx
  have hT1 := keepK.out _ yy
  refine hK.out _ _ hT1 (fun _ => trivial) ?_
  clear hK K
  try simp only [Act.put, List.setIfInBounds_toArray, List.set_cons_zero, List.set_cons_succ]
  refine anyK_take 12 (oi := ?oo13) ?ho13 (by kernel_rfl) (by kernel_rfl) (by kernel_rfl) (by kernel_rfl) ?hq13 ?hw13 hT1 (fun _ => trivial) (v := ?vv13) ?hy13 ?hk13
  case ho13 => (simp only [List.getElem?_toArray, List.getElem?_cons_succ, List.getElem?_cons_zero]; rfl)
  case hq13 => exact fun _ _ _ h => h
  case hw13 => rfl
  case hy13 =>
    intro W hW
    go_simp
    first | done | with_reducible rfl
  case hk13 =>
  try simp only [Act.put, List.setIfInBounds_toArray, List.set_cons_zero, List.set_cons_succ]
  refine anyK_take 13 (oi := ?oo14) ?ho14 (by kernel_rfl) (by kernel_rfl) (by kernel_rfl) (by kernel_rfl) ?hq14 ?hw14 hT1 (fun _ => trivial) (v := ?vv14) ?hy14 ?hk14
  case ho14 => (simp only [List.getElem?_toArray, List.getElem?_cons_succ, List.getElem?_cons_zero]; rfl)
  case hq14 => exact fun _ _ _ h => h
  case hw14 => rfl
  case hy14 =>
    intro W hW
    go_simp
    first | done | with_reducible rfl
  case hk14 =>
  try simp only [Act.put, List.setIfInBounds_toArray, List.set_cons_zero, List.set_cons_succ]
  refine anyK_take 14 (oi := ?oo15) ?ho15 (by kernel_rfl) (by kernel_rfl) (by kernel_rfl) (by kernel_rfl) ?hq15 ?hw15 hT1 (fun _ => trivial) (v := ?vv15) ?hy15 ?hk15
  case ho15 => (simp only [List.getElem?_toArray, List.getElem?_cons_succ, List.getElem?_cons_zero]; rfl)
  case hq15 => exact fun _ _ _ h => h
  case hw15 => rfl
  case hy15 =>
    intro W hW
    go_simp
    first | done | with_reducible rfl
  case hk15 =>
  try simp only [Act.put, List.setIfInBounds_toArray, List.set_cons_zero, List.set_cons_succ]
  refine anyK_take 15 (oi := ?oo16) ?ho16 (by kernel_rfl) (by kernel_rfl) (by kernel_rfl) (by kernel_rfl) ?hq16 ?hw16 hT1 (fun _ => trivial) (v := ?vv16) ?hy16 ?hk16
  case ho16 => (simp only [List.getElem?_toArray, List.getElem?_cons_succ, List.getElem?_cons_zero]; rfl)
  case hq16 => exact fun _ _ _ h => h
  case hw16 => rfl
  case hy16 =>
    intro W hW
    go_simp
    first | done | with_reducible rfl
  case hk16 =>
  try simp only [Act.put, List.setIfInBounds_toArray, List.set_cons_zero, List.set_cons_succ]
  refine anyK_on1 16 (by kernel_rfl) ?_
  refine anyK_one 16 (o := ?oo17) ?ho17 ?hk17
  case ho17 => (simp only [List.getElem?_toArray, List.getElem?_cons_succ, List.getElem?_cons_zero]; rfl)
  case hk17 =>
  intro K hK
  go_simp
  refine (bscored_any _).mono ?_
  rintro e wq ⟨rfl, xx⟩
  try go_wp2_with fail
  replace yy := ext_trans yy xx
  have hT2 := keepK.out _ yy
  refine hK.out _ _ hT2 (fun _ => trivial) ?_
  clear hK K
  try simp only [Act.put, List.setIfInBounds_toArray, List.set_cons_zero, List.set_cons_succ]
  refine anyK_take 17 (oi := ?oo18) ?ho18 (by kernel_rfl) (by kernel_rfl) (by kernel_rfl) (by kernel_rfl) ?hq18 ?hw18 hT2 (fun _ => trivial) (v := ?vv18) ?hy18 ?hk18
  case ho18 => (simp only [List.getElem?_toArray, List.getElem?_cons_succ, List.getElem?_cons_zero]; rfl)
  case hq18 => exact fun _ _ _ h => h
  case hw18 => rfl
  case hy18 =>
    intro W hW
    go_simp
    first | done | with_reducible rfl
  case hk18 =>
  try simp only [Act.put, List.setIfInBounds_toArray, List.set_cons_zero, List.set_cons_succ]
  refine anyK_take 18 (oi := ?oo19) ?ho19 (by kernel_rfl) (by kernel_rfl) (by kernel_rfl) (by kernel_rfl) ?hq19 ?hw19 hT2 (fun _ => trivial) (v := ?vv19) ?hy19 ?hk19
  case ho19 => (simp only [List.getElem?_toArray, List.getElem?_cons_succ, List.getElem?_cons_zero]; rfl)
  case hq19 => exact fun _ _ _ h => h
  case hw19 => rfl
  case hy19 =>
    intro W hW
    go_simp
    first | done | with_reducible rfl
  case hk19 =>
  try simp only [Act.put, List.setIfInBounds_toArray, List.set_cons_zero, List.set_cons_succ]
  refine anyK_done (by kernel_rfl) ?_ _
  clear keepK hT0 hT1 hT2
  clear C0 C1 C2 C3 C4
  replace hR := hR.ext yy
  replace hP := hP.ext yy
  replace kR := kR.ext yy
  replace kP := kP.ext yy
  replace X := ext_trans X yy
  clear xx yy
  go_wp2_with fail
  refine (three_any _).mono ?_
  rintro e w6 ⟨v3, rfl, h3, x⟩
  replace hR := hR.ext x
  replace hP := hP.ext x
  replace kR := kR.ext x
  replace kP := kP.ext x
  replace X := ext_trans X x
  clear x
  go_wp2_with fail
  refine (near_any _).mono ?_
  rintro e w7 ⟨v4, rfl, h4, x⟩
  replace hR := hR.ext x
  replace hP := hP.ext x
  replace kR := kR.ext x
  replace kP := kP.ext x
  replace h3 := h3.ext x
  replace X := ext_trans X x
  clear x
  replace h4 := h4.at_
  go_wp2_with fail
  refine (HB.out _ _ _ h3 h4).mono ?_
  rintro e w8 ⟨rfl, x⟩
  replace hR := hR.ext x
  replace hP := hP.ext x
  replace kR := kR.ext x
  replace kP := kP.ext x
  replace h3 := h3.ext x
  replace h4 := h4.ext x
  replace X := ext_trans X x
  clear x
  clear h3 h4
  clear HB
  obtain ⟨xa, kM⟩ := blks1 w8 #[.int .i64 (-1), .int .i64 2, .int .i64 0] 37
  replace hR := hR.ext xa
  replace hP := hP.ext xa
  replace kR := kR.ext xa
  replace kP := kP.ext xa
  replace X := ext_trans X xa
  clear xa
  go_upto_region 5 with fail
  generalize (w8.alloc (.cells #[.int .i64 (-1), .int .i64 2, .int .i64 0] 37)) = w9 at *
  generalize w8.heap.size = BM at *
  have KM := hide kM
  clear kM
  have keepK := hide (fun W (h : Ext w9 W) => (show (fun W => W.cell? ⟨BM, 0, none⟩ = some (.int .i64 (-1)) ∧ W.cell? ⟨BM, 1, none⟩ = some (.int .i64 2) ∧ W.cell? ⟨BM, 2, none⟩ = some (.int .i64 0) ∧ Ext w9 W) W from ⟨(KM.out.ext h).cell 0, (KM.out.ext h).cell 1, (KM.out.ext h).cell 2, h⟩))
  have yy : Ext w9 w9.drew := Below.drew (Below.refl _ _)
  refine region_K (fun W => W.cell? ⟨BM, 0, none⟩ = some (.int .i64 (-1)) ∧ W.cell? ⟨BM, 1, none⟩ = some (.int .i64 2) ∧ W.cell? ⟨BM, 2, none⟩ = some (.int .i64 0) ∧ Ext w9 W) (fun _ => True) [] (by kernel_rfl) ?_
  have hT0 := keepK.out _ yy
  refine anyK_take 0 (oi := ?oo20) ?ho20 (by kernel_rfl) (by kernel_rfl) (by kernel_rfl) (by kernel_rfl) ?hq20 ?hw20 hT0 (fun _ => trivial) (v := ?vv20) ?hy20 ?hk20
  case ho20 => (simp only [List.getElem?_toArray, List.getElem?_cons_succ, List.getElem?_cons_zero]; rfl)
  case hq20 => exact fun _ _ _ h => h
  case hw20 => rfl
  case hy20 =>
    intro W hW
    go_simp
    first | done | with_reducible rfl
  case hk20 =>
  try simp only [Act.put, List.setIfInBounds_toArray, List.set_cons_zero, List.set_cons_succ]
  refine anyK_take 1 (oi := ?oo21) ?ho21 (by kernel_rfl) (by kernel_rfl) (by kernel_rfl) (by kernel_rfl) ?hq21 ?hw21 hT0 (fun _ => trivial) (v := ?vv21) ?hy21 ?hk21
  case ho21 => (simp only [List.getElem?_toArray, List.getElem?_cons_succ, List.getElem?_cons_zero]; rfl)
  case hq21 => exact fun _ _ _ h => h
  case hw21 => rfl
  case hy21 =>
    intro W hW
    go_simp
    first | done | with_reducible rfl
  case hk21 =>
  try simp only [Act.put, List.setIfInBounds_toArray, List.set_cons_zero, List.set_cons_succ]
  refine anyK_take 2 (oi := ?oo22) ?ho22 (by kernel_rfl) (by kernel_rfl) (by kernel_rfl) (by kernel_rfl) ?hq22 ?hw22 hT0 (fun _ => trivial) (v := ?vv22) ?hy22 ?hk22
  case ho22 => (simp only [List.getElem?_toArray, List.getElem?_cons_succ, List.getElem?_cons_zero]; rfl)
  case hq22 => exact fun _ _ _ h => h
  case hw22 => rfl
  case hy22 =>
    intro W hW
    go_simp
    first | done | with_reducible rfl
  case hk22 =>
  try simp only [Act.put, List.setIfInBounds_toArray, List.set_cons_zero, List.set_cons_succ]
  refine anyK_take 3 (oi := ?oo23) ?ho23 (by kernel_rfl) (by kernel_rfl) (by kernel_rfl) (by kernel_rfl) ?hq23 ?hw23 hT0 (fun _ => trivial) (v := ?vv23) ?hy23 ?hk23
  case ho23 => (simp only [List.getElem?_toArray, List.getElem?_cons_succ, List.getElem?_cons_zero]; rfl)
  case hq23 => exact fun _ _ _ h => h
  case hw23 => rfl
  case hy23 =>
    intro W hW
    obtain ⟨z0, z1, z2, z3⟩ := hW
    go_simp
    first | done | with_reducible rfl
  case hk23 =>
  try simp only [Act.put, List.setIfInBounds_toArray, List.set_cons_zero, List.set_cons_succ]
  refine anyK_on1 4 (by kernel_rfl) ?_
  refine anyK_one 4 (o := ?oo24) ?ho24 ?hk24
  case ho24 => (simp only [List.getElem?_toArray, List.getElem?_cons_succ, List.getElem?_cons_zero]; rfl)
  case hk24 =>
  intro K hK
  go_simp
  refine (put_any 2 _).mono ?_
  rintro e wr ⟨rfl, xx⟩
  try go_wp2_with fail
  replace yy := ext_trans yy xx
  have hT1 := keepK.out _ yy
  refine hK.out _ _ hT1 (fun _ => trivial) ?_
  clear hK K
  try simp only [Act.put, List.setIfInBounds_toArray, List.set_cons_zero, List.set_cons_succ]
  refine anyK_take 5 (oi := ?oo25) ?ho25 (by kernel_rfl) (by kernel_rfl) (by kernel_rfl) (by kernel_rfl) ?hq25 ?hw25 hT1 (fun _ => trivial) (v := ?vv25) ?hy25 ?hk25
  case ho25 => (simp only [List.getElem?_toArray, List.getElem?_cons_succ, List.getElem?_cons_zero]; rfl)
  case hq25 => exact fun _ _ _ h => h
  case hw25 => rfl
  case hy25 =>
    intro W hW
    go_simp
    first | done | with_reducible rfl
  case hk25 =>
  try simp only [Act.put, List.setIfInBounds_toArray, List.set_cons_zero, List.set_cons_succ]
  refine anyK_take 6 (oi := ?oo26) ?ho26 (by kernel_rfl) (by kernel_rfl) (by kernel_rfl) (by kernel_rfl) ?hq26 ?hw26 hT1 (fun _ => trivial) (v := ?vv26) ?hy26 ?hk26
  case ho26 => (simp only [List.getElem?_toArray, List.getElem?_cons_succ, List.getElem?_cons_zero]; rfl)
  case hq26 => exact fun _ _ _ h => h
  case hw26 => rfl
  case hy26 =>
    intro W hW
    go_simp
    first | done | with_reducible rfl
  case hk26 =>
  try simp only [Act.put, List.setIfInBounds_toArray, List.set_cons_zero, List.set_cons_succ]
  refine anyK_done (by kernel_rfl) ?_ _
  clear keepK hT0 hT1
  replace hR := hR.ext yy
  replace hP := hP.ext yy
  replace kR := kR.ext yy
  replace kP := kP.ext yy
  replace X := ext_trans X yy
  clear xx yy KM
  have fR := kR.cell
  have fP := kP.cell
  go_wp2_with fail
  refine (HHV.out _ _ _ hR hP).mono ?_
  rintro e w10 ⟨rfl, x⟩
  replace hR := hR.ext x
  replace hP := hP.ext x
  replace kR := kR.ext x
  replace kP := kP.ext x
  replace X := ext_trans X x
  replace fR := kR.cell
  replace fP := kP.cell
  clear x
  clear HHV
  clear fR fP
  go_wp2
  all_goals go_ret
  all_goals exact ⟨by first | rfl | simp, X⟩
set_option maxHeartbeats 4000000 in
set_option maxRecDepth 100000 in
theorem topWalk_big (R : RulesM) (P : PosM) (v u : Value) (s : Int) (w : World) (hR : RulesAt w v R) (hP : PosAt w u P) (hh : bheavyB R P 1 = false) (hb : 9 < P.cells.length) :
    Calls Try.prog 3 #[v, u, .int .i64 s] w fun e w' => e = .returned (.bool true) ∧ Ext w w' := by
  obtain ⟨-, nl, n1, n2, -⟩ := near_walk
  obtain ⟨nb0, nb1, nb2, nb3⟩ := near_best60
  have HA := hide (fun W (v1 v2 : Value) (h1 : RulesAt W v1 threeR) (h2 : PosAt W v2 nearP) => Run_yes threeR nearP v1 v2 5 1 W h1 h2 near_walk.1)
  have HB := hide (fun W (v1 v2 : Value) (h1 : RulesAt W v1 threeR) (h2 : PosAt W v2 nearP) => WBest_yes threeR nearP v1 v2 5 60 W h1 h2 nb0 (by decide))
  rw [show ((1 : Int)).toNat = 1 from rfl] at HA
  rw [show ((60 : Int)).toNat = 60 from rfl, nb1, nb2, nb3] at HB
  unfold RunPost at HA
  generalize walkM threeR 5 nearP 1 = L0 at *
  obtain ⟨y, hy⟩ : ∃ y, L0[0]? = some y := ⟨L0[0], List.getElem?_eq_getElem (by omega)⟩
  have hgd : L0.getD 0 ⟨⟨0, 0, 0⟩, 0, 0⟩ = y := by rw [List.getD_eq_getElem?_getD, hy]; rfl
  rw [hgd] at n1 n2
  have HY := hide hy
  have HN1 := hide n1
  have HN2 := hide n2
  have HNL := hide nl
  clear hy hgd n1 n2 nl nb0 nb1 nb2 nb3
  have HHV := hide (fun W (v1 v2 : Value) (h1 : RulesAt W v1 R) (h2 : PosAt W v2 P) => bheavy_any R P v1 v2 1 W h1 h2)
  rw [hh] at HHV
  clear hh
  have t0 : decide ((9 : Int) < (P.cells.length : Int)) = true := by simp; omega
  clear hb
  have hR0 := hR
  have hP0 := hP
  obtain ⟨pA, pc, sA, sc, eA, ec, rfl, -⟩ := hR0
  obtain ⟨cA, cc, aA, ac, bA, bc, rfl, -⟩ := hP0
  go_enter Try.func3, Try.ntmps3
  go_wp2_with fail
  obtain ⟨xa, kR, kP⟩ := blks2 w #[.string R.name, .int .i64 R.width, .int .i64 R.height, .slice pA R.pieces.length pc, .slice sA R.start.length sc, .bool R.falls, .bool R.keeps, .slice eA R.ends.length ec, .int .i64 R.blocked, .int .i64 R.quiet, .int .i64 R.rept] 26 #[.slice cA P.cells.length cc, .slice aA P.hand0.length ac, .slice bA P.hand1.length bc, .int .i64 P.turn, .int .i64 P.quiet] 29
  replace hR := hR.ext xa
  replace hP := hP.ext xa
  have X := xa
  clear xa
  generalize ((w.alloc (.cells #[.string R.name, .int .i64 R.width, .int .i64 R.height, .slice pA R.pieces.length pc, .slice sA R.start.length sc, .bool R.falls, .bool R.keeps, .slice eA R.ends.length ec, .int .i64 R.blocked, .int .i64 R.quiet, .int .i64 R.rept] 26)).alloc (.cells #[.slice cA P.cells.length cc, .slice aA P.hand0.length ac, .slice bA P.hand1.length bc, .int .i64 P.turn, .int .i64 P.quiet] 29)) = w2 at *
  generalize w.heap.size + 1 = BP at *
  generalize w.heap.size = BR at *
  refine (three_any _).mono ?_
  rintro e w3 ⟨v1, rfl, h1, x⟩
  replace hR := hR.ext x
  replace hP := hP.ext x
  replace kR := kR.ext x
  replace kP := kP.ext x
  replace X := ext_trans X x
  clear x
  go_wp2_with fail
  refine (near_any _).mono ?_
  rintro e w4 ⟨v2, rfl, h2, x⟩
  replace hR := hR.ext x
  replace hP := hP.ext x
  replace kR := kR.ext x
  replace kP := kP.ext x
  replace h1 := h1.ext x
  replace X := ext_trans X x
  clear x
  replace h2 := h2.at_
  go_wp2_with fail
  refine (HA.out _ _ _ h1 h2).mono ?_
  rintro e w5 ⟨vl, rfl, hl, x⟩
  replace hR := hR.ext x
  replace hP := hP.ext x
  replace kR := kR.ext x
  replace kP := kP.ext x
  replace h1 := h1.ext x
  replace h2 := h2.ext x
  replace X := ext_trans X x
  clear x
  obtain ⟨lA, lc, rfl, ol⟩ := hl
  have hc := (own_cells ol).1
  clear ol
  rw [HNL.out]
  clear h1 h2
  clear HA
  obtain ⟨bq, oq, rfl, c0, c1, c2, c3, c4⟩ := wm_get hc HY.out
  simp only [Nat.zero_mul, Nat.add_zero] at c0 c1 c2 c3 c4
  rw [HN1.out.1] at c0
  rw [HN1.out.2.1] at c1
  rw [HN1.out.2.2] at c2
  rw [HN2.out.1] at c3
  rw [HN2.out.2] at c4
  have C0 := hide c0
  have C1 := hide c1
  have C2 := hide c2
  have C3 := hide c3
  have C4 := hide c4
  clear c0 c1 c2 c3 c4 hc HY HN1 HN2 HNL
  go_upto_region 2 with fail
  have keepK := hide (fun W (h : Ext w5 W) => (show (fun W => W.cell? ⟨bq, oq, none⟩ = some (.int .i64 (-1)) ∧ W.cell? ⟨bq, oq + 1, none⟩ = some (.int .i64 2) ∧ W.cell? ⟨bq, oq + 2, none⟩ = some (.int .i64 0) ∧ W.cell? ⟨bq, oq + 3, none⟩ = some (.int .i64 1) ∧ W.cell? ⟨bq, oq + 4, none⟩ = some (.int .i64 2) ∧ Ext w5 W) W from ⟨h.cell C0.out, h.cell C1.out, h.cell C2.out, h.cell C3.out, h.cell C4.out, h⟩))
  have yy : Ext w5 w5.drew := Below.drew (Below.refl _ _)
  refine region_K (fun W => W.cell? ⟨bq, oq, none⟩ = some (.int .i64 (-1)) ∧ W.cell? ⟨bq, oq + 1, none⟩ = some (.int .i64 2) ∧ W.cell? ⟨bq, oq + 2, none⟩ = some (.int .i64 0) ∧ W.cell? ⟨bq, oq + 3, none⟩ = some (.int .i64 1) ∧ W.cell? ⟨bq, oq + 4, none⟩ = some (.int .i64 2) ∧ Ext w5 W) (fun _ => True) [] (by kernel_rfl) ?_
  have hT0 := keepK.out _ yy
  refine anyK_take 0 (oi := ?oo27) ?ho27 (by kernel_rfl) (by kernel_rfl) (by kernel_rfl) (by kernel_rfl) ?hq27 ?hw27 hT0 (fun _ => trivial) (v := ?vv27) ?hy27 ?hk27
  case ho27 => (simp only [List.getElem?_toArray, List.getElem?_cons_succ, List.getElem?_cons_zero]; rfl)
  case hq27 => exact fun _ _ _ h => h
  case hw27 => rfl
  case hy27 =>
    intro W hW
    go_simp
    first | done | with_reducible rfl
  case hk27 =>
  try simp only [Act.put, List.setIfInBounds_toArray, List.set_cons_zero, List.set_cons_succ]
  refine anyK_take 1 (oi := ?oo28) ?ho28 (by kernel_rfl) (by kernel_rfl) (by kernel_rfl) (by kernel_rfl) ?hq28 ?hw28 hT0 (fun _ => trivial) (v := ?vv28) ?hy28 ?hk28
  case ho28 => (simp only [List.getElem?_toArray, List.getElem?_cons_succ, List.getElem?_cons_zero]; rfl)
  case hq28 => exact fun _ _ _ h => h
  case hw28 => rfl
  case hy28 =>
    intro W hW
    go_simp
    first | done | with_reducible rfl
  case hk28 =>
  try simp only [Act.put, List.setIfInBounds_toArray, List.set_cons_zero, List.set_cons_succ]
  refine anyK_take 2 (oi := ?oo29) ?ho29 (by kernel_rfl) (by kernel_rfl) (by kernel_rfl) (by kernel_rfl) ?hq29 ?hw29 hT0 (fun _ => trivial) (v := ?vv29) ?hy29 ?hk29
  case ho29 => (simp only [List.getElem?_toArray, List.getElem?_cons_succ, List.getElem?_cons_zero]; rfl)
  case hq29 => exact fun _ _ _ h => h
  case hw29 => rfl
  case hy29 =>
    intro W hW
    go_simp
    first | done | with_reducible rfl
  case hk29 =>
  try simp only [Act.put, List.setIfInBounds_toArray, List.set_cons_zero, List.set_cons_succ]
  refine anyK_take 3 (oi := ?oo30) ?ho30 (by kernel_rfl) (by kernel_rfl) (by kernel_rfl) (by kernel_rfl) ?hq30 ?hw30 hT0 (fun _ => trivial) (v := ?vv30) ?hy30 ?hk30
  case ho30 => (simp only [List.getElem?_toArray, List.getElem?_cons_succ, List.getElem?_cons_zero]; rfl)
  case hq30 => exact fun _ _ _ h => h
  case hw30 => rfl
  case hy30 =>
    intro W hW
    go_simp
    first | done | with_reducible rfl
  case hk30 =>
  try simp only [Act.put, List.setIfInBounds_toArray, List.set_cons_zero, List.set_cons_succ]
  refine anyK_take 4 (oi := ?oo31) ?ho31 (by kernel_rfl) (by kernel_rfl) (by kernel_rfl) (by kernel_rfl) ?hq31 ?hw31 hT0 (fun _ => trivial) (v := ?vv31) ?hy31 ?hk31
  case ho31 => (simp only [List.getElem?_toArray, List.getElem?_cons_succ, List.getElem?_cons_zero]; rfl)
  case hq31 => exact fun _ _ _ h => h
  case hw31 => rfl
  case hy31 =>
    intro W hW
    go_simp
    first | done | with_reducible rfl
  case hk31 =>
  try simp only [Act.put, List.setIfInBounds_toArray, List.set_cons_zero, List.set_cons_succ]
  refine anyK_take 5 (oi := ?oo32) ?ho32 (by kernel_rfl) (by kernel_rfl) (by kernel_rfl) (by kernel_rfl) ?hq32 ?hw32 hT0 (fun _ => trivial) (v := ?vv32) ?hy32 ?hk32
  case ho32 => (simp only [List.getElem?_toArray, List.getElem?_cons_succ, List.getElem?_cons_zero]; rfl)
  case hq32 => exact fun _ _ _ h => h
  case hw32 => rfl
  case hy32 =>
    intro W hW
    go_simp
    first | done | with_reducible rfl
  case hk32 =>
  try simp only [Act.put, List.setIfInBounds_toArray, List.set_cons_zero, List.set_cons_succ]
  refine anyK_take 6 (oi := ?oo33) ?ho33 (by kernel_rfl) (by kernel_rfl) (by kernel_rfl) (by kernel_rfl) ?hq33 ?hw33 hT0 (fun _ => trivial) (v := ?vv33) ?hy33 ?hk33
  case ho33 => (simp only [List.getElem?_toArray, List.getElem?_cons_succ, List.getElem?_cons_zero]; rfl)
  case hq33 => exact fun _ _ _ h => h
  case hw33 => rfl
  case hy33 =>
    intro W hW
    go_simp
    first | done | with_reducible rfl
  case hk33 =>
  try simp only [Act.put, List.setIfInBounds_toArray, List.set_cons_zero, List.set_cons_succ]
  refine anyK_take 7 (oi := ?oo34) ?ho34 (by kernel_rfl) (by kernel_rfl) (by kernel_rfl) (by kernel_rfl) ?hq34 ?hw34 hT0 (fun _ => trivial) (v := ?vv34) ?hy34 ?hk34
  case ho34 => (simp only [List.getElem?_toArray, List.getElem?_cons_succ, List.getElem?_cons_zero]; rfl)
  case hq34 => exact fun _ _ _ h => h
  case hw34 => rfl
  case hy34 =>
    intro W hW
    go_simp
    first | done | with_reducible rfl
  case hk34 =>
  try simp only [Act.put, List.setIfInBounds_toArray, List.set_cons_zero, List.set_cons_succ]
  refine anyK_take 8 (oi := ?oo35) ?ho35 (by kernel_rfl) (by kernel_rfl) (by kernel_rfl) (by kernel_rfl) ?hq35 ?hw35 hT0 (fun _ => trivial) (v := ?vv35) ?hy35 ?hk35
  case ho35 => (simp only [List.getElem?_toArray, List.getElem?_cons_succ, List.getElem?_cons_zero]; rfl)
  case hq35 => exact fun _ _ _ h => h
  case hw35 => rfl
  case hy35 =>
    intro W hW
    go_simp
    first | done | with_reducible rfl
  case hk35 =>
  try simp only [Act.put, List.setIfInBounds_toArray, List.set_cons_zero, List.set_cons_succ]
  refine anyK_take 9 (oi := ?oo36) ?ho36 (by kernel_rfl) (by kernel_rfl) (by kernel_rfl) (by kernel_rfl) ?hq36 ?hw36 hT0 (fun _ => trivial) (v := ?vv36) ?hy36 ?hk36
  case ho36 => (simp only [List.getElem?_toArray, List.getElem?_cons_succ, List.getElem?_cons_zero]; rfl)
  case hq36 => exact fun _ _ _ h => h
  case hw36 => rfl
  case hy36 =>
    intro W hW
    go_simp
    first | done | with_reducible rfl
  case hk36 =>
  try simp only [Act.put, List.setIfInBounds_toArray, List.set_cons_zero, List.set_cons_succ]
  refine anyK_take 10 (oi := ?oo37) ?ho37 (by kernel_rfl) (by kernel_rfl) (by kernel_rfl) (by kernel_rfl) ?hq37 ?hw37 hT0 (fun _ => trivial) (v := ?vv37) ?hy37 ?hk37
  case ho37 => (simp only [List.getElem?_toArray, List.getElem?_cons_succ, List.getElem?_cons_zero]; rfl)
  case hq37 => exact fun _ _ _ h => h
  case hw37 => rfl
  case hy37 =>
    intro W hW
    obtain ⟨z0, z1, z2, z3, z4, z5⟩ := hW
    go_simp
    first | done | with_reducible rfl
  case hk37 =>
  try simp only [Act.put, List.setIfInBounds_toArray, List.set_cons_zero, List.set_cons_succ]
  refine anyK_on1 11 (by kernel_rfl) ?_
  refine anyK_one 11 (o := ?oo38) ?ho38 ?hk38
  case ho38 => (simp only [List.getElem?_toArray, List.getElem?_cons_succ, List.getElem?_cons_zero]; rfl)
  case hk38 =>
  intro K hK
  go_simp
  refine (put_any 2 _).mono ?_
  rintro e wp ⟨rfl, xx⟩
  try go_wp2_with fail
  replace yy := ext_trans yy xx
  have hT1 := keepK.out _ yy
  refine hK.out _ _ hT1 (fun _ => trivial) ?_
  clear hK K
  try simp only [Act.put, List.setIfInBounds_toArray, List.set_cons_zero, List.set_cons_succ]
  refine anyK_take 12 (oi := ?oo39) ?ho39 (by kernel_rfl) (by kernel_rfl) (by kernel_rfl) (by kernel_rfl) ?hq39 ?hw39 hT1 (fun _ => trivial) (v := ?vv39) ?hy39 ?hk39
  case ho39 => (simp only [List.getElem?_toArray, List.getElem?_cons_succ, List.getElem?_cons_zero]; rfl)
  case hq39 => exact fun _ _ _ h => h
  case hw39 => rfl
  case hy39 =>
    intro W hW
    go_simp
    first | done | with_reducible rfl
  case hk39 =>
  try simp only [Act.put, List.setIfInBounds_toArray, List.set_cons_zero, List.set_cons_succ]
  refine anyK_take 13 (oi := ?oo40) ?ho40 (by kernel_rfl) (by kernel_rfl) (by kernel_rfl) (by kernel_rfl) ?hq40 ?hw40 hT1 (fun _ => trivial) (v := ?vv40) ?hy40 ?hk40
  case ho40 => (simp only [List.getElem?_toArray, List.getElem?_cons_succ, List.getElem?_cons_zero]; rfl)
  case hq40 => exact fun _ _ _ h => h
  case hw40 => rfl
  case hy40 =>
    intro W hW
    go_simp
    first | done | with_reducible rfl
  case hk40 =>
  try simp only [Act.put, List.setIfInBounds_toArray, List.set_cons_zero, List.set_cons_succ]
  refine anyK_take 14 (oi := ?oo41) ?ho41 (by kernel_rfl) (by kernel_rfl) (by kernel_rfl) (by kernel_rfl) ?hq41 ?hw41 hT1 (fun _ => trivial) (v := ?vv41) ?hy41 ?hk41
  case ho41 => (simp only [List.getElem?_toArray, List.getElem?_cons_succ, List.getElem?_cons_zero]; rfl)
  case hq41 => exact fun _ _ _ h => h
  case hw41 => rfl
  case hy41 =>
    intro W hW
    go_simp
    first | done | with_reducible rfl
  case hk41 =>
  try simp only [Act.put, List.setIfInBounds_toArray, List.set_cons_zero, List.set_cons_succ]
  refine anyK_take 15 (oi := ?oo42) ?ho42 (by kernel_rfl) (by kernel_rfl) (by kernel_rfl) (by kernel_rfl) ?hq42 ?hw42 hT1 (fun _ => trivial) (v := ?vv42) ?hy42 ?hk42
  case ho42 => (simp only [List.getElem?_toArray, List.getElem?_cons_succ, List.getElem?_cons_zero]; rfl)
  case hq42 => exact fun _ _ _ h => h
  case hw42 => rfl
  case hy42 =>
    intro W hW
    go_simp
    first | done | with_reducible rfl
  case hk42 =>
  try simp only [Act.put, List.setIfInBounds_toArray, List.set_cons_zero, List.set_cons_succ]
  refine anyK_on1 16 (by kernel_rfl) ?_
  refine anyK_one 16 (o := ?oo43) ?ho43 ?hk43
  case ho43 => (simp only [List.getElem?_toArray, List.getElem?_cons_succ, List.getElem?_cons_zero]; rfl)
  case hk43 =>
  intro K hK
  go_simp
  refine (bscored_any _).mono ?_
  rintro e wq ⟨rfl, xx⟩
  try go_wp2_with fail
  replace yy := ext_trans yy xx
  have hT2 := keepK.out _ yy
  refine hK.out _ _ hT2 (fun _ => trivial) ?_
  clear hK K
  try simp only [Act.put, List.setIfInBounds_toArray, List.set_cons_zero, List.set_cons_succ]
  refine anyK_take 17 (oi := ?oo44) ?ho44 (by kernel_rfl) (by kernel_rfl) (by kernel_rfl) (by kernel_rfl) ?hq44 ?hw44 hT2 (fun _ => trivial) (v := ?vv44) ?hy44 ?hk44
  case ho44 => (simp only [List.getElem?_toArray, List.getElem?_cons_succ, List.getElem?_cons_zero]; rfl)
  case hq44 => exact fun _ _ _ h => h
  case hw44 => rfl
  case hy44 =>
    intro W hW
    go_simp
    first | done | with_reducible rfl
  case hk44 =>
  try simp only [Act.put, List.setIfInBounds_toArray, List.set_cons_zero, List.set_cons_succ]
  refine anyK_take 18 (oi := ?oo45) ?ho45 (by kernel_rfl) (by kernel_rfl) (by kernel_rfl) (by kernel_rfl) ?hq45 ?hw45 hT2 (fun _ => trivial) (v := ?vv45) ?hy45 ?hk45
  case ho45 => (simp only [List.getElem?_toArray, List.getElem?_cons_succ, List.getElem?_cons_zero]; rfl)
  case hq45 => exact fun _ _ _ h => h
  case hw45 => rfl
  case hy45 =>
    intro W hW
    go_simp
    first | done | with_reducible rfl
  case hk45 =>
  try simp only [Act.put, List.setIfInBounds_toArray, List.set_cons_zero, List.set_cons_succ]
  refine anyK_done (by kernel_rfl) ?_ _
  clear keepK hT0 hT1 hT2
  clear C0 C1 C2 C3 C4
  replace hR := hR.ext yy
  replace hP := hP.ext yy
  replace kR := kR.ext yy
  replace kP := kP.ext yy
  replace X := ext_trans X yy
  clear xx yy
  go_wp2_with fail
  refine (three_any _).mono ?_
  rintro e w6 ⟨v3, rfl, h3, x⟩
  replace hR := hR.ext x
  replace hP := hP.ext x
  replace kR := kR.ext x
  replace kP := kP.ext x
  replace X := ext_trans X x
  clear x
  go_wp2_with fail
  refine (near_any _).mono ?_
  rintro e w7 ⟨v4, rfl, h4, x⟩
  replace hR := hR.ext x
  replace hP := hP.ext x
  replace kR := kR.ext x
  replace kP := kP.ext x
  replace h3 := h3.ext x
  replace X := ext_trans X x
  clear x
  replace h4 := h4.at_
  go_wp2_with fail
  refine (HB.out _ _ _ h3 h4).mono ?_
  rintro e w8 ⟨rfl, x⟩
  replace hR := hR.ext x
  replace hP := hP.ext x
  replace kR := kR.ext x
  replace kP := kP.ext x
  replace h3 := h3.ext x
  replace h4 := h4.ext x
  replace X := ext_trans X x
  clear x
  clear h3 h4
  clear HB
  obtain ⟨xa, kM⟩ := blks1 w8 #[.int .i64 (-1), .int .i64 2, .int .i64 0] 37
  replace hR := hR.ext xa
  replace hP := hP.ext xa
  replace kR := kR.ext xa
  replace kP := kP.ext xa
  replace X := ext_trans X xa
  clear xa
  go_upto_region 5 with fail
  generalize (w8.alloc (.cells #[.int .i64 (-1), .int .i64 2, .int .i64 0] 37)) = w9 at *
  generalize w8.heap.size = BM at *
  have KM := hide kM
  clear kM
  have keepK := hide (fun W (h : Ext w9 W) => (show (fun W => W.cell? ⟨BM, 0, none⟩ = some (.int .i64 (-1)) ∧ W.cell? ⟨BM, 1, none⟩ = some (.int .i64 2) ∧ W.cell? ⟨BM, 2, none⟩ = some (.int .i64 0) ∧ Ext w9 W) W from ⟨(KM.out.ext h).cell 0, (KM.out.ext h).cell 1, (KM.out.ext h).cell 2, h⟩))
  have yy : Ext w9 w9.drew := Below.drew (Below.refl _ _)
  refine region_K (fun W => W.cell? ⟨BM, 0, none⟩ = some (.int .i64 (-1)) ∧ W.cell? ⟨BM, 1, none⟩ = some (.int .i64 2) ∧ W.cell? ⟨BM, 2, none⟩ = some (.int .i64 0) ∧ Ext w9 W) (fun _ => True) [] (by kernel_rfl) ?_
  have hT0 := keepK.out _ yy
  refine anyK_take 0 (oi := ?oo46) ?ho46 (by kernel_rfl) (by kernel_rfl) (by kernel_rfl) (by kernel_rfl) ?hq46 ?hw46 hT0 (fun _ => trivial) (v := ?vv46) ?hy46 ?hk46
  case ho46 => (simp only [List.getElem?_toArray, List.getElem?_cons_succ, List.getElem?_cons_zero]; rfl)
  case hq46 => exact fun _ _ _ h => h
  case hw46 => rfl
  case hy46 =>
    intro W hW
    go_simp
    first | done | with_reducible rfl
  case hk46 =>
  try simp only [Act.put, List.setIfInBounds_toArray, List.set_cons_zero, List.set_cons_succ]
  refine anyK_take 1 (oi := ?oo47) ?ho47 (by kernel_rfl) (by kernel_rfl) (by kernel_rfl) (by kernel_rfl) ?hq47 ?hw47 hT0 (fun _ => trivial) (v := ?vv47) ?hy47 ?hk47
  case ho47 => (simp only [List.getElem?_toArray, List.getElem?_cons_succ, List.getElem?_cons_zero]; rfl)
  case hq47 => exact fun _ _ _ h => h
  case hw47 => rfl
  case hy47 =>
    intro W hW
    go_simp
    first | done | with_reducible rfl
  case hk47 =>
  try simp only [Act.put, List.setIfInBounds_toArray, List.set_cons_zero, List.set_cons_succ]
  refine anyK_take 2 (oi := ?oo48) ?ho48 (by kernel_rfl) (by kernel_rfl) (by kernel_rfl) (by kernel_rfl) ?hq48 ?hw48 hT0 (fun _ => trivial) (v := ?vv48) ?hy48 ?hk48
  case ho48 => (simp only [List.getElem?_toArray, List.getElem?_cons_succ, List.getElem?_cons_zero]; rfl)
  case hq48 => exact fun _ _ _ h => h
  case hw48 => rfl
  case hy48 =>
    intro W hW
    go_simp
    first | done | with_reducible rfl
  case hk48 =>
  try simp only [Act.put, List.setIfInBounds_toArray, List.set_cons_zero, List.set_cons_succ]
  refine anyK_take 3 (oi := ?oo49) ?ho49 (by kernel_rfl) (by kernel_rfl) (by kernel_rfl) (by kernel_rfl) ?hq49 ?hw49 hT0 (fun _ => trivial) (v := ?vv49) ?hy49 ?hk49
  case ho49 => (simp only [List.getElem?_toArray, List.getElem?_cons_succ, List.getElem?_cons_zero]; rfl)
  case hq49 => exact fun _ _ _ h => h
  case hw49 => rfl
  case hy49 =>
    intro W hW
    obtain ⟨z0, z1, z2, z3⟩ := hW
    go_simp
    first | done | with_reducible rfl
  case hk49 =>
  try simp only [Act.put, List.setIfInBounds_toArray, List.set_cons_zero, List.set_cons_succ]
  refine anyK_on1 4 (by kernel_rfl) ?_
  refine anyK_one 4 (o := ?oo50) ?ho50 ?hk50
  case ho50 => (simp only [List.getElem?_toArray, List.getElem?_cons_succ, List.getElem?_cons_zero]; rfl)
  case hk50 =>
  intro K hK
  go_simp
  refine (put_any 2 _).mono ?_
  rintro e wr ⟨rfl, xx⟩
  try go_wp2_with fail
  replace yy := ext_trans yy xx
  have hT1 := keepK.out _ yy
  refine hK.out _ _ hT1 (fun _ => trivial) ?_
  clear hK K
  try simp only [Act.put, List.setIfInBounds_toArray, List.set_cons_zero, List.set_cons_succ]
  refine anyK_take 5 (oi := ?oo51) ?ho51 (by kernel_rfl) (by kernel_rfl) (by kernel_rfl) (by kernel_rfl) ?hq51 ?hw51 hT1 (fun _ => trivial) (v := ?vv51) ?hy51 ?hk51
  case ho51 => (simp only [List.getElem?_toArray, List.getElem?_cons_succ, List.getElem?_cons_zero]; rfl)
  case hq51 => exact fun _ _ _ h => h
  case hw51 => rfl
  case hy51 =>
    intro W hW
    go_simp
    first | done | with_reducible rfl
  case hk51 =>
  try simp only [Act.put, List.setIfInBounds_toArray, List.set_cons_zero, List.set_cons_succ]
  refine anyK_take 6 (oi := ?oo52) ?ho52 (by kernel_rfl) (by kernel_rfl) (by kernel_rfl) (by kernel_rfl) ?hq52 ?hw52 hT1 (fun _ => trivial) (v := ?vv52) ?hy52 ?hk52
  case ho52 => (simp only [List.getElem?_toArray, List.getElem?_cons_succ, List.getElem?_cons_zero]; rfl)
  case hq52 => exact fun _ _ _ h => h
  case hw52 => rfl
  case hy52 =>
    intro W hW
    go_simp
    first | done | with_reducible rfl
  case hk52 =>
  try simp only [Act.put, List.setIfInBounds_toArray, List.set_cons_zero, List.set_cons_succ]
  refine anyK_done (by kernel_rfl) ?_ _
  clear keepK hT0 hT1
  replace hR := hR.ext yy
  replace hP := hP.ext yy
  replace kR := kR.ext yy
  replace kP := kP.ext yy
  replace X := ext_trans X yy
  clear xx yy KM
  have fR := kR.cell
  have fP := kP.cell
  go_wp2_with fail
  refine (HHV.out _ _ _ hR hP).mono ?_
  rintro e w10 ⟨rfl, x⟩
  replace hR := hR.ext x
  replace hP := hP.ext x
  replace kR := kR.ext x
  replace kP := kP.ext x
  replace X := ext_trans X x
  replace fR := kR.cell
  replace fP := kP.cell
  clear x
  clear HHV
  clear fR
  go_wp2
  all_goals go_ret
  all_goals exact ⟨by first | rfl | simp, X⟩
set_option maxHeartbeats 4000000 in
set_option maxRecDepth 100000 in
theorem topWalk_bad (R : RulesM) (P : PosM) (v u : Value) (s : Int) (w : World) (hR : RulesAt w v R) (hP : PosAt w u P) (hh : bheavyB R P 1 = false) (hb : ¬ 9 < P.cells.length) (he : runE R P s 40 ≠ 0) :
    Calls Try.prog 3 #[v, u, .int .i64 s] w fun e w' => e = .returned (.bool true) ∧ Ext w w' := by
  obtain ⟨-, nl, n1, n2, -⟩ := near_walk
  obtain ⟨nb0, nb1, nb2, nb3⟩ := near_best60
  have HA := hide (fun W (v1 v2 : Value) (h1 : RulesAt W v1 threeR) (h2 : PosAt W v2 nearP) => Run_yes threeR nearP v1 v2 5 1 W h1 h2 near_walk.1)
  have HB := hide (fun W (v1 v2 : Value) (h1 : RulesAt W v1 threeR) (h2 : PosAt W v2 nearP) => WBest_yes threeR nearP v1 v2 5 60 W h1 h2 nb0 (by decide))
  rw [show ((1 : Int)).toNat = 1 from rfl] at HA
  rw [show ((60 : Int)).toNat = 60 from rfl, nb1, nb2, nb3] at HB
  unfold RunPost at HA
  generalize walkM threeR 5 nearP 1 = L0 at *
  obtain ⟨y, hy⟩ : ∃ y, L0[0]? = some y := ⟨L0[0], List.getElem?_eq_getElem (by omega)⟩
  have hgd : L0.getD 0 ⟨⟨0, 0, 0⟩, 0, 0⟩ = y := by rw [List.getD_eq_getElem?_getD, hy]; rfl
  rw [hgd] at n1 n2
  have HY := hide hy
  have HN1 := hide n1
  have HN2 := hide n2
  have HNL := hide nl
  clear hy hgd n1 n2 nl nb0 nb1 nb2 nb3
  have HHV := hide (fun W (v1 v2 : Value) (h1 : RulesAt W v1 R) (h2 : PosAt W v2 P) => bheavy_any R P v1 v2 1 W h1 h2)
  rw [hh] at HHV
  clear hh
  have t0 : decide ((9 : Int) < (P.cells.length : Int)) = false := by simp; omega
  have HB1 := hide (fun W (v1 v2 : Value) (h1 : RulesAt W v1 R) (h2 : PosAt W v2 P) => Run_no R P v1 v2 s 40 W h1 h2 he)
  have HB2 := hide (fun W (v1 v2 : Value) (h1 : RulesAt W v1 R) (h2 : PosAt W v2 P) => WBest_no R P v1 v2 s 40 W h1 h2 he)
  have t1 : (runE R P s 40 != 0) = true := by simpa using he
  clear hb he
  generalize runE R P s 40 = E at *
  have t2 : (E == E) = true := beq_self_eq_true E
  have hR0 := hR
  have hP0 := hP
  obtain ⟨pA, pc, sA, sc, eA, ec, rfl, -⟩ := hR0
  obtain ⟨cA, cc, aA, ac, bA, bc, rfl, -⟩ := hP0
  go_enter Try.func3, Try.ntmps3
  go_wp2_with fail
  obtain ⟨xa, kR, kP⟩ := blks2 w #[.string R.name, .int .i64 R.width, .int .i64 R.height, .slice pA R.pieces.length pc, .slice sA R.start.length sc, .bool R.falls, .bool R.keeps, .slice eA R.ends.length ec, .int .i64 R.blocked, .int .i64 R.quiet, .int .i64 R.rept] 26 #[.slice cA P.cells.length cc, .slice aA P.hand0.length ac, .slice bA P.hand1.length bc, .int .i64 P.turn, .int .i64 P.quiet] 29
  replace hR := hR.ext xa
  replace hP := hP.ext xa
  have X := xa
  clear xa
  generalize ((w.alloc (.cells #[.string R.name, .int .i64 R.width, .int .i64 R.height, .slice pA R.pieces.length pc, .slice sA R.start.length sc, .bool R.falls, .bool R.keeps, .slice eA R.ends.length ec, .int .i64 R.blocked, .int .i64 R.quiet, .int .i64 R.rept] 26)).alloc (.cells #[.slice cA P.cells.length cc, .slice aA P.hand0.length ac, .slice bA P.hand1.length bc, .int .i64 P.turn, .int .i64 P.quiet] 29)) = w2 at *
  generalize w.heap.size + 1 = BP at *
  generalize w.heap.size = BR at *
  refine (three_any _).mono ?_
  rintro e w3 ⟨v1, rfl, h1, x⟩
  replace hR := hR.ext x
  replace hP := hP.ext x
  replace kR := kR.ext x
  replace kP := kP.ext x
  replace X := ext_trans X x
  clear x
  go_wp2_with fail
  refine (near_any _).mono ?_
  rintro e w4 ⟨v2, rfl, h2, x⟩
  replace hR := hR.ext x
  replace hP := hP.ext x
  replace kR := kR.ext x
  replace kP := kP.ext x
  replace h1 := h1.ext x
  replace X := ext_trans X x
  clear x
  replace h2 := h2.at_
  go_wp2_with fail
  refine (HA.out _ _ _ h1 h2).mono ?_
  rintro e w5 ⟨vl, rfl, hl, x⟩
  replace hR := hR.ext x
  replace hP := hP.ext x
  replace kR := kR.ext x
  replace kP := kP.ext x
  replace h1 := h1.ext x
  replace h2 := h2.ext x
  replace X := ext_trans X x
  clear x
  obtain ⟨lA, lc, rfl, ol⟩ := hl
  have hc := (own_cells ol).1
  clear ol
  rw [HNL.out]
  clear h1 h2
  clear HA
  obtain ⟨bq, oq, rfl, c0, c1, c2, c3, c4⟩ := wm_get hc HY.out
  simp only [Nat.zero_mul, Nat.add_zero] at c0 c1 c2 c3 c4
  rw [HN1.out.1] at c0
  rw [HN1.out.2.1] at c1
  rw [HN1.out.2.2] at c2
  rw [HN2.out.1] at c3
  rw [HN2.out.2] at c4
  have C0 := hide c0
  have C1 := hide c1
  have C2 := hide c2
  have C3 := hide c3
  have C4 := hide c4
  clear c0 c1 c2 c3 c4 hc HY HN1 HN2 HNL
  go_upto_region 2 with fail
  have keepK := hide (fun W (h : Ext w5 W) => (show (fun W => W.cell? ⟨bq, oq, none⟩ = some (.int .i64 (-1)) ∧ W.cell? ⟨bq, oq + 1, none⟩ = some (.int .i64 2) ∧ W.cell? ⟨bq, oq + 2, none⟩ = some (.int .i64 0) ∧ W.cell? ⟨bq, oq + 3, none⟩ = some (.int .i64 1) ∧ W.cell? ⟨bq, oq + 4, none⟩ = some (.int .i64 2) ∧ Ext w5 W) W from ⟨h.cell C0.out, h.cell C1.out, h.cell C2.out, h.cell C3.out, h.cell C4.out, h⟩))
  have yy : Ext w5 w5.drew := Below.drew (Below.refl _ _)
  refine region_K (fun W => W.cell? ⟨bq, oq, none⟩ = some (.int .i64 (-1)) ∧ W.cell? ⟨bq, oq + 1, none⟩ = some (.int .i64 2) ∧ W.cell? ⟨bq, oq + 2, none⟩ = some (.int .i64 0) ∧ W.cell? ⟨bq, oq + 3, none⟩ = some (.int .i64 1) ∧ W.cell? ⟨bq, oq + 4, none⟩ = some (.int .i64 2) ∧ Ext w5 W) (fun _ => True) [] (by kernel_rfl) ?_
  have hT0 := keepK.out _ yy
  refine anyK_take 0 (oi := ?oo53) ?ho53 (by kernel_rfl) (by kernel_rfl) (by kernel_rfl) (by kernel_rfl) ?hq53 ?hw53 hT0 (fun _ => trivial) (v := ?vv53) ?hy53 ?hk53
  case ho53 => (simp only [List.getElem?_toArray, List.getElem?_cons_succ, List.getElem?_cons_zero]; rfl)
  case hq53 => exact fun _ _ _ h => h
  case hw53 => rfl
  case hy53 =>
    intro W hW
    go_simp
    first | done | with_reducible rfl
  case hk53 =>
  try simp only [Act.put, List.setIfInBounds_toArray, List.set_cons_zero, List.set_cons_succ]
  refine anyK_take 1 (oi := ?oo54) ?ho54 (by kernel_rfl) (by kernel_rfl) (by kernel_rfl) (by kernel_rfl) ?hq54 ?hw54 hT0 (fun _ => trivial) (v := ?vv54) ?hy54 ?hk54
  case ho54 => (simp only [List.getElem?_toArray, List.getElem?_cons_succ, List.getElem?_cons_zero]; rfl)
  case hq54 => exact fun _ _ _ h => h
  case hw54 => rfl
  case hy54 =>
    intro W hW
    go_simp
    first | done | with_reducible rfl
  case hk54 =>
  try simp only [Act.put, List.setIfInBounds_toArray, List.set_cons_zero, List.set_cons_succ]
  refine anyK_take 2 (oi := ?oo55) ?ho55 (by kernel_rfl) (by kernel_rfl) (by kernel_rfl) (by kernel_rfl) ?hq55 ?hw55 hT0 (fun _ => trivial) (v := ?vv55) ?hy55 ?hk55
  case ho55 => (simp only [List.getElem?_toArray, List.getElem?_cons_succ, List.getElem?_cons_zero]; rfl)
  case hq55 => exact fun _ _ _ h => h
  case hw55 => rfl
  case hy55 =>
    intro W hW
    go_simp
    first | done | with_reducible rfl
  case hk55 =>
  try simp only [Act.put, List.setIfInBounds_toArray, List.set_cons_zero, List.set_cons_succ]
  refine anyK_take 3 (oi := ?oo56) ?ho56 (by kernel_rfl) (by kernel_rfl) (by kernel_rfl) (by kernel_rfl) ?hq56 ?hw56 hT0 (fun _ => trivial) (v := ?vv56) ?hy56 ?hk56
  case ho56 => (simp only [List.getElem?_toArray, List.getElem?_cons_succ, List.getElem?_cons_zero]; rfl)
  case hq56 => exact fun _ _ _ h => h
  case hw56 => rfl
  case hy56 =>
    intro W hW
    go_simp
    first | done | with_reducible rfl
  case hk56 =>
  try simp only [Act.put, List.setIfInBounds_toArray, List.set_cons_zero, List.set_cons_succ]
  refine anyK_take 4 (oi := ?oo57) ?ho57 (by kernel_rfl) (by kernel_rfl) (by kernel_rfl) (by kernel_rfl) ?hq57 ?hw57 hT0 (fun _ => trivial) (v := ?vv57) ?hy57 ?hk57
  case ho57 => (simp only [List.getElem?_toArray, List.getElem?_cons_succ, List.getElem?_cons_zero]; rfl)
  case hq57 => exact fun _ _ _ h => h
  case hw57 => rfl
  case hy57 =>
    intro W hW
    go_simp
    first | done | with_reducible rfl
  case hk57 =>
  try simp only [Act.put, List.setIfInBounds_toArray, List.set_cons_zero, List.set_cons_succ]
  refine anyK_take 5 (oi := ?oo58) ?ho58 (by kernel_rfl) (by kernel_rfl) (by kernel_rfl) (by kernel_rfl) ?hq58 ?hw58 hT0 (fun _ => trivial) (v := ?vv58) ?hy58 ?hk58
  case ho58 => (simp only [List.getElem?_toArray, List.getElem?_cons_succ, List.getElem?_cons_zero]; rfl)
  case hq58 => exact fun _ _ _ h => h
  case hw58 => rfl
  case hy58 =>
    intro W hW
    go_simp
    first | done | with_reducible rfl
  case hk58 =>
  try simp only [Act.put, List.setIfInBounds_toArray, List.set_cons_zero, List.set_cons_succ]
  refine anyK_take 6 (oi := ?oo59) ?ho59 (by kernel_rfl) (by kernel_rfl) (by kernel_rfl) (by kernel_rfl) ?hq59 ?hw59 hT0 (fun _ => trivial) (v := ?vv59) ?hy59 ?hk59
  case ho59 => (simp only [List.getElem?_toArray, List.getElem?_cons_succ, List.getElem?_cons_zero]; rfl)
  case hq59 => exact fun _ _ _ h => h
  case hw59 => rfl
  case hy59 =>
    intro W hW
    go_simp
    first | done | with_reducible rfl
  case hk59 =>
  try simp only [Act.put, List.setIfInBounds_toArray, List.set_cons_zero, List.set_cons_succ]
  refine anyK_take 7 (oi := ?oo60) ?ho60 (by kernel_rfl) (by kernel_rfl) (by kernel_rfl) (by kernel_rfl) ?hq60 ?hw60 hT0 (fun _ => trivial) (v := ?vv60) ?hy60 ?hk60
  case ho60 => (simp only [List.getElem?_toArray, List.getElem?_cons_succ, List.getElem?_cons_zero]; rfl)
  case hq60 => exact fun _ _ _ h => h
  case hw60 => rfl
  case hy60 =>
    intro W hW
    go_simp
    first | done | with_reducible rfl
  case hk60 =>
  try simp only [Act.put, List.setIfInBounds_toArray, List.set_cons_zero, List.set_cons_succ]
  refine anyK_take 8 (oi := ?oo61) ?ho61 (by kernel_rfl) (by kernel_rfl) (by kernel_rfl) (by kernel_rfl) ?hq61 ?hw61 hT0 (fun _ => trivial) (v := ?vv61) ?hy61 ?hk61
  case ho61 => (simp only [List.getElem?_toArray, List.getElem?_cons_succ, List.getElem?_cons_zero]; rfl)
  case hq61 => exact fun _ _ _ h => h
  case hw61 => rfl
  case hy61 =>
    intro W hW
    go_simp
    first | done | with_reducible rfl
  case hk61 =>
  try simp only [Act.put, List.setIfInBounds_toArray, List.set_cons_zero, List.set_cons_succ]
  refine anyK_take 9 (oi := ?oo62) ?ho62 (by kernel_rfl) (by kernel_rfl) (by kernel_rfl) (by kernel_rfl) ?hq62 ?hw62 hT0 (fun _ => trivial) (v := ?vv62) ?hy62 ?hk62
  case ho62 => (simp only [List.getElem?_toArray, List.getElem?_cons_succ, List.getElem?_cons_zero]; rfl)
  case hq62 => exact fun _ _ _ h => h
  case hw62 => rfl
  case hy62 =>
    intro W hW
    go_simp
    first | done | with_reducible rfl
  case hk62 =>
  try simp only [Act.put, List.setIfInBounds_toArray, List.set_cons_zero, List.set_cons_succ]
  refine anyK_take 10 (oi := ?oo63) ?ho63 (by kernel_rfl) (by kernel_rfl) (by kernel_rfl) (by kernel_rfl) ?hq63 ?hw63 hT0 (fun _ => trivial) (v := ?vv63) ?hy63 ?hk63
  case ho63 => (simp only [List.getElem?_toArray, List.getElem?_cons_succ, List.getElem?_cons_zero]; rfl)
  case hq63 => exact fun _ _ _ h => h
  case hw63 => rfl
  case hy63 =>
    intro W hW
    obtain ⟨z0, z1, z2, z3, z4, z5⟩ := hW
    go_simp
    first | done | with_reducible rfl
  case hk63 =>
  try simp only [Act.put, List.setIfInBounds_toArray, List.set_cons_zero, List.set_cons_succ]
  refine anyK_on1 11 (by kernel_rfl) ?_
  refine anyK_one 11 (o := ?oo64) ?ho64 ?hk64
  case ho64 => (simp only [List.getElem?_toArray, List.getElem?_cons_succ, List.getElem?_cons_zero]; rfl)
  case hk64 =>
  intro K hK
  go_simp
  refine (put_any 2 _).mono ?_
  rintro e wp ⟨rfl, xx⟩
  try go_wp2_with fail
  replace yy := ext_trans yy xx
  have hT1 := keepK.out _ yy
  refine hK.out _ _ hT1 (fun _ => trivial) ?_
  clear hK K
  try simp only [Act.put, List.setIfInBounds_toArray, List.set_cons_zero, List.set_cons_succ]
  refine anyK_take 12 (oi := ?oo65) ?ho65 (by kernel_rfl) (by kernel_rfl) (by kernel_rfl) (by kernel_rfl) ?hq65 ?hw65 hT1 (fun _ => trivial) (v := ?vv65) ?hy65 ?hk65
  case ho65 => (simp only [List.getElem?_toArray, List.getElem?_cons_succ, List.getElem?_cons_zero]; rfl)
  case hq65 => exact fun _ _ _ h => h
  case hw65 => rfl
  case hy65 =>
    intro W hW
    go_simp
    first | done | with_reducible rfl
  case hk65 =>
  try simp only [Act.put, List.setIfInBounds_toArray, List.set_cons_zero, List.set_cons_succ]
  refine anyK_take 13 (oi := ?oo66) ?ho66 (by kernel_rfl) (by kernel_rfl) (by kernel_rfl) (by kernel_rfl) ?hq66 ?hw66 hT1 (fun _ => trivial) (v := ?vv66) ?hy66 ?hk66
  case ho66 => (simp only [List.getElem?_toArray, List.getElem?_cons_succ, List.getElem?_cons_zero]; rfl)
  case hq66 => exact fun _ _ _ h => h
  case hw66 => rfl
  case hy66 =>
    intro W hW
    go_simp
    first | done | with_reducible rfl
  case hk66 =>
  try simp only [Act.put, List.setIfInBounds_toArray, List.set_cons_zero, List.set_cons_succ]
  refine anyK_take 14 (oi := ?oo67) ?ho67 (by kernel_rfl) (by kernel_rfl) (by kernel_rfl) (by kernel_rfl) ?hq67 ?hw67 hT1 (fun _ => trivial) (v := ?vv67) ?hy67 ?hk67
  case ho67 => (simp only [List.getElem?_toArray, List.getElem?_cons_succ, List.getElem?_cons_zero]; rfl)
  case hq67 => exact fun _ _ _ h => h
  case hw67 => rfl
  case hy67 =>
    intro W hW
    go_simp
    first | done | with_reducible rfl
  case hk67 =>
  try simp only [Act.put, List.setIfInBounds_toArray, List.set_cons_zero, List.set_cons_succ]
  refine anyK_take 15 (oi := ?oo68) ?ho68 (by kernel_rfl) (by kernel_rfl) (by kernel_rfl) (by kernel_rfl) ?hq68 ?hw68 hT1 (fun _ => trivial) (v := ?vv68) ?hy68 ?hk68
  case ho68 => (simp only [List.getElem?_toArray, List.getElem?_cons_succ, List.getElem?_cons_zero]; rfl)
  case hq68 => exact fun _ _ _ h => h
  case hw68 => rfl
  case hy68 =>
    intro W hW
    go_simp
    first | done | with_reducible rfl
  case hk68 =>
  try simp only [Act.put, List.setIfInBounds_toArray, List.set_cons_zero, List.set_cons_succ]
  refine anyK_on1 16 (by kernel_rfl) ?_
  refine anyK_one 16 (o := ?oo69) ?ho69 ?hk69
  case ho69 => (simp only [List.getElem?_toArray, List.getElem?_cons_succ, List.getElem?_cons_zero]; rfl)
  case hk69 =>
  intro K hK
  go_simp
  refine (bscored_any _).mono ?_
  rintro e wq ⟨rfl, xx⟩
  try go_wp2_with fail
  replace yy := ext_trans yy xx
  have hT2 := keepK.out _ yy
  refine hK.out _ _ hT2 (fun _ => trivial) ?_
  clear hK K
  try simp only [Act.put, List.setIfInBounds_toArray, List.set_cons_zero, List.set_cons_succ]
  refine anyK_take 17 (oi := ?oo70) ?ho70 (by kernel_rfl) (by kernel_rfl) (by kernel_rfl) (by kernel_rfl) ?hq70 ?hw70 hT2 (fun _ => trivial) (v := ?vv70) ?hy70 ?hk70
  case ho70 => (simp only [List.getElem?_toArray, List.getElem?_cons_succ, List.getElem?_cons_zero]; rfl)
  case hq70 => exact fun _ _ _ h => h
  case hw70 => rfl
  case hy70 =>
    intro W hW
    go_simp
    first | done | with_reducible rfl
  case hk70 =>
  try simp only [Act.put, List.setIfInBounds_toArray, List.set_cons_zero, List.set_cons_succ]
  refine anyK_take 18 (oi := ?oo71) ?ho71 (by kernel_rfl) (by kernel_rfl) (by kernel_rfl) (by kernel_rfl) ?hq71 ?hw71 hT2 (fun _ => trivial) (v := ?vv71) ?hy71 ?hk71
  case ho71 => (simp only [List.getElem?_toArray, List.getElem?_cons_succ, List.getElem?_cons_zero]; rfl)
  case hq71 => exact fun _ _ _ h => h
  case hw71 => rfl
  case hy71 =>
    intro W hW
    go_simp
    first | done | with_reducible rfl
  case hk71 =>
  try simp only [Act.put, List.setIfInBounds_toArray, List.set_cons_zero, List.set_cons_succ]
  refine anyK_done (by kernel_rfl) ?_ _
  clear keepK hT0 hT1 hT2
  clear C0 C1 C2 C3 C4
  replace hR := hR.ext yy
  replace hP := hP.ext yy
  replace kR := kR.ext yy
  replace kP := kP.ext yy
  replace X := ext_trans X yy
  clear xx yy
  go_wp2_with fail
  refine (three_any _).mono ?_
  rintro e w6 ⟨v3, rfl, h3, x⟩
  replace hR := hR.ext x
  replace hP := hP.ext x
  replace kR := kR.ext x
  replace kP := kP.ext x
  replace X := ext_trans X x
  clear x
  go_wp2_with fail
  refine (near_any _).mono ?_
  rintro e w7 ⟨v4, rfl, h4, x⟩
  replace hR := hR.ext x
  replace hP := hP.ext x
  replace kR := kR.ext x
  replace kP := kP.ext x
  replace h3 := h3.ext x
  replace X := ext_trans X x
  clear x
  replace h4 := h4.at_
  go_wp2_with fail
  refine (HB.out _ _ _ h3 h4).mono ?_
  rintro e w8 ⟨rfl, x⟩
  replace hR := hR.ext x
  replace hP := hP.ext x
  replace kR := kR.ext x
  replace kP := kP.ext x
  replace h3 := h3.ext x
  replace h4 := h4.ext x
  replace X := ext_trans X x
  clear x
  clear h3 h4
  clear HB
  obtain ⟨xa, kM⟩ := blks1 w8 #[.int .i64 (-1), .int .i64 2, .int .i64 0] 37
  replace hR := hR.ext xa
  replace hP := hP.ext xa
  replace kR := kR.ext xa
  replace kP := kP.ext xa
  replace X := ext_trans X xa
  clear xa
  go_upto_region 5 with fail
  generalize (w8.alloc (.cells #[.int .i64 (-1), .int .i64 2, .int .i64 0] 37)) = w9 at *
  generalize w8.heap.size = BM at *
  have KM := hide kM
  clear kM
  have keepK := hide (fun W (h : Ext w9 W) => (show (fun W => W.cell? ⟨BM, 0, none⟩ = some (.int .i64 (-1)) ∧ W.cell? ⟨BM, 1, none⟩ = some (.int .i64 2) ∧ W.cell? ⟨BM, 2, none⟩ = some (.int .i64 0) ∧ Ext w9 W) W from ⟨(KM.out.ext h).cell 0, (KM.out.ext h).cell 1, (KM.out.ext h).cell 2, h⟩))
  have yy : Ext w9 w9.drew := Below.drew (Below.refl _ _)
  refine region_K (fun W => W.cell? ⟨BM, 0, none⟩ = some (.int .i64 (-1)) ∧ W.cell? ⟨BM, 1, none⟩ = some (.int .i64 2) ∧ W.cell? ⟨BM, 2, none⟩ = some (.int .i64 0) ∧ Ext w9 W) (fun _ => True) [] (by kernel_rfl) ?_
  have hT0 := keepK.out _ yy
  refine anyK_take 0 (oi := ?oo72) ?ho72 (by kernel_rfl) (by kernel_rfl) (by kernel_rfl) (by kernel_rfl) ?hq72 ?hw72 hT0 (fun _ => trivial) (v := ?vv72) ?hy72 ?hk72
  case ho72 => (simp only [List.getElem?_toArray, List.getElem?_cons_succ, List.getElem?_cons_zero]; rfl)
  case hq72 => exact fun _ _ _ h => h
  case hw72 => rfl
  case hy72 =>
    intro W hW
    go_simp
    first | done | with_reducible rfl
  case hk72 =>
  try simp only [Act.put, List.setIfInBounds_toArray, List.set_cons_zero, List.set_cons_succ]
  refine anyK_take 1 (oi := ?oo73) ?ho73 (by kernel_rfl) (by kernel_rfl) (by kernel_rfl) (by kernel_rfl) ?hq73 ?hw73 hT0 (fun _ => trivial) (v := ?vv73) ?hy73 ?hk73
  case ho73 => (simp only [List.getElem?_toArray, List.getElem?_cons_succ, List.getElem?_cons_zero]; rfl)
  case hq73 => exact fun _ _ _ h => h
  case hw73 => rfl
  case hy73 =>
    intro W hW
    go_simp
    first | done | with_reducible rfl
  case hk73 =>
  try simp only [Act.put, List.setIfInBounds_toArray, List.set_cons_zero, List.set_cons_succ]
  refine anyK_take 2 (oi := ?oo74) ?ho74 (by kernel_rfl) (by kernel_rfl) (by kernel_rfl) (by kernel_rfl) ?hq74 ?hw74 hT0 (fun _ => trivial) (v := ?vv74) ?hy74 ?hk74
  case ho74 => (simp only [List.getElem?_toArray, List.getElem?_cons_succ, List.getElem?_cons_zero]; rfl)
  case hq74 => exact fun _ _ _ h => h
  case hw74 => rfl
  case hy74 =>
    intro W hW
    go_simp
    first | done | with_reducible rfl
  case hk74 =>
  try simp only [Act.put, List.setIfInBounds_toArray, List.set_cons_zero, List.set_cons_succ]
  refine anyK_take 3 (oi := ?oo75) ?ho75 (by kernel_rfl) (by kernel_rfl) (by kernel_rfl) (by kernel_rfl) ?hq75 ?hw75 hT0 (fun _ => trivial) (v := ?vv75) ?hy75 ?hk75
  case ho75 => (simp only [List.getElem?_toArray, List.getElem?_cons_succ, List.getElem?_cons_zero]; rfl)
  case hq75 => exact fun _ _ _ h => h
  case hw75 => rfl
  case hy75 =>
    intro W hW
    obtain ⟨z0, z1, z2, z3⟩ := hW
    go_simp
    first | done | with_reducible rfl
  case hk75 =>
  try simp only [Act.put, List.setIfInBounds_toArray, List.set_cons_zero, List.set_cons_succ]
  refine anyK_on1 4 (by kernel_rfl) ?_
  refine anyK_one 4 (o := ?oo76) ?ho76 ?hk76
  case ho76 => (simp only [List.getElem?_toArray, List.getElem?_cons_succ, List.getElem?_cons_zero]; rfl)
  case hk76 =>
  intro K hK
  go_simp
  refine (put_any 2 _).mono ?_
  rintro e wr ⟨rfl, xx⟩
  try go_wp2_with fail
  replace yy := ext_trans yy xx
  have hT1 := keepK.out _ yy
  refine hK.out _ _ hT1 (fun _ => trivial) ?_
  clear hK K
  try simp only [Act.put, List.setIfInBounds_toArray, List.set_cons_zero, List.set_cons_succ]
  refine anyK_take 5 (oi := ?oo77) ?ho77 (by kernel_rfl) (by kernel_rfl) (by kernel_rfl) (by kernel_rfl) ?hq77 ?hw77 hT1 (fun _ => trivial) (v := ?vv77) ?hy77 ?hk77
  case ho77 => (simp only [List.getElem?_toArray, List.getElem?_cons_succ, List.getElem?_cons_zero]; rfl)
  case hq77 => exact fun _ _ _ h => h
  case hw77 => rfl
  case hy77 =>
    intro W hW
    go_simp
    first | done | with_reducible rfl
  case hk77 =>
  try simp only [Act.put, List.setIfInBounds_toArray, List.set_cons_zero, List.set_cons_succ]
  refine anyK_take 6 (oi := ?oo78) ?ho78 (by kernel_rfl) (by kernel_rfl) (by kernel_rfl) (by kernel_rfl) ?hq78 ?hw78 hT1 (fun _ => trivial) (v := ?vv78) ?hy78 ?hk78
  case ho78 => (simp only [List.getElem?_toArray, List.getElem?_cons_succ, List.getElem?_cons_zero]; rfl)
  case hq78 => exact fun _ _ _ h => h
  case hw78 => rfl
  case hy78 =>
    intro W hW
    go_simp
    first | done | with_reducible rfl
  case hk78 =>
  try simp only [Act.put, List.setIfInBounds_toArray, List.set_cons_zero, List.set_cons_succ]
  refine anyK_done (by kernel_rfl) ?_ _
  clear keepK hT0 hT1
  replace hR := hR.ext yy
  replace hP := hP.ext yy
  replace kR := kR.ext yy
  replace kP := kP.ext yy
  replace X := ext_trans X yy
  clear xx yy KM
  have fR := kR.cell
  have fP := kP.cell
  go_wp2_with fail
  refine (HHV.out _ _ _ hR hP).mono ?_
  rintro e w10 ⟨rfl, x⟩
  replace hR := hR.ext x
  replace hP := hP.ext x
  replace kR := kR.ext x
  replace kP := kP.ext x
  replace X := ext_trans X x
  replace fR := kR.cell
  replace fP := kP.cell
  clear x
  clear HHV
  go_wp2_with fail
  refine (HB1.out _ _ _ hR hP).mono ?_
  rintro e w11 ⟨rfl, x⟩
  replace hR := hR.ext x
  replace hP := hP.ext x
  replace kR := kR.ext x
  replace kP := kP.ext x
  replace X := ext_trans X x
  replace fR := kR.cell
  replace fP := kP.cell
  clear x
  go_wp2_with fail
  refine (HB2.out _ _ _ hR hP).mono ?_
  rintro e w12 ⟨rfl, x⟩
  replace hR := hR.ext x
  replace hP := hP.ext x
  replace kR := kR.ext x
  replace kP := kP.ext x
  replace X := ext_trans X x
  replace fR := kR.cell
  replace fP := kP.cell
  clear x
  clear fR fP
  obtain ⟨xa, k9⟩ := blks1 w12 #[.int .i64 0, .int .i64 0, .int .i64 0] 37
  replace hR := hR.ext xa
  replace hP := hP.ext xa
  replace kR := kR.ext xa
  replace kP := kP.ext xa
  replace X := ext_trans X xa
  clear xa
  go_upto_region 11 with fail
  generalize (w12.alloc (.cells #[.int .i64 0, .int .i64 0, .int .i64 0] 37)) = w13 at *
  generalize w12.heap.size = B9 at *
  go_wp2
  all_goals go_ret
  all_goals exact ⟨by first | rfl | simp, X⟩
set_option maxHeartbeats 4000000 in
set_option maxRecDepth 100000 in
theorem topWalk_yes (R : RulesM) (P : PosM) (v u : Value) (s : Int) (w : World) (hR : RulesAt w v R) (hP : PosAt w u P) (hh : bheavyB R P 1 = false) (hb : ¬ 9 < P.cells.length) (he : runE R P s 40 = 0) :
    Calls Try.prog 3 #[v, u, .int .i64 s] w fun e w' => e = .returned (.bool true) ∧ Ext w w' := by
  obtain ⟨-, nl, n1, n2, -⟩ := near_walk
  obtain ⟨nb0, nb1, nb2, nb3⟩ := near_best60
  have HA := hide (fun W (v1 v2 : Value) (h1 : RulesAt W v1 threeR) (h2 : PosAt W v2 nearP) => Run_yes threeR nearP v1 v2 5 1 W h1 h2 near_walk.1)
  have HB := hide (fun W (v1 v2 : Value) (h1 : RulesAt W v1 threeR) (h2 : PosAt W v2 nearP) => WBest_yes threeR nearP v1 v2 5 60 W h1 h2 nb0 (by decide))
  rw [show ((1 : Int)).toNat = 1 from rfl] at HA
  rw [show ((60 : Int)).toNat = 60 from rfl, nb1, nb2, nb3] at HB
  unfold RunPost at HA
  generalize walkM threeR 5 nearP 1 = L0 at *
  obtain ⟨y, hy⟩ : ∃ y, L0[0]? = some y := ⟨L0[0], List.getElem?_eq_getElem (by omega)⟩
  have hgd : L0.getD 0 ⟨⟨0, 0, 0⟩, 0, 0⟩ = y := by rw [List.getD_eq_getElem?_getD, hy]; rfl
  rw [hgd] at n1 n2
  have HY := hide hy
  have HN1 := hide n1
  have HN2 := hide n2
  have HNL := hide nl
  clear hy hgd n1 n2 nl nb0 nb1 nb2 nb3
  have HHV := hide (fun W (v1 v2 : Value) (h1 : RulesAt W v1 R) (h2 : PosAt W v2 P) => bheavy_any R P v1 v2 1 W h1 h2)
  rw [hh] at HHV
  clear hh
  have t0 : decide ((9 : Int) < (P.cells.length : Int)) = false := by simp; omega
  have HB1 := hide (fun W (v1 v2 : Value) (h1 : RulesAt W v1 R) (h2 : PosAt W v2 P) => Run_yes R P v1 v2 s 40 W h1 h2 he)
  have HB2 := hide (fun W (v1 v2 : Value) (h1 : RulesAt W v1 R) (h2 : PosAt W v2 P) => WBest_yes R P v1 v2 s 40 W h1 h2 he (by decide))
  obtain ⟨hc, -, -, -, hr⟩ := runE_zero he
  obtain ⟨hV, hS⟩ := check_iff.1 hc
  rw [show ((40 : Int)).toNat = 40 from rfl] at HB1 HB2
  unfold RunPost at HB1
  have HAF := hide (fun m (hm : m ∈ listM R P) W (v1 v2 : Value) (h1 : RulesAt W v1 R) (h2 : PosAt W v2 P) => After_yes R P m v1 v2 W h1 h2 hV hS hm)
  unfold AfterPost at HAF
  have HSC := hide (fun (Q : PosM) W (v1 v2 : Value) (h1 : RulesAt W v1 R) (h2 : PosAt W v2 Q) => MScore_any R Q v1 v2 0 W h1 h2)
  have HQ := hide (fun m (hm : m ∈ listM R P) => score_0 hV hS hm)
  have HK := hide (fun i (x : WMov) (hx : (walkM R s P 40)[i]? = some x) => pos_kid hV hS hr hx)
  have hwf := walk_facts (s := s) hV hS hr 40 (by omega)
  have HWF := hide hwf.1
  have HSM := hide hwf.2.1
  have HBO := hide (fun i (x : WMov) (hx : (walkM R s P 40)[i]? = some x) => best_once (strict_listOf _) hx)
  have hLL : (walkM R s P 40).length ≤ 1000000 := by rw [walkM_len]; exact listM_len hV hS
  have HLL := hide hLL
  have HSB := hide (fun k (hk : k ≤ (walkM R s P 40).length) => sumV_le hwf.1 hk hLL)
  clear hb he hc hr hV hS hwf hLL
  obtain ⟨bs, hbs⟩ : ∃ z, z = (bestWL (walkM R s P 40)).m.src := ⟨_, rfl⟩
  obtain ⟨bd, hbd⟩ : ∃ z, z = (bestWL (walkM R s P 40)).m.dst := ⟨_, rfl⟩
  obtain ⟨bp, hbp⟩ : ∃ z, z = (bestWL (walkM R s P 40)).m.piece := ⟨_, rfl⟩
  have HBM := hide (And.intro hbs (And.intro hbd hbp))
  rw [← hbs, ← hbd, ← hbp] at HB2
  clear hbs hbd hbp
  generalize walkM R s P 40 = L at *
  obtain ⟨N, hN⟩ : ∃ N, N = L.length := ⟨_, rfl⟩
  have HNN := hide hN
  rw [← hN] at HLL HSB
  clear hN
  have hR0 := hR
  have hP0 := hP
  obtain ⟨pA, pc, sA, sc, eA, ec, rfl, -⟩ := hR0
  obtain ⟨cA, cc, aA, ac, bA, bc, rfl, -⟩ := hP0
  go_enter Try.func3, Try.ntmps3
  go_wp2_with fail
  obtain ⟨xa, kR, kP⟩ := blks2 w #[.string R.name, .int .i64 R.width, .int .i64 R.height, .slice pA R.pieces.length pc, .slice sA R.start.length sc, .bool R.falls, .bool R.keeps, .slice eA R.ends.length ec, .int .i64 R.blocked, .int .i64 R.quiet, .int .i64 R.rept] 26 #[.slice cA P.cells.length cc, .slice aA P.hand0.length ac, .slice bA P.hand1.length bc, .int .i64 P.turn, .int .i64 P.quiet] 29
  replace hR := hR.ext xa
  replace hP := hP.ext xa
  have X := xa
  clear xa
  generalize ((w.alloc (.cells #[.string R.name, .int .i64 R.width, .int .i64 R.height, .slice pA R.pieces.length pc, .slice sA R.start.length sc, .bool R.falls, .bool R.keeps, .slice eA R.ends.length ec, .int .i64 R.blocked, .int .i64 R.quiet, .int .i64 R.rept] 26)).alloc (.cells #[.slice cA P.cells.length cc, .slice aA P.hand0.length ac, .slice bA P.hand1.length bc, .int .i64 P.turn, .int .i64 P.quiet] 29)) = w2 at *
  generalize w.heap.size + 1 = BP at *
  generalize w.heap.size = BR at *
  refine (three_any _).mono ?_
  rintro e w3 ⟨v1, rfl, h1, x⟩
  replace hR := hR.ext x
  replace hP := hP.ext x
  replace kR := kR.ext x
  replace kP := kP.ext x
  replace X := ext_trans X x
  clear x
  go_wp2_with fail
  refine (near_any _).mono ?_
  rintro e w4 ⟨v2, rfl, h2, x⟩
  replace hR := hR.ext x
  replace hP := hP.ext x
  replace kR := kR.ext x
  replace kP := kP.ext x
  replace h1 := h1.ext x
  replace X := ext_trans X x
  clear x
  replace h2 := h2.at_
  go_wp2_with fail
  refine (HA.out _ _ _ h1 h2).mono ?_
  rintro e w5 ⟨vl, rfl, hl, x⟩
  replace hR := hR.ext x
  replace hP := hP.ext x
  replace kR := kR.ext x
  replace kP := kP.ext x
  replace h1 := h1.ext x
  replace h2 := h2.ext x
  replace X := ext_trans X x
  clear x
  obtain ⟨lA, lc, rfl, ol⟩ := hl
  have hc := (own_cells ol).1
  clear ol
  rw [HNL.out]
  clear h1 h2
  clear HA
  obtain ⟨bq, oq, rfl, c0, c1, c2, c3, c4⟩ := wm_get hc HY.out
  simp only [Nat.zero_mul, Nat.add_zero] at c0 c1 c2 c3 c4
  rw [HN1.out.1] at c0
  rw [HN1.out.2.1] at c1
  rw [HN1.out.2.2] at c2
  rw [HN2.out.1] at c3
  rw [HN2.out.2] at c4
  have C0 := hide c0
  have C1 := hide c1
  have C2 := hide c2
  have C3 := hide c3
  have C4 := hide c4
  clear c0 c1 c2 c3 c4 hc HY HN1 HN2 HNL
  go_upto_region 2 with fail
  have keepK := hide (fun W (h : Ext w5 W) => (show (fun W => W.cell? ⟨bq, oq, none⟩ = some (.int .i64 (-1)) ∧ W.cell? ⟨bq, oq + 1, none⟩ = some (.int .i64 2) ∧ W.cell? ⟨bq, oq + 2, none⟩ = some (.int .i64 0) ∧ W.cell? ⟨bq, oq + 3, none⟩ = some (.int .i64 1) ∧ W.cell? ⟨bq, oq + 4, none⟩ = some (.int .i64 2) ∧ Ext w5 W) W from ⟨h.cell C0.out, h.cell C1.out, h.cell C2.out, h.cell C3.out, h.cell C4.out, h⟩))
  have yy : Ext w5 w5.drew := Below.drew (Below.refl _ _)
  refine region_K (fun W => W.cell? ⟨bq, oq, none⟩ = some (.int .i64 (-1)) ∧ W.cell? ⟨bq, oq + 1, none⟩ = some (.int .i64 2) ∧ W.cell? ⟨bq, oq + 2, none⟩ = some (.int .i64 0) ∧ W.cell? ⟨bq, oq + 3, none⟩ = some (.int .i64 1) ∧ W.cell? ⟨bq, oq + 4, none⟩ = some (.int .i64 2) ∧ Ext w5 W) (fun _ => True) [] (by kernel_rfl) ?_
  have hT0 := keepK.out _ yy
  refine anyK_take 0 (oi := ?oo79) ?ho79 (by kernel_rfl) (by kernel_rfl) (by kernel_rfl) (by kernel_rfl) ?hq79 ?hw79 hT0 (fun _ => trivial) (v := ?vv79) ?hy79 ?hk79
  case ho79 => (simp only [List.getElem?_toArray, List.getElem?_cons_succ, List.getElem?_cons_zero]; rfl)
  case hq79 => exact fun _ _ _ h => h
  case hw79 => rfl
  case hy79 =>
    intro W hW
    go_simp
    first | done | with_reducible rfl
  case hk79 =>
  try simp only [Act.put, List.setIfInBounds_toArray, List.set_cons_zero, List.set_cons_succ]
  refine anyK_take 1 (oi := ?oo80) ?ho80 (by kernel_rfl) (by kernel_rfl) (by kernel_rfl) (by kernel_rfl) ?hq80 ?hw80 hT0 (fun _ => trivial) (v := ?vv80) ?hy80 ?hk80
  case ho80 => (simp only [List.getElem?_toArray, List.getElem?_cons_succ, List.getElem?_cons_zero]; rfl)
  case hq80 => exact fun _ _ _ h => h
  case hw80 => rfl
  case hy80 =>
    intro W hW
    go_simp
    first | done | with_reducible rfl
  case hk80 =>
  try simp only [Act.put, List.setIfInBounds_toArray, List.set_cons_zero, List.set_cons_succ]
  refine anyK_take 2 (oi := ?oo81) ?ho81 (by kernel_rfl) (by kernel_rfl) (by kernel_rfl) (by kernel_rfl) ?hq81 ?hw81 hT0 (fun _ => trivial) (v := ?vv81) ?hy81 ?hk81
  case ho81 => (simp only [List.getElem?_toArray, List.getElem?_cons_succ, List.getElem?_cons_zero]; rfl)
  case hq81 => exact fun _ _ _ h => h
  case hw81 => rfl
  case hy81 =>
    intro W hW
    go_simp
    first | done | with_reducible rfl
  case hk81 =>
  try simp only [Act.put, List.setIfInBounds_toArray, List.set_cons_zero, List.set_cons_succ]
  refine anyK_take 3 (oi := ?oo82) ?ho82 (by kernel_rfl) (by kernel_rfl) (by kernel_rfl) (by kernel_rfl) ?hq82 ?hw82 hT0 (fun _ => trivial) (v := ?vv82) ?hy82 ?hk82
  case ho82 => (simp only [List.getElem?_toArray, List.getElem?_cons_succ, List.getElem?_cons_zero]; rfl)
  case hq82 => exact fun _ _ _ h => h
  case hw82 => rfl
  case hy82 =>
    intro W hW
    go_simp
    first | done | with_reducible rfl
  case hk82 =>
  try simp only [Act.put, List.setIfInBounds_toArray, List.set_cons_zero, List.set_cons_succ]
  refine anyK_take 4 (oi := ?oo83) ?ho83 (by kernel_rfl) (by kernel_rfl) (by kernel_rfl) (by kernel_rfl) ?hq83 ?hw83 hT0 (fun _ => trivial) (v := ?vv83) ?hy83 ?hk83
  case ho83 => (simp only [List.getElem?_toArray, List.getElem?_cons_succ, List.getElem?_cons_zero]; rfl)
  case hq83 => exact fun _ _ _ h => h
  case hw83 => rfl
  case hy83 =>
    intro W hW
    go_simp
    first | done | with_reducible rfl
  case hk83 =>
  try simp only [Act.put, List.setIfInBounds_toArray, List.set_cons_zero, List.set_cons_succ]
  refine anyK_take 5 (oi := ?oo84) ?ho84 (by kernel_rfl) (by kernel_rfl) (by kernel_rfl) (by kernel_rfl) ?hq84 ?hw84 hT0 (fun _ => trivial) (v := ?vv84) ?hy84 ?hk84
  case ho84 => (simp only [List.getElem?_toArray, List.getElem?_cons_succ, List.getElem?_cons_zero]; rfl)
  case hq84 => exact fun _ _ _ h => h
  case hw84 => rfl
  case hy84 =>
    intro W hW
    go_simp
    first | done | with_reducible rfl
  case hk84 =>
  try simp only [Act.put, List.setIfInBounds_toArray, List.set_cons_zero, List.set_cons_succ]
  refine anyK_take 6 (oi := ?oo85) ?ho85 (by kernel_rfl) (by kernel_rfl) (by kernel_rfl) (by kernel_rfl) ?hq85 ?hw85 hT0 (fun _ => trivial) (v := ?vv85) ?hy85 ?hk85
  case ho85 => (simp only [List.getElem?_toArray, List.getElem?_cons_succ, List.getElem?_cons_zero]; rfl)
  case hq85 => exact fun _ _ _ h => h
  case hw85 => rfl
  case hy85 =>
    intro W hW
    go_simp
    first | done | with_reducible rfl
  case hk85 =>
  try simp only [Act.put, List.setIfInBounds_toArray, List.set_cons_zero, List.set_cons_succ]
  refine anyK_take 7 (oi := ?oo86) ?ho86 (by kernel_rfl) (by kernel_rfl) (by kernel_rfl) (by kernel_rfl) ?hq86 ?hw86 hT0 (fun _ => trivial) (v := ?vv86) ?hy86 ?hk86
  case ho86 => (simp only [List.getElem?_toArray, List.getElem?_cons_succ, List.getElem?_cons_zero]; rfl)
  case hq86 => exact fun _ _ _ h => h
  case hw86 => rfl
  case hy86 =>
    intro W hW
    go_simp
    first | done | with_reducible rfl
  case hk86 =>
  try simp only [Act.put, List.setIfInBounds_toArray, List.set_cons_zero, List.set_cons_succ]
  refine anyK_take 8 (oi := ?oo87) ?ho87 (by kernel_rfl) (by kernel_rfl) (by kernel_rfl) (by kernel_rfl) ?hq87 ?hw87 hT0 (fun _ => trivial) (v := ?vv87) ?hy87 ?hk87
  case ho87 => (simp only [List.getElem?_toArray, List.getElem?_cons_succ, List.getElem?_cons_zero]; rfl)
  case hq87 => exact fun _ _ _ h => h
  case hw87 => rfl
  case hy87 =>
    intro W hW
    go_simp
    first | done | with_reducible rfl
  case hk87 =>
  try simp only [Act.put, List.setIfInBounds_toArray, List.set_cons_zero, List.set_cons_succ]
  refine anyK_take 9 (oi := ?oo88) ?ho88 (by kernel_rfl) (by kernel_rfl) (by kernel_rfl) (by kernel_rfl) ?hq88 ?hw88 hT0 (fun _ => trivial) (v := ?vv88) ?hy88 ?hk88
  case ho88 => (simp only [List.getElem?_toArray, List.getElem?_cons_succ, List.getElem?_cons_zero]; rfl)
  case hq88 => exact fun _ _ _ h => h
  case hw88 => rfl
  case hy88 =>
    intro W hW
    go_simp
    first | done | with_reducible rfl
  case hk88 =>
  try simp only [Act.put, List.setIfInBounds_toArray, List.set_cons_zero, List.set_cons_succ]
  refine anyK_take 10 (oi := ?oo89) ?ho89 (by kernel_rfl) (by kernel_rfl) (by kernel_rfl) (by kernel_rfl) ?hq89 ?hw89 hT0 (fun _ => trivial) (v := ?vv89) ?hy89 ?hk89
  case ho89 => (simp only [List.getElem?_toArray, List.getElem?_cons_succ, List.getElem?_cons_zero]; rfl)
  case hq89 => exact fun _ _ _ h => h
  case hw89 => rfl
  case hy89 =>
    intro W hW
    obtain ⟨z0, z1, z2, z3, z4, z5⟩ := hW
    go_simp
    first | done | with_reducible rfl
  case hk89 =>
  try simp only [Act.put, List.setIfInBounds_toArray, List.set_cons_zero, List.set_cons_succ]
  refine anyK_on1 11 (by kernel_rfl) ?_
  refine anyK_one 11 (o := ?oo90) ?ho90 ?hk90
  case ho90 => (simp only [List.getElem?_toArray, List.getElem?_cons_succ, List.getElem?_cons_zero]; rfl)
  case hk90 =>
  intro K hK
  go_simp
  refine (put_any 2 _).mono ?_
  rintro e wp ⟨rfl, xx⟩
  try go_wp2_with fail
  replace yy := ext_trans yy xx
  have hT1 := keepK.out _ yy
  refine hK.out _ _ hT1 (fun _ => trivial) ?_
  clear hK K
  try simp only [Act.put, List.setIfInBounds_toArray, List.set_cons_zero, List.set_cons_succ]
  refine anyK_take 12 (oi := ?oo91) ?ho91 (by kernel_rfl) (by kernel_rfl) (by kernel_rfl) (by kernel_rfl) ?hq91 ?hw91 hT1 (fun _ => trivial) (v := ?vv91) ?hy91 ?hk91
  case ho91 => (simp only [List.getElem?_toArray, List.getElem?_cons_succ, List.getElem?_cons_zero]; rfl)
  case hq91 => exact fun _ _ _ h => h
  case hw91 => rfl
  case hy91 =>
    intro W hW
    go_simp
    first | done | with_reducible rfl
  case hk91 =>
  try simp only [Act.put, List.setIfInBounds_toArray, List.set_cons_zero, List.set_cons_succ]
  refine anyK_take 13 (oi := ?oo92) ?ho92 (by kernel_rfl) (by kernel_rfl) (by kernel_rfl) (by kernel_rfl) ?hq92 ?hw92 hT1 (fun _ => trivial) (v := ?vv92) ?hy92 ?hk92
  case ho92 => (simp only [List.getElem?_toArray, List.getElem?_cons_succ, List.getElem?_cons_zero]; rfl)
  case hq92 => exact fun _ _ _ h => h
  case hw92 => rfl
  case hy92 =>
    intro W hW
    go_simp
    first | done | with_reducible rfl
  case hk92 =>
  try simp only [Act.put, List.setIfInBounds_toArray, List.set_cons_zero, List.set_cons_succ]
  refine anyK_take 14 (oi := ?oo93) ?ho93 (by kernel_rfl) (by kernel_rfl) (by kernel_rfl) (by kernel_rfl) ?hq93 ?hw93 hT1 (fun _ => trivial) (v := ?vv93) ?hy93 ?hk93
  case ho93 => (simp only [List.getElem?_toArray, List.getElem?_cons_succ, List.getElem?_cons_zero]; rfl)
  case hq93 => exact fun _ _ _ h => h
  case hw93 => rfl
  case hy93 =>
    intro W hW
    go_simp
    first | done | with_reducible rfl
  case hk93 =>
  try simp only [Act.put, List.setIfInBounds_toArray, List.set_cons_zero, List.set_cons_succ]
  refine anyK_take 15 (oi := ?oo94) ?ho94 (by kernel_rfl) (by kernel_rfl) (by kernel_rfl) (by kernel_rfl) ?hq94 ?hw94 hT1 (fun _ => trivial) (v := ?vv94) ?hy94 ?hk94
  case ho94 => (simp only [List.getElem?_toArray, List.getElem?_cons_succ, List.getElem?_cons_zero]; rfl)
  case hq94 => exact fun _ _ _ h => h
  case hw94 => rfl
  case hy94 =>
    intro W hW
    go_simp
    first | done | with_reducible rfl
  case hk94 =>
  try simp only [Act.put, List.setIfInBounds_toArray, List.set_cons_zero, List.set_cons_succ]
  refine anyK_on1 16 (by kernel_rfl) ?_
  refine anyK_one 16 (o := ?oo95) ?ho95 ?hk95
  case ho95 => (simp only [List.getElem?_toArray, List.getElem?_cons_succ, List.getElem?_cons_zero]; rfl)
  case hk95 =>
  intro K hK
  go_simp
  refine (bscored_any _).mono ?_
  rintro e wq ⟨rfl, xx⟩
  try go_wp2_with fail
  replace yy := ext_trans yy xx
  have hT2 := keepK.out _ yy
  refine hK.out _ _ hT2 (fun _ => trivial) ?_
  clear hK K
  try simp only [Act.put, List.setIfInBounds_toArray, List.set_cons_zero, List.set_cons_succ]
  refine anyK_take 17 (oi := ?oo96) ?ho96 (by kernel_rfl) (by kernel_rfl) (by kernel_rfl) (by kernel_rfl) ?hq96 ?hw96 hT2 (fun _ => trivial) (v := ?vv96) ?hy96 ?hk96
  case ho96 => (simp only [List.getElem?_toArray, List.getElem?_cons_succ, List.getElem?_cons_zero]; rfl)
  case hq96 => exact fun _ _ _ h => h
  case hw96 => rfl
  case hy96 =>
    intro W hW
    go_simp
    first | done | with_reducible rfl
  case hk96 =>
  try simp only [Act.put, List.setIfInBounds_toArray, List.set_cons_zero, List.set_cons_succ]
  refine anyK_take 18 (oi := ?oo97) ?ho97 (by kernel_rfl) (by kernel_rfl) (by kernel_rfl) (by kernel_rfl) ?hq97 ?hw97 hT2 (fun _ => trivial) (v := ?vv97) ?hy97 ?hk97
  case ho97 => (simp only [List.getElem?_toArray, List.getElem?_cons_succ, List.getElem?_cons_zero]; rfl)
  case hq97 => exact fun _ _ _ h => h
  case hw97 => rfl
  case hy97 =>
    intro W hW
    go_simp
    first | done | with_reducible rfl
  case hk97 =>
  try simp only [Act.put, List.setIfInBounds_toArray, List.set_cons_zero, List.set_cons_succ]
  refine anyK_done (by kernel_rfl) ?_ _
  clear keepK hT0 hT1 hT2
  clear C0 C1 C2 C3 C4
  replace hR := hR.ext yy
  replace hP := hP.ext yy
  replace kR := kR.ext yy
  replace kP := kP.ext yy
  replace X := ext_trans X yy
  clear xx yy
  go_wp2_with fail
  refine (three_any _).mono ?_
  rintro e w6 ⟨v3, rfl, h3, x⟩
  replace hR := hR.ext x
  replace hP := hP.ext x
  replace kR := kR.ext x
  replace kP := kP.ext x
  replace X := ext_trans X x
  clear x
  go_wp2_with fail
  refine (near_any _).mono ?_
  rintro e w7 ⟨v4, rfl, h4, x⟩
  replace hR := hR.ext x
  replace hP := hP.ext x
  replace kR := kR.ext x
  replace kP := kP.ext x
  replace h3 := h3.ext x
  replace X := ext_trans X x
  clear x
  replace h4 := h4.at_
  go_wp2_with fail
  refine (HB.out _ _ _ h3 h4).mono ?_
  rintro e w8 ⟨rfl, x⟩
  replace hR := hR.ext x
  replace hP := hP.ext x
  replace kR := kR.ext x
  replace kP := kP.ext x
  replace h3 := h3.ext x
  replace h4 := h4.ext x
  replace X := ext_trans X x
  clear x
  clear h3 h4
  clear HB
  obtain ⟨xa, kM⟩ := blks1 w8 #[.int .i64 (-1), .int .i64 2, .int .i64 0] 37
  replace hR := hR.ext xa
  replace hP := hP.ext xa
  replace kR := kR.ext xa
  replace kP := kP.ext xa
  replace X := ext_trans X xa
  clear xa
  go_upto_region 5 with fail
  generalize (w8.alloc (.cells #[.int .i64 (-1), .int .i64 2, .int .i64 0] 37)) = w9 at *
  generalize w8.heap.size = BM at *
  have KM := hide kM
  clear kM
  have keepK := hide (fun W (h : Ext w9 W) => (show (fun W => W.cell? ⟨BM, 0, none⟩ = some (.int .i64 (-1)) ∧ W.cell? ⟨BM, 1, none⟩ = some (.int .i64 2) ∧ W.cell? ⟨BM, 2, none⟩ = some (.int .i64 0) ∧ Ext w9 W) W from ⟨(KM.out.ext h).cell 0, (KM.out.ext h).cell 1, (KM.out.ext h).cell 2, h⟩))
  have yy : Ext w9 w9.drew := Below.drew (Below.refl _ _)
  refine region_K (fun W => W.cell? ⟨BM, 0, none⟩ = some (.int .i64 (-1)) ∧ W.cell? ⟨BM, 1, none⟩ = some (.int .i64 2) ∧ W.cell? ⟨BM, 2, none⟩ = some (.int .i64 0) ∧ Ext w9 W) (fun _ => True) [] (by kernel_rfl) ?_
  have hT0 := keepK.out _ yy
  refine anyK_take 0 (oi := ?oo98) ?ho98 (by kernel_rfl) (by kernel_rfl) (by kernel_rfl) (by kernel_rfl) ?hq98 ?hw98 hT0 (fun _ => trivial) (v := ?vv98) ?hy98 ?hk98
  case ho98 => (simp only [List.getElem?_toArray, List.getElem?_cons_succ, List.getElem?_cons_zero]; rfl)
  case hq98 => exact fun _ _ _ h => h
  case hw98 => rfl
  case hy98 =>
    intro W hW
    go_simp
    first | done | with_reducible rfl
  case hk98 =>
  try simp only [Act.put, List.setIfInBounds_toArray, List.set_cons_zero, List.set_cons_succ]
  refine anyK_take 1 (oi := ?oo99) ?ho99 (by kernel_rfl) (by kernel_rfl) (by kernel_rfl) (by kernel_rfl) ?hq99 ?hw99 hT0 (fun _ => trivial) (v := ?vv99) ?hy99 ?hk99
  case ho99 => (simp only [List.getElem?_toArray, List.getElem?_cons_succ, List.getElem?_cons_zero]; rfl)
  case hq99 => exact fun _ _ _ h => h
  case hw99 => rfl
  case hy99 =>
    intro W hW
    go_simp
    first | done | with_reducible rfl
  case hk99 =>
  try simp only [Act.put, List.setIfInBounds_toArray, List.set_cons_zero, List.set_cons_succ]
  refine anyK_take 2 (oi := ?oo100) ?ho100 (by kernel_rfl) (by kernel_rfl) (by kernel_rfl) (by kernel_rfl) ?hq100 ?hw100 hT0 (fun _ => trivial) (v := ?vv100) ?hy100 ?hk100
  case ho100 => (simp only [List.getElem?_toArray, List.getElem?_cons_succ, List.getElem?_cons_zero]; rfl)
  case hq100 => exact fun _ _ _ h => h
  case hw100 => rfl
  case hy100 =>
    intro W hW
    go_simp
    first | done | with_reducible rfl
  case hk100 =>
  try simp only [Act.put, List.setIfInBounds_toArray, List.set_cons_zero, List.set_cons_succ]
  refine anyK_take 3 (oi := ?oo101) ?ho101 (by kernel_rfl) (by kernel_rfl) (by kernel_rfl) (by kernel_rfl) ?hq101 ?hw101 hT0 (fun _ => trivial) (v := ?vv101) ?hy101 ?hk101
  case ho101 => (simp only [List.getElem?_toArray, List.getElem?_cons_succ, List.getElem?_cons_zero]; rfl)
  case hq101 => exact fun _ _ _ h => h
  case hw101 => rfl
  case hy101 =>
    intro W hW
    obtain ⟨z0, z1, z2, z3⟩ := hW
    go_simp
    first | done | with_reducible rfl
  case hk101 =>
  try simp only [Act.put, List.setIfInBounds_toArray, List.set_cons_zero, List.set_cons_succ]
  refine anyK_on1 4 (by kernel_rfl) ?_
  refine anyK_one 4 (o := ?oo102) ?ho102 ?hk102
  case ho102 => (simp only [List.getElem?_toArray, List.getElem?_cons_succ, List.getElem?_cons_zero]; rfl)
  case hk102 =>
  intro K hK
  go_simp
  refine (put_any 2 _).mono ?_
  rintro e wr ⟨rfl, xx⟩
  try go_wp2_with fail
  replace yy := ext_trans yy xx
  have hT1 := keepK.out _ yy
  refine hK.out _ _ hT1 (fun _ => trivial) ?_
  clear hK K
  try simp only [Act.put, List.setIfInBounds_toArray, List.set_cons_zero, List.set_cons_succ]
  refine anyK_take 5 (oi := ?oo103) ?ho103 (by kernel_rfl) (by kernel_rfl) (by kernel_rfl) (by kernel_rfl) ?hq103 ?hw103 hT1 (fun _ => trivial) (v := ?vv103) ?hy103 ?hk103
  case ho103 => (simp only [List.getElem?_toArray, List.getElem?_cons_succ, List.getElem?_cons_zero]; rfl)
  case hq103 => exact fun _ _ _ h => h
  case hw103 => rfl
  case hy103 =>
    intro W hW
    go_simp
    first | done | with_reducible rfl
  case hk103 =>
  try simp only [Act.put, List.setIfInBounds_toArray, List.set_cons_zero, List.set_cons_succ]
  refine anyK_take 6 (oi := ?oo104) ?ho104 (by kernel_rfl) (by kernel_rfl) (by kernel_rfl) (by kernel_rfl) ?hq104 ?hw104 hT1 (fun _ => trivial) (v := ?vv104) ?hy104 ?hk104
  case ho104 => (simp only [List.getElem?_toArray, List.getElem?_cons_succ, List.getElem?_cons_zero]; rfl)
  case hq104 => exact fun _ _ _ h => h
  case hw104 => rfl
  case hy104 =>
    intro W hW
    go_simp
    first | done | with_reducible rfl
  case hk104 =>
  try simp only [Act.put, List.setIfInBounds_toArray, List.set_cons_zero, List.set_cons_succ]
  refine anyK_done (by kernel_rfl) ?_ _
  clear keepK hT0 hT1
  replace hR := hR.ext yy
  replace hP := hP.ext yy
  replace kR := kR.ext yy
  replace kP := kP.ext yy
  replace X := ext_trans X yy
  clear xx yy KM
  have fR := kR.cell
  have fP := kP.cell
  go_wp2_with fail
  refine (HHV.out _ _ _ hR hP).mono ?_
  rintro e w10 ⟨rfl, x⟩
  replace hR := hR.ext x
  replace hP := hP.ext x
  replace kR := kR.ext x
  replace kP := kP.ext x
  replace X := ext_trans X x
  replace fR := kR.cell
  replace fP := kP.cell
  clear x
  clear HHV
  go_wp2_with fail
  refine (HB1.out _ _ _ hR hP).mono ?_
  rintro e w11 ⟨va, rfl, ha, x⟩
  replace hR := hR.ext x
  replace hP := hP.ext x
  replace kR := kR.ext x
  replace kP := kP.ext x
  replace X := ext_trans X x
  replace fR := kR.cell
  replace fP := kP.cell
  clear x
  obtain ⟨aA, aC, rfl, oA⟩ := ha
  have hca := (own_cells oA).1
  clear oA
  rw [← HNN.out]
  go_wp2_with fail
  refine (HB2.out _ _ _ hR hP).mono ?_
  rintro e w12 ⟨rfl, x⟩
  replace hR := hR.ext x
  replace hP := hP.ext x
  replace kR := kR.ext x
  replace kP := kP.ext x
  replace hca := hca.ext x
  replace X := ext_trans X x
  replace fR := kR.cell
  replace fP := kP.cell
  clear x
  clear fR fP
  obtain ⟨xa, k9⟩ := blks1 w12 #[.int .i64 bs, .int .i64 bd, .int .i64 bp] 37
  replace hR := hR.ext xa
  replace hP := hP.ext xa
  replace kR := kR.ext xa
  replace kP := kP.ext xa
  replace hca := hca.ext xa
  replace X := ext_trans X xa
  clear xa
  go_upto_region 11 with fail
  generalize (w12.alloc (.cells #[.int .i64 bs, .int .i64 bd, .int .i64 bp] 37)) = w13 at *
  generalize w12.heap.size = B9 at *
  go_upto_region 14 with fail
  have HF := hide (fun W (h : Ext w13 W) => And.intro (hR.ext h) (And.intro (hP.ext h) (And.intro (kR.ext h) (And.intro (kP.ext h) (And.intro (k9.ext h) (And.intro (hca.ext h) (ext_trans X h)))))))
  clear hR hP kR kP hca k9 X HB1 HB2
  go_wp2_with fail
  go_loopw [15, 95] (fun sm i wr => ∃ k : Nat, k ≤ N ∧ i = .int .i64 k ∧ sm = .int .i64 (sumV (L.take k)) ∧ Ext w13 wr) (fun _ i _ => N - (intOf i).toNat)
  case atStart => exact ⟨0, Nat.zero_le _, rfl, rfl, Below.refl _ _⟩
  case round =>
    obtain ⟨k, hk, rfl, rfl, x⟩ := hrel
    have XB := hide x
    obtain ⟨hR, hP, kR, kP, k9, hca, X⟩ := HF.out _ x
    clear x
    by_cases hlt : k < N
    · obtain ⟨y, hy⟩ : ∃ y, L[k]? = some y := ⟨_, List.getElem?_eq_getElem (by rw [← HNN.out]; exact hlt)⟩
      obtain ⟨b, o, rfl, c0, c1, c2, c3, c4⟩ := wm_get hca hy
      have HCA := hide hca
      have HY := hide hy
      obtain ⟨f1, f2, f3⟩ := HK.out k y hy
      obtain ⟨-, v0, v1, -, -⟩ := HWF.out k y hy
      have HY1 := hide f1
      have HY2 := hide f2
      have HY3 := hide f3
      have hs1 := sumV_take hy
      have HS1 := hide hs1
      have hsb := HSB.out k (Nat.le_of_lt hlt)
      have j0 : (0 : Int) ≤ (k : Int) := by omega
      have j1 : (k : Int) < (N : Int) := by omega
      have j9 : (k : Int) ≤ 1000000 := by have := HLL.out; omega
      have j2 : sumV (L.take k) + y.v ≤ 3000000000 := by omega
      have j3 : 0 ≤ sumV (L.take k) + y.v := by omega
      have HLT := hide hlt
      clear hy f1 f2 f3 hs1 hsb hlt hk hca
      have hZ : FromT wr wr := ⟨Below.refl _ _⟩
      have fR := kR.cell
      have fP := kP.cell
      have f9 := k9.cell
      obtain ⟨xa, kY⟩ := blks1 wr #[.int .i64 y.m.src, .int .i64 y.m.dst, .int .i64 y.m.piece, .int .i64 y.v, .int .i64 y.p] 39
      replace hR := hR.ext xa
      replace hP := hP.ext xa
      replace kR := kR.ext xa
      replace kP := kP.ext xa
      replace k9 := k9.ext xa
      replace hZ := hZ.ext xa
      replace X := ext_trans X xa
      have fR' := kR.cell
      have fP' := kP.cell
      have f9' := k9.cell
      clear xa
      go_upto_region 17 with fail
      generalize (wr.alloc (.cells #[.int .i64 y.m.src, .int .i64 y.m.dst, .int .i64 y.m.piece, .int .i64 y.v, .int .i64 y.p] 39)) = w2 at *
      generalize wr.heap.size = BY at *
      replace fR := kR.cell
      clear fR'
      replace fP := kP.cell
      clear fP'
      replace f9 := k9.cell
      clear f9'
      clear c0 c1 c2 c3 c4
      have fY := kY.cell
      go_wp2_with fail
      refine (HAF.out y.m HY1.out _ _ _ hR hP).mono ?_
      rintro e w3 ⟨v6, rfl, h6, x⟩
      replace hR := hR.ext x
      replace hP := hP.ext x
      replace kR := kR.ext x
      replace kP := kP.ext x
      replace k9 := k9.ext x
      replace hZ := hZ.ext x
      replace kY := kY.ext x
      replace X := ext_trans X x
      replace fR := kR.cell
      replace fP := kP.cell
      replace f9 := k9.cell
      replace fY := kY.cell
      clear x
      replace h6 := h6.at_
      have h6v := h6
      obtain ⟨cA6, cc6, aA6, ac6, bA6, bc6, rfl, -⟩ := h6v
      have HSC2 := hide (HSC.out (makeM R P y.m))
      obtain ⟨e1, e2⟩ := HQ.out y.m HY1.out
      rw [e1, e2] at HSC2
      clear e1 e2
      generalize makeM R P y.m = Q at *
      generalize ofM R 0 Q = sc at *
      obtain ⟨xa, k6⟩ := blks1 w3 #[.slice cA6 Q.cells.length cc6, .slice aA6 Q.hand0.length ac6, .slice bA6 Q.hand1.length bc6, .int .i64 Q.turn, .int .i64 Q.quiet] 29
      replace hR := hR.ext xa
      replace hP := hP.ext xa
      replace kR := kR.ext xa
      replace kP := kP.ext xa
      replace k9 := k9.ext xa
      replace hZ := hZ.ext xa
      replace kY := kY.ext xa
      replace h6 := h6.ext xa
      replace X := ext_trans X xa
      have fR' := kR.cell
      have fP' := kP.cell
      have f9' := k9.cell
      have fY' := kY.cell
      clear xa
      go_upto_region 18 with fail
      generalize (w3.alloc (.cells #[.slice cA6 Q.cells.length cc6, .slice aA6 Q.hand0.length ac6, .slice bA6 Q.hand1.length bc6, .int .i64 Q.turn, .int .i64 Q.quiet] 29)) = w4 at *
      generalize w3.heap.size = B6 at *
      replace fR := kR.cell
      clear fR'
      replace fP := kP.cell
      clear fP'
      replace f9 := k9.cell
      clear f9'
      replace fY := kY.cell
      clear fY'
      have f6 := k6.cell
      go_wp2_with fail
      refine (HSC2.out _ _ _ hR h6).mono ?_
      rintro e w5 ⟨rfl, x⟩
      replace hR := hR.ext x
      replace hP := hP.ext x
      replace kR := kR.ext x
      replace kP := kP.ext x
      replace k9 := k9.ext x
      replace hZ := hZ.ext x
      replace kY := kY.ext x
      replace h6 := h6.ext x
      replace k6 := k6.ext x
      replace X := ext_trans X x
      replace fR := kR.cell
      replace fP := kP.cell
      replace f9 := k9.cell
      replace fY := kY.cell
      replace f6 := k6.cell
      clear x
      clear fR fP f6
      obtain ⟨xa, kE⟩ := blks1 w5 #[.int .i64 0, .int .i64 0] 31
      replace hR := hR.ext xa
      replace hP := hP.ext xa
      replace kR := kR.ext xa
      replace kP := kP.ext xa
      replace k9 := k9.ext xa
      replace hZ := hZ.ext xa
      replace kY := kY.ext xa
      replace h6 := h6.ext xa
      replace k6 := k6.ext xa
      replace X := ext_trans X xa
      have f9' := k9.cell
      have fY' := kY.cell
      clear xa
      go_wp2_with fail
      generalize (w5.alloc (.cells #[.int .i64 0, .int .i64 0] 31)) = w6 at *
      generalize w5.heap.size = BE at *
      replace f9 := k9.cell
      clear f9'
      replace fY := kY.cell
      clear fY'
      refine (fine_ext (fine_any (some ⟨BE, 0, none⟩) 2 2 [0, 0] _ rfl (by omega) (blk_ints kE))).mono ?_
      rintro e w7 ⟨rfl, x⟩
      replace hR := hR.ext x
      replace hP := hP.ext x
      replace kR := kR.ext x
      replace kP := kP.ext x
      replace k9 := k9.ext x
      replace hZ := hZ.ext x
      replace kY := kY.ext x
      replace h6 := h6.ext x
      replace k6 := k6.ext x
      replace kE := kE.ext x
      replace X := ext_trans X x
      replace f9 := k9.cell
      replace fY := kY.cell
      clear x
      rw [show allZero [0, 0] = true from rfl]
      clear kE
      have HMN := hide (fun W (hW : Ext w7 W) (hle : ∀ z ∈ L, z.v ≤ y.v) => more_no (some ⟨b, o, none⟩) aC L BY y.v W (by rw [← HNN.out]; exact HLL.out) (HCA.out.ext (ext_trans hZ.x hW)) hle ((kY.ext hW).cell 3))
      rw [← HNN.out] at HMN
      have hy3 := HY3.out
      have hy2 := HY2.out
      skip
      have kY' := kY.cell
      have XE := hide (ext_trans XB.out hZ.x)
      have HBS := HSB.out (k + 1) HLT.out
      clear HBS hy3 hy2
      by_cases hA : sc = -1000
      · skip
        have e := HY2.out hA
        subst hA
        have t3 : (y.p != 2 * y.v) = false := by simpa using e
        clear HY2 HY3 e
        go_wp2_with fail
        all_goals first
          | (
            refine ⟨⟨k + 1, HLT.out, by go_num, by rw [HS1.out], XE.out⟩, ?_⟩
            have := HLT.out
            simp [intOf]
            omega)
          | (
            have hle : ∀ z ∈ L, z.v ≤ y.v := HBO.out k y HY.out (by
              obtain ⟨q1, q2, q3⟩ := HBM.out
              have e1 : y.m = ⟨y.m.src, y.m.dst, y.m.piece⟩ := rfl
              have e2 : (bestWL L).m = ⟨(bestWL L).m.src, (bestWL L).m.dst, (bestWL L).m.piece⟩ := rfl
              rw [e1, e2, ← q1, ← q2, ← q3]
              have g1 : y.m.src = bs := by first | assumption | exact Eq.symm ‹_›
              have g2 : y.m.dst = bd := by first | assumption | exact Eq.symm ‹_›
              have g3 : y.m.piece = bp := by first | assumption | exact Eq.symm ‹_›
              rw [g1, g2, g3])
            refine (HMN.out _ (Below.refl _ _) hle).mono ?_
            rintro e w8 ⟨rfl, x8⟩
            have X8 := hide (ext_trans XE.out x8)
            clear x8
            go_wp2
            go_roundw
            case rel => exact ⟨k + 1, HLT.out, by go_num, by rw [HS1.out], X8.out⟩
            case measure => have := HLT.out; simp [intOf]; omega)
      · by_cases hB : sc = 1000
        · skip
          have e := HY3.out hB
          subst hB
          have t3 : (y.p != 0) = false := by simpa using e
          clear HY2 HY3 hA e
          go_wp2_with fail
          all_goals first
            | (
              refine ⟨⟨k + 1, HLT.out, by go_num, by rw [HS1.out], XE.out⟩, ?_⟩
              have := HLT.out
              simp [intOf]
              omega)
            | (
              have hle : ∀ z ∈ L, z.v ≤ y.v := HBO.out k y HY.out (by
                obtain ⟨q1, q2, q3⟩ := HBM.out
                have e1 : y.m = ⟨y.m.src, y.m.dst, y.m.piece⟩ := rfl
                have e2 : (bestWL L).m = ⟨(bestWL L).m.src, (bestWL L).m.dst, (bestWL L).m.piece⟩ := rfl
                rw [e1, e2, ← q1, ← q2, ← q3]
                have g1 : y.m.src = bs := by first | assumption | exact Eq.symm ‹_›
                have g2 : y.m.dst = bd := by first | assumption | exact Eq.symm ‹_›
                have g3 : y.m.piece = bp := by first | assumption | exact Eq.symm ‹_›
                rw [g1, g2, g3])
              refine (HMN.out _ (Below.refl _ _) hle).mono ?_
              rintro e w8 ⟨rfl, x8⟩
              have X8 := hide (ext_trans XE.out x8)
              clear x8
              go_wp2
              go_roundw
              case rel => exact ⟨k + 1, HLT.out, by go_num, by rw [HS1.out], X8.out⟩
              case measure => have := HLT.out; simp [intOf]; omega)
        · skip
          have u1 : (sc == -1000) = false := by simpa using hA
          have u2 : (sc == 1000) = false := by simpa using hB
          clear HY2 HY3 hA hB
          go_wp2_with fail
          all_goals first
            | (
              refine ⟨⟨k + 1, HLT.out, by go_num, by rw [HS1.out], XE.out⟩, ?_⟩
              have := HLT.out
              simp [intOf]
              omega)
            | (
              have hle : ∀ z ∈ L, z.v ≤ y.v := HBO.out k y HY.out (by
                obtain ⟨q1, q2, q3⟩ := HBM.out
                have e1 : y.m = ⟨y.m.src, y.m.dst, y.m.piece⟩ := rfl
                have e2 : (bestWL L).m = ⟨(bestWL L).m.src, (bestWL L).m.dst, (bestWL L).m.piece⟩ := rfl
                rw [e1, e2, ← q1, ← q2, ← q3]
                have g1 : y.m.src = bs := by first | assumption | exact Eq.symm ‹_›
                have g2 : y.m.dst = bd := by first | assumption | exact Eq.symm ‹_›
                have g3 : y.m.piece = bp := by first | assumption | exact Eq.symm ‹_›
                rw [g1, g2, g3])
              refine (HMN.out _ (Below.refl _ _) hle).mono ?_
              rintro e w8 ⟨rfl, x8⟩
              have X8 := hide (ext_trans XE.out x8)
              clear x8
              go_wp2
              go_roundw
              case rel => exact ⟨k + 1, HLT.out, by go_num, by rw [HS1.out], X8.out⟩
              case measure => have := HLT.out; simp [intOf]; omega)
      skip
    · obtain rfl : k = N := by omega
      have HS9 := hide (show sumV (L.take k) = ((40 : Nat) : Int) by rw [HNN.out, List.take_length]; exact HSM.out)
      have XF := hide X
      clear hR hP kR kP k9 hca X hk hlt
      rw [HS9.out]
      go_wp2
      go_ret
      exact ⟨by first | rfl | simp, XF.out⟩
theorem topWalk_law (v : Value) (R : RulesM) (u : Value) (P : PosM) (s : Int) (w : World) (hR : RulesAt w v R) (hP : PosAt w u P) :
    Calls Try.prog 3 #[v, u, .int .i64 s] w fun e w' => e = .returned (.bool true) ∧ Ext w w' := by
  cases hh : bheavyB R P 1
  · by_cases hb : 9 < P.cells.length
    · exact topWalk_big R P v u s w hR hP hh hb
    · by_cases he : runE R P s 40 = 0
      · exact topWalk_yes R P v u s w hR hP hh hb he
      · exact topWalk_bad R P v u s w hR hP hh hb he
  · exact topWalk_heavy R P v u s w hR hP hh

end Go.Proofs.Ytdoibgmmijhlfaa
