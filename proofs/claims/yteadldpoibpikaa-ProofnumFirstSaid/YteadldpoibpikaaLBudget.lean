/- Walk: attacked; the law ProofnumBudget. -/
import Derived.Test.YteadldpoibpikaaGProofA
import Derived.Test.YteadldpoibpikaaGSmall
namespace Go.Proofs.Yteadldpoibpikaa
open Go.ChangeShapes Go.WideShapes Go.ChangeAt Go.RowKit Go.Shelf
set_option linter.unusedVariables false
set_option linter.unusedSimpArgs false
theorem PFirst_some (R : RulesM) (P : PosM) (v u : Value) (D : Int) (w : World) (hR : RulesAt w v R) (hP : PosAt w u P) (h : provE R P D = 0) {m : MoveM} (hm : firstP R P D = some m) :
    Calls Try.prog 21 #[v, u, .int .i64 D] w fun e w' => e = .returned (.tuple #[.agg #[.int .i64 m.src, .int .i64 m.dst, .int .i64 m.piece], .int .i64 0]) ∧ Ext w w' := by
  have h := PFirst_yes R P v u D w hR hP h
  rw [hm] at h
  exact h
theorem PFirst_none (R : RulesM) (P : PosM) (v u : Value) (D : Int) (w : World) (hR : RulesAt w v R) (hP : PosAt w u P) (h : provE R P D = 0) (hm : firstP R P D = none) :
    Calls Try.prog 21 #[v, u, .int .i64 D] w fun e w' => e = .returned (.tuple #[.agg #[.int .i64 0, .int .i64 0, .int .i64 0], .int .i64 8]) ∧ Ext w w' := by
  have h := PFirst_yes R P v u D w hR hP h
  rw [hm] at h
  exact h
set_option maxRecDepth 100000 in
theorem near_prov : provE threeR nearP 10 = 0 ∧ stN (provT threeR nearP 10).1 = 0 ∧ (provT threeR nearP 10).1.a = 0 ∧ (provT threeR nearP 10).2 = 1 ∧ firstP threeR nearP 10 = some ⟨-1, 2, 0⟩ := by decide +kernel
theorem provE_bad {R : RulesM} {P : PosM} {D : Int} (h : checkE R P ≠ 0) : provE R P D = checkE R P := if_pos h
theorem provE_ok {R : RulesM} {P : PosM} {D : Int} (h : checkE R P = 0) (h0 : 0 ≤ D) (h1 : D ≤ 5000) : provE R P D = 0 := by
  unfold provE
  rw [if_neg (by simpa using h), if_neg (by omega)]
theorem some_mod (n : Int) (hn : 1 ≤ n) (hb : n ≤ 1000) (a K : Int) (h : (wrap64 (a.tmod n + n)).tmod n = K) : 0 ≤ K ∧ K < n := by
  obtain ⟨h1, h2, h3, h4⟩ := some_idx (n := a) (l := n) hn
  have e : wrap64 (a.tmod n + n) = a.tmod n + n := by unfold wrap64; omega
  rw [e] at h
  omega
theorem budget_facts {R : RulesM} {P : PosM} {K M : Int} (hc : checkE R P = 0) (k0 : 0 ≤ K) (k1 : K < 40) (m0 : 0 ≤ M) (m1 : M < 40) : provE R P K = 0 ∧ provE R P (K + M) = 0 ∧
    ((stN (provT R P K).1 ≠ 2 ∧ provT R P (K + M) = provT R P K ∧ ((provT R P K).2 : Int) ≤ K) ∨
     (stN (provT R P K).1 = 2 ∧ ((provT R P K).2 : Int) = K ∧ K ≤ ((provT R P (K + M)).2 : Int) ∧ 0 < (provT R P K).1.a ∧ 0 < (provT R P K).1.b)) := by
  have e1 : provE R P K = 0 := provE_ok hc k0 (by omega)
  refine ⟨e1, provE_ok hc (by omega) (by omega), ?_⟩
  have hle : ((provT R P K).2 : Int) ≤ K := by
    have := prov_le R P.turn K.toNat (leafN R P.turn P)
    have h : (provT R P K).2 ≤ K.toNat := this
    omega
  have hsum : (K + M).toNat = K.toNat + M.toNat := by omega
  by_cases ho : OpenN (provT R P K).1
  · obtain ⟨h1, h2⟩ := prov_all R P.turn K.toNat (leafN R P.turn P) ho
    have h1' : (provT R P K).2 = K.toNat := h1
    have h3 := h2 M.toNat
    rw [← hsum] at h3
    have h3' : K.toNat ≤ (provT R P (K + M)).2 := h3
    have hs := (provT_inv e1).1.score (check_iff.1 hc).2.turn
    refine .inr ⟨stN_open.2 ho, by omega, by omega, ?_, ?_⟩
    · have := hs.1; have := ho.1; omega
    · have := hs.2.1; have := ho.2; omega
  · refine .inl ⟨fun h => ho (stN_open.1 h), ?_, hle⟩
    have := prov_more R P.turn K.toNat M.toNat (leafN R P.turn P) ho
    unfold provT
    rw [hsum]
    exact this
set_option maxHeartbeats 4000000 in
set_option maxRecDepth 100000 in
theorem attacked_any (w : World) : Calls Try.prog 14 #[] w fun e w' => e = .returned (.bool true) ∧ Ext w w' := by
  have HA := hide (fun W (v1 v2 : Value) (h1 : RulesAt W v1 threeR) (h2 : PosAt W v2 nearP) => Prove_yes threeR nearP v1 v2 10 W h1 h2 near_prov.1)
  rw [near_prov.2.1, near_prov.2.2.1, near_prov.2.2.2.1] at HA
  generalize (provT threeR nearP 10).1.b = bb at HA
  have HB := hide (fun W (v1 v2 : Value) (h1 : RulesAt W v1 threeR) (h2 : PosAt W v2 nearP) => PFirst_some threeR nearP v1 v2 10 W h1 h2 near_prov.1 near_prov.2.2.2.2)
  go_enter Try.func14, Try.ntmps14
  go_wp2_with fail
  refine (three_any _).mono ?_
  rintro e w2 ⟨v1, rfl, h1, x⟩
  have X := x
  clear x
  go_wp2_with fail
  refine (near_any _).mono ?_
  rintro e w3 ⟨v2, rfl, h2, x⟩
  replace h1 := h1.ext x
  replace X := ext_trans X x
  clear x
  replace h2 := h2.at_
  go_wp2_with fail
  refine (HA.out _ _ _ h1 h2).mono ?_
  rintro e w4 ⟨rfl, x⟩
  replace h1 := h1.ext x
  replace h2 := h2.ext x
  replace X := ext_trans X x
  clear x
  clear h1 h2
  clear HA
  obtain ⟨xa, kX⟩ := blks1 w4 #[.int .i64 0, .int .i64 0, .int .i64 bb, .int .i64 ((1 : Nat) : Int)] 32
  replace X := ext_trans X xa
  clear xa
  go_wp2_with fail
  generalize (w4.alloc (.cells #[.int .i64 0, .int .i64 0, .int .i64 bb, .int .i64 ((1 : Nat) : Int)] 32)) = w5 at *
  generalize w4.heap.size = BX at *
  refine (three_any _).mono ?_
  rintro e w6 ⟨v3, rfl, h3, x⟩
  replace kX := kX.ext x
  replace X := ext_trans X x
  clear x
  go_wp2_with fail
  refine (near_any _).mono ?_
  rintro e w7 ⟨v4, rfl, h4, x⟩
  replace kX := kX.ext x
  replace h3 := h3.ext x
  replace X := ext_trans X x
  clear x
  replace h4 := h4.at_
  go_wp2_with fail
  refine (HB.out _ _ _ h3 h4).mono ?_
  rintro e w8 ⟨rfl, x⟩
  replace kX := kX.ext x
  replace h3 := h3.ext x
  replace h4 := h4.ext x
  replace X := ext_trans X x
  clear x
  clear h3 h4
  clear HB
  obtain ⟨xa, kM⟩ := blks1 w8 #[.int .i64 (-1), .int .i64 2, .int .i64 0] 42
  replace kX := kX.ext xa
  replace X := ext_trans X xa
  clear xa
  go_upto_region 3 with fail
  generalize (w8.alloc (.cells #[.int .i64 (-1), .int .i64 2, .int .i64 0] 42)) = w9 at *
  generalize w8.heap.size = BM at *
  have KX := hide kX
  have KM := hide kM
  have XB := hide X
  clear kX kM X
  have keepK := hide (fun W (h : Ext w9 W) => (show (fun W => W.cell? ⟨BX, 0, none⟩ = some (.int .i64 0) ∧ W.cell? ⟨BX, 1, none⟩ = some (.int .i64 0) ∧ W.cell? ⟨BX, 2, none⟩ = some (.int .i64 bb) ∧ W.cell? ⟨BX, 3, none⟩ = some (.int .i64 ((1 : Nat) : Int)) ∧ W.cell? ⟨BM, 0, none⟩ = some (.int .i64 (-1)) ∧ W.cell? ⟨BM, 1, none⟩ = some (.int .i64 2) ∧ W.cell? ⟨BM, 2, none⟩ = some (.int .i64 0) ∧ Ext w9 W) W from ⟨(KX.out.ext h).cell 0, (KX.out.ext h).cell 1, (KX.out.ext h).cell 2, (KX.out.ext h).cell 3, (KM.out.ext h).cell 0, (KM.out.ext h).cell 1, (KM.out.ext h).cell 2, h⟩))
  have yy : Ext w9 w9.drew := Below.drew (Below.refl _ _)
  refine region_K (fun W => W.cell? ⟨BX, 0, none⟩ = some (.int .i64 0) ∧ W.cell? ⟨BX, 1, none⟩ = some (.int .i64 0) ∧ W.cell? ⟨BX, 2, none⟩ = some (.int .i64 bb) ∧ W.cell? ⟨BX, 3, none⟩ = some (.int .i64 ((1 : Nat) : Int)) ∧ W.cell? ⟨BM, 0, none⟩ = some (.int .i64 (-1)) ∧ W.cell? ⟨BM, 1, none⟩ = some (.int .i64 2) ∧ W.cell? ⟨BM, 2, none⟩ = some (.int .i64 0) ∧ Ext w9 W) (fun _ => True) [] (by kernel_rfl) ?_
  have hT0 := keepK.out _ yy
  refine anyK_take 0 (oi := ?oo1) ?ho1 (by kernel_rfl) (by kernel_rfl) (by kernel_rfl) (by kernel_rfl) ?hq1 ?hw1 hT0 (fun _ => trivial) (v := ?vv1) ?hy1 ?hk1
  case ho1 => (simp only [List.getElem?_toArray, List.getElem?_cons_succ, List.getElem?_cons_zero]; rfl)
  case hq1 => exact fun _ _ _ h => h
  case hw1 => rfl
  case hy1 =>
    intro W hW
    go_simp
    first | done | with_reducible rfl
  case hk1 =>
  try simp only [Act.put, List.setIfInBounds_toArray, List.set_cons_zero, List.set_cons_succ]
  refine anyK_take 1 (oi := ?oo2) ?ho2 (by kernel_rfl) (by kernel_rfl) (by kernel_rfl) (by kernel_rfl) ?hq2 ?hw2 hT0 (fun _ => trivial) (v := ?vv2) ?hy2 ?hk2
  case ho2 => (simp only [List.getElem?_toArray, List.getElem?_cons_succ, List.getElem?_cons_zero]; rfl)
  case hq2 => exact fun _ _ _ h => h
  case hw2 => rfl
  case hy2 =>
    intro W hW
    go_simp
    first | done | with_reducible rfl
  case hk2 =>
  try simp only [Act.put, List.setIfInBounds_toArray, List.set_cons_zero, List.set_cons_succ]
  refine anyK_on1 2 (by kernel_rfl) ?_
  refine anyK_one 2 (o := ?oo3) ?ho3 ?hk3
  case ho3 => (simp only [List.getElem?_toArray, List.getElem?_cons_succ, List.getElem?_cons_zero]; rfl)
  case hk3 =>
  intro K hK
  go_simp
  have HKE := hide (Blk.new w9.drew 33 #[.int .i64 0, .int .i64 0])
  replace yy := ext_alloc yy (.cells #[.int .i64 0, .int .i64 0] 33)
  have hT1 := keepK.out _ yy
  refine hK.out _ _ hT1 (fun _ => trivial) ?_
  clear hK K
  try simp only [Act.put, List.setIfInBounds_toArray, List.set_cons_zero, List.set_cons_succ]
  refine anyK_on1 3 (by kernel_rfl) ?_
  refine anyK_one 3 (o := ?oo4) ?ho4 ?hk4
  case ho4 => (simp only [List.getElem?_toArray, List.getElem?_cons_succ, List.getElem?_cons_zero]; rfl)
  case hk4 =>
  intro K hK
  go_simp
  refine (fine_ok2 HKE.out).mono ?_
  rintro e we ⟨rfl, xx⟩
  try go_wp2_with fail
  replace yy := ext_trans yy xx
  have hT2 := keepK.out _ yy
  refine hK.out _ _ hT2 (fun _ => trivial) ?_
  clear hK K
  try simp only [Act.put, List.setIfInBounds_toArray, List.set_cons_zero, List.set_cons_succ]
  refine anyK_take 4 (oi := ?oo5) ?ho5 (by kernel_rfl) (by kernel_rfl) (by kernel_rfl) (by kernel_rfl) ?hq5 ?hw5 hT2 (fun _ => trivial) (v := ?vv5) ?hy5 ?hk5
  case ho5 => (simp only [List.getElem?_toArray, List.getElem?_cons_succ, List.getElem?_cons_zero]; rfl)
  case hq5 => exact fun _ _ _ h => h
  case hw5 => rfl
  case hy5 =>
    intro W hW
    go_simp
    first | done | with_reducible rfl
  case hk5 =>
  try simp only [Act.put, List.setIfInBounds_toArray, List.set_cons_zero, List.set_cons_succ]
  refine anyK_take 5 (oi := ?oo6) ?ho6 (by kernel_rfl) (by kernel_rfl) (by kernel_rfl) (by kernel_rfl) ?hq6 ?hw6 hT2 (fun _ => trivial) (v := ?vv6) ?hy6 ?hk6
  case ho6 => (simp only [List.getElem?_toArray, List.getElem?_cons_succ, List.getElem?_cons_zero]; rfl)
  case hq6 => exact fun _ _ _ h => h
  case hw6 => rfl
  case hy6 =>
    intro W hW
    go_simp
    first | done | with_reducible rfl
  case hk6 =>
  try simp only [Act.put, List.setIfInBounds_toArray, List.set_cons_zero, List.set_cons_succ]
  refine anyK_take 6 (oi := ?oo7) ?ho7 (by kernel_rfl) (by kernel_rfl) (by kernel_rfl) (by kernel_rfl) ?hq7 ?hw7 hT2 (fun _ => trivial) (v := ?vv7) ?hy7 ?hk7
  case ho7 => (simp only [List.getElem?_toArray, List.getElem?_cons_succ, List.getElem?_cons_zero]; rfl)
  case hq7 => exact fun _ _ _ h => h
  case hw7 => rfl
  case hy7 =>
    intro W hW
    obtain ⟨z0, z1, z2, z3, z4, z5, z6, z7⟩ := hW
    go_simp
    first | done | with_reducible rfl
  case hk7 =>
  try simp only [Act.put, List.setIfInBounds_toArray, List.set_cons_zero, List.set_cons_succ]
  refine anyK_take 7 (oi := ?oo8) ?ho8 (by kernel_rfl) (by kernel_rfl) (by kernel_rfl) (by kernel_rfl) ?hq8 ?hw8 hT2 (fun _ => trivial) (v := ?vv8) ?hy8 ?hk8
  case ho8 => (simp only [List.getElem?_toArray, List.getElem?_cons_succ, List.getElem?_cons_zero]; rfl)
  case hq8 => exact fun _ _ _ h => h
  case hw8 => rfl
  case hy8 =>
    intro W hW
    go_simp
    first | done | with_reducible rfl
  case hk8 =>
  try simp only [Act.put, List.setIfInBounds_toArray, List.set_cons_zero, List.set_cons_succ]
  refine anyK_take 8 (oi := ?oo9) ?ho9 (by kernel_rfl) (by kernel_rfl) (by kernel_rfl) (by kernel_rfl) ?hq9 ?hw9 hT2 (fun _ => trivial) (v := ?vv9) ?hy9 ?hk9
  case ho9 => (simp only [List.getElem?_toArray, List.getElem?_cons_succ, List.getElem?_cons_zero]; rfl)
  case hq9 => exact fun _ _ _ h => h
  case hw9 => rfl
  case hy9 =>
    intro W hW
    go_simp
    first | done | with_reducible rfl
  case hk9 =>
  try simp only [Act.put, List.setIfInBounds_toArray, List.set_cons_zero, List.set_cons_succ]
  refine anyK_take 9 (oi := ?oo10) ?ho10 (by kernel_rfl) (by kernel_rfl) (by kernel_rfl) (by kernel_rfl) ?hq10 ?hw10 hT2 (fun _ => trivial) (v := ?vv10) ?hy10 ?hk10
  case ho10 => (simp only [List.getElem?_toArray, List.getElem?_cons_succ, List.getElem?_cons_zero]; rfl)
  case hq10 => exact fun _ _ _ h => h
  case hw10 => rfl
  case hy10 =>
    intro W hW
    go_simp
    first | done | with_reducible rfl
  case hk10 =>
  try simp only [Act.put, List.setIfInBounds_toArray, List.set_cons_zero, List.set_cons_succ]
  refine anyK_take 10 (oi := ?oo11) ?ho11 (by kernel_rfl) (by kernel_rfl) (by kernel_rfl) (by kernel_rfl) ?hq11 ?hw11 hT2 (fun _ => trivial) (v := ?vv11) ?hy11 ?hk11
  case ho11 => (simp only [List.getElem?_toArray, List.getElem?_cons_succ, List.getElem?_cons_zero]; rfl)
  case hq11 => exact fun _ _ _ h => h
  case hw11 => rfl
  case hy11 =>
    intro W hW
    go_simp
    first | done | with_reducible rfl
  case hk11 =>
  try simp only [Act.put, List.setIfInBounds_toArray, List.set_cons_zero, List.set_cons_succ]
  refine anyK_take 11 (oi := ?oo12) ?ho12 (by kernel_rfl) (by kernel_rfl) (by kernel_rfl) (by kernel_rfl) ?hq12 ?hw12 hT2 (fun _ => trivial) (v := ?vv12) ?hy12 ?hk12
  case ho12 => (simp only [List.getElem?_toArray, List.getElem?_cons_succ, List.getElem?_cons_zero]; rfl)
  case hq12 => exact fun _ _ _ h => h
  case hw12 => rfl
  case hy12 =>
    intro W hW
    obtain ⟨z0, z1, z2, z3, z4, z5, z6, z7⟩ := hW
    go_simp
    first | done | with_reducible rfl
  case hk12 =>
  try simp only [Act.put, List.setIfInBounds_toArray, List.set_cons_zero, List.set_cons_succ]
  refine anyK_take 12 (oi := ?oo13) ?ho13 (by kernel_rfl) (by kernel_rfl) (by kernel_rfl) (by kernel_rfl) ?hq13 ?hw13 hT2 (fun _ => trivial) (v := ?vv13) ?hy13 ?hk13
  case ho13 => (simp only [List.getElem?_toArray, List.getElem?_cons_succ, List.getElem?_cons_zero]; rfl)
  case hq13 => exact fun _ _ _ h => h
  case hw13 => rfl
  case hy13 =>
    intro W hW
    go_simp
    first | done | with_reducible rfl
  case hk13 =>
  try simp only [Act.put, List.setIfInBounds_toArray, List.set_cons_zero, List.set_cons_succ]
  refine anyK_take 13 (oi := ?oo14) ?ho14 (by kernel_rfl) (by kernel_rfl) (by kernel_rfl) (by kernel_rfl) ?hq14 ?hw14 hT2 (fun _ => trivial) (v := ?vv14) ?hy14 ?hk14
  case ho14 => (simp only [List.getElem?_toArray, List.getElem?_cons_succ, List.getElem?_cons_zero]; rfl)
  case hq14 => exact fun _ _ _ h => h
  case hw14 => rfl
  case hy14 =>
    intro W hW
    go_simp
    first | done | with_reducible rfl
  case hk14 =>
  try simp only [Act.put, List.setIfInBounds_toArray, List.set_cons_zero, List.set_cons_succ]
  refine anyK_take 14 (oi := ?oo15) ?ho15 (by kernel_rfl) (by kernel_rfl) (by kernel_rfl) (by kernel_rfl) ?hq15 ?hw15 hT2 (fun _ => trivial) (v := ?vv15) ?hy15 ?hk15
  case ho15 => (simp only [List.getElem?_toArray, List.getElem?_cons_succ, List.getElem?_cons_zero]; rfl)
  case hq15 => exact fun _ _ _ h => h
  case hw15 => rfl
  case hy15 =>
    intro W hW
    go_simp
    first | done | with_reducible rfl
  case hk15 =>
  try simp only [Act.put, List.setIfInBounds_toArray, List.set_cons_zero, List.set_cons_succ]
  refine anyK_take 15 (oi := ?oo16) ?ho16 (by kernel_rfl) (by kernel_rfl) (by kernel_rfl) (by kernel_rfl) ?hq16 ?hw16 hT2 (fun _ => trivial) (v := ?vv16) ?hy16 ?hk16
  case ho16 => (simp only [List.getElem?_toArray, List.getElem?_cons_succ, List.getElem?_cons_zero]; rfl)
  case hq16 => exact fun _ _ _ h => h
  case hw16 => rfl
  case hy16 =>
    intro W hW
    go_simp
    first | done | with_reducible rfl
  case hk16 =>
  try simp only [Act.put, List.setIfInBounds_toArray, List.set_cons_zero, List.set_cons_succ]
  refine anyK_take 16 (oi := ?oo17) ?ho17 (by kernel_rfl) (by kernel_rfl) (by kernel_rfl) (by kernel_rfl) ?hq17 ?hw17 hT2 (fun _ => trivial) (v := ?vv17) ?hy17 ?hk17
  case ho17 => (simp only [List.getElem?_toArray, List.getElem?_cons_succ, List.getElem?_cons_zero]; rfl)
  case hq17 => exact fun _ _ _ h => h
  case hw17 => rfl
  case hy17 =>
    intro W hW
    obtain ⟨z0, z1, z2, z3, z4, z5, z6, z7⟩ := hW
    go_simp
    first | done | with_reducible rfl
  case hk17 =>
  try simp only [Act.put, List.setIfInBounds_toArray, List.set_cons_zero, List.set_cons_succ]
  refine anyK_take 17 (oi := ?oo18) ?ho18 (by kernel_rfl) (by kernel_rfl) (by kernel_rfl) (by kernel_rfl) ?hq18 ?hw18 hT2 (fun _ => trivial) (v := ?vv18) ?hy18 ?hk18
  case ho18 => (simp only [List.getElem?_toArray, List.getElem?_cons_succ, List.getElem?_cons_zero]; rfl)
  case hq18 => exact fun _ _ _ h => h
  case hw18 => rfl
  case hy18 =>
    intro W hW
    go_simp
    first | done | with_reducible rfl
  case hk18 =>
  try simp only [Act.put, List.setIfInBounds_toArray, List.set_cons_zero, List.set_cons_succ]
  refine anyK_take 18 (oi := ?oo19) ?ho19 (by kernel_rfl) (by kernel_rfl) (by kernel_rfl) (by kernel_rfl) ?hq19 ?hw19 hT2 (fun _ => trivial) (v := ?vv19) ?hy19 ?hk19
  case ho19 => (simp only [List.getElem?_toArray, List.getElem?_cons_succ, List.getElem?_cons_zero]; rfl)
  case hq19 => exact fun _ _ _ h => h
  case hw19 => rfl
  case hy19 =>
    intro W hW
    go_simp
    first | done | with_reducible rfl
  case hk19 =>
  try simp only [Act.put, List.setIfInBounds_toArray, List.set_cons_zero, List.set_cons_succ]
  refine anyK_take 19 (oi := ?oo20) ?ho20 (by kernel_rfl) (by kernel_rfl) (by kernel_rfl) (by kernel_rfl) ?hq20 ?hw20 hT2 (fun _ => trivial) (v := ?vv20) ?hy20 ?hk20
  case ho20 => (simp only [List.getElem?_toArray, List.getElem?_cons_succ, List.getElem?_cons_zero]; rfl)
  case hq20 => exact fun _ _ _ h => h
  case hw20 => rfl
  case hy20 =>
    intro W hW
    go_simp
    first | done | with_reducible rfl
  case hk20 =>
  try simp only [Act.put, List.setIfInBounds_toArray, List.set_cons_zero, List.set_cons_succ]
  refine anyK_take 20 (oi := ?oo21) ?ho21 (by kernel_rfl) (by kernel_rfl) (by kernel_rfl) (by kernel_rfl) ?hq21 ?hw21 hT2 (fun _ => trivial) (v := ?vv21) ?hy21 ?hk21
  case ho21 => (simp only [List.getElem?_toArray, List.getElem?_cons_succ, List.getElem?_cons_zero]; rfl)
  case hq21 => exact fun _ _ _ h => h
  case hw21 => rfl
  case hy21 =>
    intro W hW
    obtain ⟨z0, z1, z2, z3, z4, z5, z6, z7⟩ := hW
    go_simp
    first | done | with_reducible rfl
  case hk21 =>
  try simp only [Act.put, List.setIfInBounds_toArray, List.set_cons_zero, List.set_cons_succ]
  refine anyK_on1 21 (by kernel_rfl) ?_
  refine anyK_one 21 (o := ?oo22) ?ho22 ?hk22
  case ho22 => (simp only [List.getElem?_toArray, List.getElem?_cons_succ, List.getElem?_cons_zero]; rfl)
  case hk22 =>
  intro K hK
  go_simp
  refine (put_any 2 _).mono ?_
  rintro e wp ⟨rfl, xx⟩
  try go_wp2_with fail
  replace yy := ext_trans yy xx
  have hT3 := keepK.out _ yy
  refine hK.out _ _ hT3 (fun _ => trivial) ?_
  clear hK K
  try simp only [Act.put, List.setIfInBounds_toArray, List.set_cons_zero, List.set_cons_succ]
  refine anyK_take 22 (oi := ?oo23) ?ho23 (by kernel_rfl) (by kernel_rfl) (by kernel_rfl) (by kernel_rfl) ?hq23 ?hw23 hT3 (fun _ => trivial) (v := ?vv23) ?hy23 ?hk23
  case ho23 => (simp only [List.getElem?_toArray, List.getElem?_cons_succ, List.getElem?_cons_zero]; rfl)
  case hq23 => exact fun _ _ _ h => h
  case hw23 => rfl
  case hy23 =>
    intro W hW
    go_simp
    first | done | with_reducible rfl
  case hk23 =>
  try simp only [Act.put, List.setIfInBounds_toArray, List.set_cons_zero, List.set_cons_succ]
  refine anyK_take 23 (oi := ?oo24) ?ho24 (by kernel_rfl) (by kernel_rfl) (by kernel_rfl) (by kernel_rfl) ?hq24 ?hw24 hT3 (fun _ => trivial) (v := ?vv24) ?hy24 ?hk24
  case ho24 => (simp only [List.getElem?_toArray, List.getElem?_cons_succ, List.getElem?_cons_zero]; rfl)
  case hq24 => exact fun _ _ _ h => h
  case hw24 => rfl
  case hy24 =>
    intro W hW
    go_simp
    first | done | with_reducible rfl
  case hk24 =>
  try simp only [Act.put, List.setIfInBounds_toArray, List.set_cons_zero, List.set_cons_succ]
  refine anyK_take 24 (oi := ?oo25) ?ho25 (by kernel_rfl) (by kernel_rfl) (by kernel_rfl) (by kernel_rfl) ?hq25 ?hw25 hT3 (fun _ => trivial) (v := ?vv25) ?hy25 ?hk25
  case ho25 => (simp only [List.getElem?_toArray, List.getElem?_cons_succ, List.getElem?_cons_zero]; rfl)
  case hq25 => exact fun _ _ _ h => h
  case hw25 => rfl
  case hy25 =>
    intro W hW
    go_simp
    first | done | with_reducible rfl
  case hk25 =>
  try simp only [Act.put, List.setIfInBounds_toArray, List.set_cons_zero, List.set_cons_succ]
  refine anyK_done (by kernel_rfl) ?_ _
  clear keepK hT0 hT1 hT2 hT3
  go_wp2
  go_ret
  exact ⟨rfl, ext_trans XB.out yy⟩
set_option maxHeartbeats 4000000 in
set_option maxRecDepth 100000 in
theorem proofnumBudget_bad (R : RulesM) (P : PosM) (v u : Value) (a b : Int) (w : World) (hR : RulesAt w v R) (hP : PosAt w u P) (K M : Int) (hK : (wrap64 (a.tmod 40 + 40)).tmod 40 = K) (hM : (wrap64 (b.tmod 40 + 40)).tmod 40 = M) (k0 : 0 ≤ K) (k1 : K < 40) (m0 : 0 ≤ M) (m1 : M < 40) (he : checkE R P ≠ 0) :
    Calls Try.prog 3 #[v, u, .int .i64 a, .int .i64 b] w fun e w' => e = .returned (.bool true) ∧ Ext w w' := by
  have hwk : IntKind.i64.wrap (K + M) = K + M := by rw [IntKind.wrap_i64]; omega
  have e1 := provE_bad (D := K) he
  have e2 := provE_bad (D := K + M) he
  have HB1 := hide (fun W (v1 v2 : Value) (h1 : RulesAt W v1 R) (h2 : PosAt W v2 P) => Prove_no R P v1 v2 K W h1 h2 (by rw [e1]; exact he))
  have HB2 := hide (fun W (v1 v2 : Value) (h1 : RulesAt W v1 R) (h2 : PosAt W v2 P) => Prove_no R P v1 v2 (K + M) W h1 h2 (by rw [e2]; exact he))
  rw [e1] at HB1
  rw [e2] at HB2
  have t0 : (checkE R P != 0) = true := by simpa using he
  clear e1 e2 he
  generalize checkE R P = E at *
  have hR0 := hR
  have hP0 := hP
  obtain ⟨pA, pc, sA, sc, eA, ec, rfl, -⟩ := hR0
  obtain ⟨cA, cc, aA, ac, bA, bc, rfl, -⟩ := hP0
  go_enter Try.func3, Try.ntmps3
  go_wp2_with fail
  obtain ⟨xa, kR, kP⟩ := blks2 w #[.string R.name, .int .i64 R.width, .int .i64 R.height, .slice pA R.pieces.length pc, .slice sA R.start.length sc, .bool R.falls, .bool R.keeps, .slice eA R.ends.length ec, .int .i64 R.blocked, .int .i64 R.quiet, .int .i64 R.rept] 26 #[.slice cA P.cells.length cc, .slice aA P.hand0.length ac, .slice bA P.hand1.length bc, .int .i64 P.turn, .int .i64 P.quiet] 29
  replace hR := hR.ext xa
  replace hP := hP.ext xa
  have X := xa
  clear xa
  generalize ((w.alloc (.cells #[.string R.name, .int .i64 R.width, .int .i64 R.height, .slice pA R.pieces.length pc, .slice sA R.start.length sc, .bool R.falls, .bool R.keeps, .slice eA R.ends.length ec, .int .i64 R.blocked, .int .i64 R.quiet, .int .i64 R.rept] 26)).alloc (.cells #[.slice cA P.cells.length cc, .slice aA P.hand0.length ac, .slice bA P.hand1.length bc, .int .i64 P.turn, .int .i64 P.quiet] 29)) = w2 at *
  generalize w.heap.size + 1 = BP at *
  generalize w.heap.size = BR at *
  refine (attacked_any _).mono ?_
  rintro e w3 ⟨rfl, x⟩
  replace hR := hR.ext x
  replace hP := hP.ext x
  replace kR := kR.ext x
  replace kP := kP.ext x
  replace X := ext_trans X x
  clear x
  have fR := kR.cell
  have fP := kP.cell
  go_wp2_with fail
  refine (HB1.out _ _ _ hR hP).mono ?_
  rintro e w4 ⟨rfl, x⟩
  replace hR := hR.ext x
  replace hP := hP.ext x
  replace kR := kR.ext x
  replace kP := kP.ext x
  replace X := ext_trans X x
  replace fR := kR.cell
  replace fP := kP.cell
  clear x
  obtain ⟨xa, k9⟩ := blks1 w4 #[.int .i64 0, .int .i64 0, .int .i64 0, .int .i64 0] 32
  replace hR := hR.ext xa
  replace hP := hP.ext xa
  replace kR := kR.ext xa
  replace kP := kP.ext xa
  replace X := ext_trans X xa
  have fR' := kR.cell
  have fP' := kP.cell
  clear xa
  go_wp2_with fail
  generalize (w4.alloc (.cells #[.int .i64 0, .int .i64 0, .int .i64 0, .int .i64 0] 32)) = w5 at *
  generalize w4.heap.size = B9 at *
  replace fR := kR.cell
  clear fR'
  replace fP := kP.cell
  clear fP'
  refine (HB2.out _ _ _ hR hP).mono ?_
  rintro e w6 ⟨rfl, x⟩
  replace hR := hR.ext x
  replace hP := hP.ext x
  replace kR := kR.ext x
  replace kP := kP.ext x
  replace k9 := k9.ext x
  replace X := ext_trans X x
  replace fR := kR.cell
  replace fP := kP.cell
  clear x
  clear fR fP
  have f9 := k9.cell
  obtain ⟨xa, -⟩ := blks1 w6 #[.int .i64 0, .int .i64 0, .int .i64 0, .int .i64 0] 32
  replace hR := hR.ext xa
  replace hP := hP.ext xa
  replace kR := kR.ext xa
  replace kP := kP.ext xa
  replace k9 := k9.ext xa
  replace X := ext_trans X xa
  have f9' := k9.cell
  clear xa
  go_wp2
  generalize (w6.alloc (.cells #[.int .i64 0, .int .i64 0, .int .i64 0, .int .i64 0] 32)) = w7 at *
  generalize w6.heap.size = B11 at *
  replace f9 := k9.cell
  clear f9'
  all_goals go_ret
  all_goals exact ⟨by first | rfl | simp, X⟩
set_option maxHeartbeats 4000000 in
set_option maxRecDepth 100000 in
theorem proofnumBudget_same (R : RulesM) (P : PosM) (v u : Value) (a b : Int) (w : World) (hR : RulesAt w v R) (hP : PosAt w u P) (K M : Int) (hK : (wrap64 (a.tmod 40 + 40)).tmod 40 = K) (hM : (wrap64 (b.tmod 40 + 40)).tmod 40 = M) (k0 : 0 ≤ K) (k1 : K < 40) (m0 : 0 ≤ M) (m1 : M < 40) (e1 : provE R P K = 0) (e2 : provE R P (K + M) = 0) (hn : stN (provT R P K).1 ≠ 2) (hs : provT R P (K + M) = provT R P K) (hc : ((provT R P K).2 : Int) ≤ K) :
    Calls Try.prog 3 #[v, u, .int .i64 a, .int .i64 b] w fun e w' => e = .returned (.bool true) ∧ Ext w w' := by
  have hwk : IntKind.i64.wrap (K + M) = K + M := by rw [IntKind.wrap_i64]; omega
  have HB1 := hide (fun W (v1 v2 : Value) (h1 : RulesAt W v1 R) (h2 : PosAt W v2 P) => Prove_yes R P v1 v2 K W h1 h2 e1)
  have HB2 := hide (fun W (v1 v2 : Value) (h1 : RulesAt W v1 R) (h2 : PosAt W v2 P) => Prove_yes R P v1 v2 (K + M) W h1 h2 e2)
  rw [hs] at HB2
  generalize stN (provT R P K).1 = st1 at *
  generalize (provT R P K).1.a = a1 at *
  generalize (provT R P K).1.b = b1 at *
  generalize ((provT R P K).2 : Int) = c1 at *
  have t1 : (st1 != 2) = true := by simpa using hn
  have t2 : decide (c1 ≤ K) = true := by simpa using hc
  clear hs hn hc e1 e2
  have hR0 := hR
  have hP0 := hP
  obtain ⟨pA, pc, sA, sc, eA, ec, rfl, -⟩ := hR0
  obtain ⟨cA, cc, aA, ac, bA, bc, rfl, -⟩ := hP0
  go_enter Try.func3, Try.ntmps3
  go_wp2_with fail
  obtain ⟨xa, kR, kP⟩ := blks2 w #[.string R.name, .int .i64 R.width, .int .i64 R.height, .slice pA R.pieces.length pc, .slice sA R.start.length sc, .bool R.falls, .bool R.keeps, .slice eA R.ends.length ec, .int .i64 R.blocked, .int .i64 R.quiet, .int .i64 R.rept] 26 #[.slice cA P.cells.length cc, .slice aA P.hand0.length ac, .slice bA P.hand1.length bc, .int .i64 P.turn, .int .i64 P.quiet] 29
  replace hR := hR.ext xa
  replace hP := hP.ext xa
  have X := xa
  clear xa
  generalize ((w.alloc (.cells #[.string R.name, .int .i64 R.width, .int .i64 R.height, .slice pA R.pieces.length pc, .slice sA R.start.length sc, .bool R.falls, .bool R.keeps, .slice eA R.ends.length ec, .int .i64 R.blocked, .int .i64 R.quiet, .int .i64 R.rept] 26)).alloc (.cells #[.slice cA P.cells.length cc, .slice aA P.hand0.length ac, .slice bA P.hand1.length bc, .int .i64 P.turn, .int .i64 P.quiet] 29)) = w2 at *
  generalize w.heap.size + 1 = BP at *
  generalize w.heap.size = BR at *
  refine (attacked_any _).mono ?_
  rintro e w3 ⟨rfl, x⟩
  replace hR := hR.ext x
  replace hP := hP.ext x
  replace kR := kR.ext x
  replace kP := kP.ext x
  replace X := ext_trans X x
  clear x
  have fR := kR.cell
  have fP := kP.cell
  go_wp2_with fail
  refine (HB1.out _ _ _ hR hP).mono ?_
  rintro e w4 ⟨rfl, x⟩
  replace hR := hR.ext x
  replace hP := hP.ext x
  replace kR := kR.ext x
  replace kP := kP.ext x
  replace X := ext_trans X x
  replace fR := kR.cell
  replace fP := kP.cell
  clear x
  obtain ⟨xa, k9⟩ := blks1 w4 #[.int .i64 st1, .int .i64 a1, .int .i64 b1, .int .i64 c1] 32
  replace hR := hR.ext xa
  replace hP := hP.ext xa
  replace kR := kR.ext xa
  replace kP := kP.ext xa
  replace X := ext_trans X xa
  have fR' := kR.cell
  have fP' := kP.cell
  clear xa
  go_wp2_with fail
  generalize (w4.alloc (.cells #[.int .i64 st1, .int .i64 a1, .int .i64 b1, .int .i64 c1] 32)) = w5 at *
  generalize w4.heap.size = B9 at *
  replace fR := kR.cell
  clear fR'
  replace fP := kP.cell
  clear fP'
  refine (HB2.out _ _ _ hR hP).mono ?_
  rintro e w6 ⟨rfl, x⟩
  replace hR := hR.ext x
  replace hP := hP.ext x
  replace kR := kR.ext x
  replace kP := kP.ext x
  replace k9 := k9.ext x
  replace X := ext_trans X x
  replace fR := kR.cell
  replace fP := kP.cell
  clear x
  clear fR fP
  have f9 := k9.cell
  obtain ⟨xa, k11⟩ := blks1 w6 #[.int .i64 st1, .int .i64 a1, .int .i64 b1, .int .i64 c1] 32
  replace hR := hR.ext xa
  replace hP := hP.ext xa
  replace kR := kR.ext xa
  replace kP := kP.ext xa
  replace k9 := k9.ext xa
  replace X := ext_trans X xa
  have f9' := k9.cell
  clear xa
  go_upto_region 6 with fail
  generalize (w6.alloc (.cells #[.int .i64 st1, .int .i64 a1, .int .i64 b1, .int .i64 c1] 32)) = w7 at *
  generalize w6.heap.size = B11 at *
  replace f9 := k9.cell
  clear f9'
  have f11 := k11.cell
  go_wp2
  all_goals go_ret
  all_goals exact ⟨by first | rfl | simp, X⟩
set_option maxHeartbeats 4000000 in
set_option maxRecDepth 100000 in
theorem proofnumBudget_open (R : RulesM) (P : PosM) (v u : Value) (a b : Int) (w : World) (hR : RulesAt w v R) (hP : PosAt w u P) (K M : Int) (hK : (wrap64 (a.tmod 40 + 40)).tmod 40 = K) (hM : (wrap64 (b.tmod 40 + 40)).tmod 40 = M) (k0 : 0 ≤ K) (k1 : K < 40) (m0 : 0 ≤ M) (m1 : M < 40) (e1 : provE R P K = 0) (e2 : provE R P (K + M) = 0) (hn : stN (provT R P K).1 = 2) (hc : ((provT R P K).2 : Int) = K) (h2 : K ≤ ((provT R P (K + M)).2 : Int)) (ha : 0 < (provT R P K).1.a) (hb : 0 < (provT R P K).1.b) :
    Calls Try.prog 3 #[v, u, .int .i64 a, .int .i64 b] w fun e w' => e = .returned (.bool true) ∧ Ext w w' := by
  have hwk : IntKind.i64.wrap (K + M) = K + M := by rw [IntKind.wrap_i64]; omega
  have HB1 := hide (fun W (v1 v2 : Value) (h1 : RulesAt W v1 R) (h2 : PosAt W v2 P) => Prove_yes R P v1 v2 K W h1 h2 e1)
  have HB2 := hide (fun W (v1 v2 : Value) (h1 : RulesAt W v1 R) (h2 : PosAt W v2 P) => Prove_yes R P v1 v2 (K + M) W h1 h2 e2)
  generalize stN (provT R P K).1 = st1 at *
  generalize (provT R P K).1.a = a1 at *
  generalize (provT R P K).1.b = b1 at *
  generalize ((provT R P K).2 : Int) = c1 at *
  generalize stN (provT R P (K + M)).1 = st2 at *
  generalize (provT R P (K + M)).1.a = a2 at *
  generalize (provT R P (K + M)).1.b = b2 at *
  generalize ((provT R P (K + M)).2 : Int) = c2 at *
  subst hn hc
  have t2 : decide (c1 ≤ c2) = true := by simpa using h2
  have t3 : decide (0 < a1) = true := by simpa using ha
  have t4 : decide (0 < b1) = true := by simpa using hb
  clear e1 e2 h2 ha hb
  have hR0 := hR
  have hP0 := hP
  obtain ⟨pA, pc, sA, sc, eA, ec, rfl, -⟩ := hR0
  obtain ⟨cA, cc, aA, ac, bA, bc, rfl, -⟩ := hP0
  go_enter Try.func3, Try.ntmps3
  go_wp2_with fail
  obtain ⟨xa, kR, kP⟩ := blks2 w #[.string R.name, .int .i64 R.width, .int .i64 R.height, .slice pA R.pieces.length pc, .slice sA R.start.length sc, .bool R.falls, .bool R.keeps, .slice eA R.ends.length ec, .int .i64 R.blocked, .int .i64 R.quiet, .int .i64 R.rept] 26 #[.slice cA P.cells.length cc, .slice aA P.hand0.length ac, .slice bA P.hand1.length bc, .int .i64 P.turn, .int .i64 P.quiet] 29
  replace hR := hR.ext xa
  replace hP := hP.ext xa
  have X := xa
  clear xa
  generalize ((w.alloc (.cells #[.string R.name, .int .i64 R.width, .int .i64 R.height, .slice pA R.pieces.length pc, .slice sA R.start.length sc, .bool R.falls, .bool R.keeps, .slice eA R.ends.length ec, .int .i64 R.blocked, .int .i64 R.quiet, .int .i64 R.rept] 26)).alloc (.cells #[.slice cA P.cells.length cc, .slice aA P.hand0.length ac, .slice bA P.hand1.length bc, .int .i64 P.turn, .int .i64 P.quiet] 29)) = w2 at *
  generalize w.heap.size + 1 = BP at *
  generalize w.heap.size = BR at *
  refine (attacked_any _).mono ?_
  rintro e w3 ⟨rfl, x⟩
  replace hR := hR.ext x
  replace hP := hP.ext x
  replace kR := kR.ext x
  replace kP := kP.ext x
  replace X := ext_trans X x
  clear x
  have fR := kR.cell
  have fP := kP.cell
  go_wp2_with fail
  refine (HB1.out _ _ _ hR hP).mono ?_
  rintro e w4 ⟨rfl, x⟩
  replace hR := hR.ext x
  replace hP := hP.ext x
  replace kR := kR.ext x
  replace kP := kP.ext x
  replace X := ext_trans X x
  replace fR := kR.cell
  replace fP := kP.cell
  clear x
  obtain ⟨xa, k9⟩ := blks1 w4 #[.int .i64 2, .int .i64 a1, .int .i64 b1, .int .i64 c1] 32
  replace hR := hR.ext xa
  replace hP := hP.ext xa
  replace kR := kR.ext xa
  replace kP := kP.ext xa
  replace X := ext_trans X xa
  have fR' := kR.cell
  have fP' := kP.cell
  clear xa
  go_wp2_with fail
  generalize (w4.alloc (.cells #[.int .i64 2, .int .i64 a1, .int .i64 b1, .int .i64 c1] 32)) = w5 at *
  generalize w4.heap.size = B9 at *
  replace fR := kR.cell
  clear fR'
  replace fP := kP.cell
  clear fP'
  refine (HB2.out _ _ _ hR hP).mono ?_
  rintro e w6 ⟨rfl, x⟩
  replace hR := hR.ext x
  replace hP := hP.ext x
  replace kR := kR.ext x
  replace kP := kP.ext x
  replace k9 := k9.ext x
  replace X := ext_trans X x
  replace fR := kR.cell
  replace fP := kP.cell
  clear x
  clear fR fP
  have f9 := k9.cell
  obtain ⟨xa, k11⟩ := blks1 w6 #[.int .i64 st2, .int .i64 a2, .int .i64 b2, .int .i64 c2] 32
  replace hR := hR.ext xa
  replace hP := hP.ext xa
  replace kR := kR.ext xa
  replace kP := kP.ext xa
  replace k9 := k9.ext xa
  replace X := ext_trans X xa
  have f9' := k9.cell
  clear xa
  go_upto_region 6 with fail
  generalize (w6.alloc (.cells #[.int .i64 st2, .int .i64 a2, .int .i64 b2, .int .i64 c2] 32)) = w7 at *
  generalize w6.heap.size = B11 at *
  replace f9 := k9.cell
  clear f9'
  have f11 := k11.cell
  go_wp2
  all_goals go_ret
  all_goals exact ⟨by first | rfl | simp, X⟩
theorem proofnumBudget_law (v : Value) (R : RulesM) (u : Value) (P : PosM) (a b : Int) (w : World) (hR : RulesAt w v R) (hP : PosAt w u P) :
    Calls Try.prog 3 #[v, u, .int .i64 a, .int .i64 b] w fun e w' => e = .returned (.bool true) ∧ Ext w w' := by
  obtain ⟨K, hK⟩ : ∃ K, (wrap64 (a.tmod 40 + 40)).tmod 40 = K := ⟨_, rfl⟩
  obtain ⟨M, hM⟩ : ∃ M, (wrap64 (b.tmod 40 + 40)).tmod 40 = M := ⟨_, rfl⟩
  obtain ⟨k0, k1⟩ := some_mod 40 (by omega) (by omega) a K hK
  obtain ⟨m0, m1⟩ := some_mod 40 (by omega) (by omega) b M hM
  by_cases he : checkE R P = 0
  · obtain ⟨e1, e2, h⟩ := budget_facts he k0 k1 m0 m1
    rcases h with ⟨hn, hs, hc⟩ | ⟨hn, hc, h2, ha, hb⟩
    · exact proofnumBudget_same R P v u a b w hR hP K M hK hM k0 k1 m0 m1 e1 e2 hn hs hc
    · exact proofnumBudget_open R P v u a b w hR hP K M hK hM k0 k1 m0 m1 e1 e2 hn hc h2 ha hb
  · exact proofnumBudget_bad R P v u a b w hR hP K M hK hM k0 k1 m0 m1 he

end Go.Proofs.Yteadldpoibpikaa
