/- The sample of certificates, as plain data. Walk: the sample proved. -/
import Derived.Test.YtfkcigekbgkcmaaGCertB
import Derived.Test.YtfkcigekbgkcmaaGSamples
import Derived.Test.YtfkcigekbgkcmaaGSmall
namespace Go.Proofs.Ytfkcigekbgkcmaa
theorem near_cert : perftE threeR nearP 3 = 0 ∧ resultM threeR nearP = 0 ∧ ofM threeR 3 nearP = 999 ∧ (certM threeR 3 0 nearP).length = 1 ∧ ((certM threeR 3 0 nearP).getD 0 default).m = ⟨-1, 2, 0⟩ := by decide +kernel
theorem near_five : (⟨-1, 5, 0⟩ : MoveM) ∈ movesM threeR nearP ∧ resultM threeR (makeM threeR nearP ⟨-1, 5, 0⟩) = 0 ∧ (listM threeR (makeM threeR nearP ⟨-1, 5, 0⟩)).length = 4 := by decide +kernel
theorem near_refused : provesM threeR [⟨⟨-1, 5, 0⟩, []⟩] 5001 0 nearP = none := by
  have h := provesM_succ (R := threeR) (L := [⟨⟨-1, 5, 0⟩, []⟩]) (n := 5000) (k := 0) (P := nearP) (nd := ⟨⟨-1, 5, 0⟩, []⟩) rfl
  refine ((h.1 near_five.1).2 near_five.2.1).1 ?_
  show (listM threeR (makeM threeR nearP ⟨-1, 5, 0⟩)).length ≠ 0
  rw [near_five.2.2]
  decide
theorem five_form : FormAll [⟨⟨-1, 5, 0⟩, []⟩] := by
  refine ⟨fun k nd hk z ht => ?_, fun x h1 h2 => ?_⟩
  · cases k with
    | zero =>
      have e : (⟨⟨-1, 5, 0⟩, []⟩ : CNode) = nd := by simpa using hk
      subst e
      simp at ht
    | succ k => simp at hk
  · simp at h2
    omega
end Go.Proofs.Ytfkcigekbgkcmaa
namespace Go.Proofs.Ytfkcigekbgkcmaa
open Go.ChangeShapes Go.WideShapes Go.ChangeAt Go.RowKit Go.Shelf
set_option linter.unusedVariables false
set_option linter.unusedSimpArgs false
set_option linter.unusedVariables false
theorem near_make (v u : Value) (w : World) (hR : RulesAt w v threeR) (hP : PosAt w u nearP) :
    Calls Try.prog 43 #[v, u, .int .i64 3] w fun e w' => ∃ A cc, e = .returned (.tuple #[.slice A 1 cc, .int .i64 0]) ∧ CertAt w' A (certM threeR 3 0 nearP) ∧ Ext w w' := by
  refine (CMake_any threeR nearP v u 3 w hR hP).mono ?_
  rintro e w' ⟨v', c, rfl, x, h⟩
  obtain ⟨n0, n1, n2, n3, -⟩ := near_cert
  have ht : ((3 : Int)).toNat = 3 := rfl
  rcases h with ⟨-, -, h⟩ | ⟨rfl, -, -, -, ns, A, cc, rfl, rc, md, -⟩
  · rw [n0, n1, ht, n2, n3] at h
    omega
  · rw [ht] at md
    have hl : ns.length = 1 := by rw [md.1, n3]
    exact ⟨A, cc, by rw [hl], certAt_of rc md, x⟩
theorem near_check (v u : Value) (A : Option Addr) (c : Nat) (w : World) (hR : RulesAt w v threeR) (hP : PosAt w u nearP) (hC : CertAt w A (certM threeR 3 0 nearP)) :
    Calls Try.prog 44 #[v, u, .slice A 1 c] w fun e w' => e = .returned (.tuple #[.int .i64 1, .int .i64 0]) ∧ Ext w w' := by
  obtain ⟨n0, n1, n2, n3, -⟩ := near_cert
  have hs := made_size (R := threeR) (P := nearP) (D := 3) n0 n1 (by show 0 < ofM threeR 3 nearP; rw [n2]; decide)
  have ht : ((3 : Int)).toNat = 3 := rfl
  rw [ht, n3] at hs
  have h := CCheck_any (c := c) hR hP (check_iff.2 ⟨(perft_zero n0).1, (perft_zero n0).2.1⟩) (by rw [n3]; decide) (by rw [n3]; decide) (by omega) hC
  rw [n3] at h
  refine h.mono ?_
  rintro e w' ⟨n, k, rfl, x, hk⟩
  obtain ⟨rfl, rfl⟩ := made_check (D := 3) n0 n1 (by show 0 < ofM threeR 3 nearP; rw [n2]; decide) hk
  refine ⟨?_, x⟩
  rw [show ofM threeR (3 : Int).toNat nearP = 999 from n2]
  rfl
theorem five_check (v u : Value) (B : Nat) (w : World) (hR : RulesAt w v threeR) (hP : PosAt w u nearP) (hB : Blk w B 81 #[.int .i64 (-1), .int .i64 5, .int .i64 0, .slice none 0 0]) :
    Calls Try.prog 44 #[v, u, .slice (some ⟨B, 0, none⟩) 1 1] w fun e w' => e = .returned (.tuple #[.int .i64 0, .int .i64 16]) ∧ Ext w w' := by
  obtain ⟨n0, n1, -⟩ := near_cert
  have hC : CertAt w (some ⟨B, 0, none⟩) [⟨⟨-1, 5, 0⟩, []⟩] := fun i x hi => by
    cases i with
    | zero =>
      have e : (⟨⟨-1, 5, 0⟩, []⟩ : CNode) = x := by simpa using hi
      subst e
      exact ⟨B, 0, none, 0, rfl, hB.cell 0, hB.cell 1, hB.cell 2, hB.cell 3, intsAt_nil _ _⟩
    | succ i => simp at hi
  refine (CCheck_any (L := [⟨⟨-1, 5, 0⟩, []⟩]) (c := 1) hR hP (check_iff.2 ⟨(perft_zero n0).1, (perft_zero n0).2.1⟩) (by decide) (by decide) (by decide) hC).mono ?_
  rintro e w' ⟨n, k, rfl, x, hk⟩
  obtain ⟨rfl, rfl⟩ := (hk.2.2 n1 five_form).2 near_refused
  exact ⟨rfl, x⟩
set_option maxHeartbeats 4000000 in
set_option maxRecDepth 100000 in
theorem proved_any (w : World) : Calls Try.prog 42 #[] w fun e w' => e = .returned (.bool true) ∧ Ext w w' := by
  obtain ⟨nl, nm⟩ := near_cert.2.2.2
  have HMK := hide (fun W (v1 v2 : Value) (h1 : RulesAt W v1 threeR) (h2 : PosAt W v2 nearP) => near_make v1 v2 W h1 h2)
  have HCK := hide (fun W (v1 v2 : Value) (A : Option Addr) (c : Nat) (h1 : RulesAt W v1 threeR) (h2 : PosAt W v2 nearP) (h3 : CertAt W A (certM threeR 3 0 nearP)) => near_check v1 v2 A c W h1 h2 h3)
  have HC5 := hide (fun W (v1 v2 : Value) (B : Nat) (h1 : RulesAt W v1 threeR) (h2 : PosAt W v2 nearP) (h3 : Blk W B 81 #[.int .i64 (-1), .int .i64 5, .int .i64 0, .slice none 0 0]) => five_check v1 v2 B W h1 h2 h3)
  obtain ⟨y, hy⟩ : ∃ y, (certM threeR 3 0 nearP)[0]? = some y := ⟨(certM threeR 3 0 nearP)[0], List.getElem?_eq_getElem (by omega)⟩
  have hgd : (certM threeR 3 0 nearP).getD 0 default = y := by rw [List.getD_eq_getElem?_getD, hy]; rfl
  rw [hgd] at nm
  have HY := hide hy
  have NM := hide nm
  clear hy hgd nm nl
  generalize certM threeR 3 0 nearP = L at *
  go_enter Try.func42, Try.ntmps42
  go_wp2_with fail
  refine (three_any _).mono ?_
  rintro e w2 ⟨v1, rfl, h1, x⟩
  have X := x
  clear x
  go_wp2_with fail
  refine (near_any _).mono ?_
  rintro e w3 ⟨v2, rfl, h2, x⟩
  replace h1 := h1.ext x
  replace X := ext_trans X x
  clear x
  replace h2 := h2.at_
  go_wp2_with fail
  refine (HMK.out _ _ _ h1 h2).mono ?_
  rintro e w4 ⟨A, cc, rfl, ca, x⟩
  replace h1 := h1.ext x
  replace h2 := h2.ext x
  replace X := ext_trans X x
  clear x
  clear h1 h2
  clear HMK
  go_wp2_with fail
  refine (three_any _).mono ?_
  rintro e w5 ⟨v3, rfl, h3, x⟩
  replace ca := ca.ext x
  replace X := ext_trans X x
  clear x
  go_wp2_with fail
  refine (near_any _).mono ?_
  rintro e w6 ⟨v4, rfl, h4, x⟩
  replace ca := ca.ext x
  replace h3 := h3.ext x
  replace X := ext_trans X x
  clear x
  replace h4 := h4.at_
  go_wp2_with fail
  refine (HCK.out _ _ _ _ _ h3 h4 ca).mono ?_
  rintro e w7 ⟨rfl, x⟩
  replace ca := ca.ext x
  replace h3 := h3.ext x
  replace h4 := h4.ext x
  replace X := ext_trans X x
  clear x
  clear h3 h4
  clear HCK
  go_wp2_with fail
  refine (three_any _).mono ?_
  rintro e w8 ⟨v5, rfl, h5, x⟩
  replace ca := ca.ext x
  replace X := ext_trans X x
  clear x
  go_wp2_with fail
  refine (near_any _).mono ?_
  rintro e w9 ⟨v6, rfl, h6, x⟩
  replace ca := ca.ext x
  replace h5 := h5.ext x
  replace X := ext_trans X x
  clear x
  replace h6 := h6.at_
  go_wp2_with fail
  refine (put_any 5 _).mono ?_
  rintro e w10 ⟨rfl, x⟩
  replace ca := ca.ext x
  replace h5 := h5.ext x
  replace h6 := h6.ext x
  replace X := ext_trans X x
  clear x
  obtain ⟨xa, kN⟩ := blks1 w10 #[.int .i64 (-1), .int .i64 5, .int .i64 0, .slice none 0 0] 81
  replace ca := ca.ext xa
  replace h5 := h5.ext xa
  replace h6 := h6.ext xa
  replace X := ext_trans X xa
  clear xa
  go_wp2_with fail
  generalize (w10.alloc (.cells #[.int .i64 (-1), .int .i64 5, .int .i64 0, .slice none 0 0] 81)) = w11 at *
  generalize w10.heap.size = BN at *
  refine (HC5.out _ _ _ _ h5 h6 kN).mono ?_
  rintro e w12 ⟨rfl, x⟩
  replace ca := ca.ext x
  replace h5 := h5.ext x
  replace h6 := h6.ext x
  replace kN := kN.ext x
  replace X := ext_trans X x
  clear x
  clear h5 h6 kN
  clear HC5
  obtain ⟨bq, oq, Bq, cq, rfl, c0, c1, c2, -⟩ := ca 0 y HY.out
  simp only [Nat.zero_mul, Nat.add_zero] at c0 c1 c2
  rw [NM.out] at c0 c1 c2
  have C0 := hide c0
  have C1 := hide c1
  have C2 := hide c2
  have X9 := hide X
  clear c0 c1 c2 X ca HY NM
  go_upto_region 4 with fail
  have keepK := hide (fun W (h : Ext w12 W) => (show (fun W => W.cell? ⟨bq, oq, none⟩ = some (.int .i64 (-1)) ∧ W.cell? ⟨bq, oq + 1, none⟩ = some (.int .i64 2) ∧ W.cell? ⟨bq, oq + 2, none⟩ = some (.int .i64 0) ∧ Ext w12 W) W from ⟨h.cell C0.out, h.cell C1.out, h.cell C2.out, h⟩))
  have yy : Ext w12 w12.drew := Below.drew (Below.refl _ _)
  refine region_K (fun W => W.cell? ⟨bq, oq, none⟩ = some (.int .i64 (-1)) ∧ W.cell? ⟨bq, oq + 1, none⟩ = some (.int .i64 2) ∧ W.cell? ⟨bq, oq + 2, none⟩ = some (.int .i64 0) ∧ Ext w12 W) (fun _ => True) [] (by kernel_rfl) ?_
  have hT0 := keepK.out _ yy
  refine anyK_take 0 (oi := ?oo1) ?ho1 (by kernel_rfl) (by kernel_rfl) (by kernel_rfl) (by kernel_rfl) ?hq1 ?hw1 hT0 (fun _ => trivial) (v := ?vv1) ?hy1 ?hk1
  case ho1 => (simp only [List.getElem?_toArray, List.getElem?_cons_succ, List.getElem?_cons_zero]; rfl)
  case hq1 => exact fun _ _ _ h => h
  case hw1 => rfl
  case hy1 =>
    intro W hW
    go_simp
    first | done | with_reducible rfl
  case hk1 =>
  try simp only [Act.put, List.setIfInBounds_toArray, List.set_cons_zero, List.set_cons_succ]
  refine anyK_take 1 (oi := ?oo2) ?ho2 (by kernel_rfl) (by kernel_rfl) (by kernel_rfl) (by kernel_rfl) ?hq2 ?hw2 hT0 (fun _ => trivial) (v := ?vv2) ?hy2 ?hk2
  case ho2 => (simp only [List.getElem?_toArray, List.getElem?_cons_succ, List.getElem?_cons_zero]; rfl)
  case hq2 => exact fun _ _ _ h => h
  case hw2 => rfl
  case hy2 =>
    intro W hW
    go_simp
    first | done | with_reducible rfl
  case hk2 =>
  try simp only [Act.put, List.setIfInBounds_toArray, List.set_cons_zero, List.set_cons_succ]
  refine anyK_on1 2 (by kernel_rfl) ?_
  refine anyK_one 2 (o := ?oo3) ?ho3 ?hk3
  case ho3 => (simp only [List.getElem?_toArray, List.getElem?_cons_succ, List.getElem?_cons_zero]; rfl)
  case hk3 =>
  intro K hK
  go_simp
  have HKE := hide (Blk.new w12.drew 32 #[.int .i64 0, .int .i64 0])
  replace yy := ext_alloc yy (.cells #[.int .i64 0, .int .i64 0] 32)
  have hT1 := keepK.out _ yy
  refine hK.out _ _ hT1 (fun _ => trivial) ?_
  clear hK K
  try simp only [Act.put, List.setIfInBounds_toArray, List.set_cons_zero, List.set_cons_succ]
  refine anyK_on1 3 (by kernel_rfl) ?_
  refine anyK_one 3 (o := ?oo4) ?ho4 ?hk4
  case ho4 => (simp only [List.getElem?_toArray, List.getElem?_cons_succ, List.getElem?_cons_zero]; rfl)
  case hk4 =>
  intro K hK
  go_simp
  refine (fine_ok2 HKE.out).mono ?_
  rintro e we ⟨rfl, xx⟩
  try go_wp2_with fail
  replace yy := ext_trans yy xx
  have hT2 := keepK.out _ yy
  refine hK.out _ _ hT2 (fun _ => trivial) ?_
  clear hK K
  try simp only [Act.put, List.setIfInBounds_toArray, List.set_cons_zero, List.set_cons_succ]
  refine anyK_take 4 (oi := ?oo5) ?ho5 (by kernel_rfl) (by kernel_rfl) (by kernel_rfl) (by kernel_rfl) ?hq5 ?hw5 hT2 (fun _ => trivial) (v := ?vv5) ?hy5 ?hk5
  case ho5 => (simp only [List.getElem?_toArray, List.getElem?_cons_succ, List.getElem?_cons_zero]; rfl)
  case hq5 => exact fun _ _ _ h => h
  case hw5 => rfl
  case hy5 =>
    intro W hW
    go_simp
    first | done | with_reducible rfl
  case hk5 =>
  try simp only [Act.put, List.setIfInBounds_toArray, List.set_cons_zero, List.set_cons_succ]
  refine anyK_take 5 (oi := ?oo6) ?ho6 (by kernel_rfl) (by kernel_rfl) (by kernel_rfl) (by kernel_rfl) ?hq6 ?hw6 hT2 (fun _ => trivial) (v := ?vv6) ?hy6 ?hk6
  case ho6 => (simp only [List.getElem?_toArray, List.getElem?_cons_succ, List.getElem?_cons_zero]; rfl)
  case hq6 => exact fun _ _ _ h => h
  case hw6 => rfl
  case hy6 =>
    intro W hW
    go_simp
    first | done | with_reducible rfl
  case hk6 =>
  try simp only [Act.put, List.setIfInBounds_toArray, List.set_cons_zero, List.set_cons_succ]
  refine anyK_take 6 (oi := ?oo7) ?ho7 (by kernel_rfl) (by kernel_rfl) (by kernel_rfl) (by kernel_rfl) ?hq7 ?hw7 hT2 (fun _ => trivial) (v := ?vv7) ?hy7 ?hk7
  case ho7 => (simp only [List.getElem?_toArray, List.getElem?_cons_succ, List.getElem?_cons_zero]; rfl)
  case hq7 => exact fun _ _ _ h => h
  case hw7 => rfl
  case hy7 =>
    intro W hW
    go_simp
    first | done | with_reducible rfl
  case hk7 =>
  try simp only [Act.put, List.setIfInBounds_toArray, List.set_cons_zero, List.set_cons_succ]
  refine anyK_take 7 (oi := ?oo8) ?ho8 (by kernel_rfl) (by kernel_rfl) (by kernel_rfl) (by kernel_rfl) ?hq8 ?hw8 hT2 (fun _ => trivial) (v := ?vv8) ?hy8 ?hk8
  case ho8 => (simp only [List.getElem?_toArray, List.getElem?_cons_succ, List.getElem?_cons_zero]; rfl)
  case hq8 => exact fun _ _ _ h => h
  case hw8 => rfl
  case hy8 =>
    intro W hW
    go_simp
    first | done | with_reducible rfl
  case hk8 =>
  try simp only [Act.put, List.setIfInBounds_toArray, List.set_cons_zero, List.set_cons_succ]
  refine anyK_take 8 (oi := ?oo9) ?ho9 (by kernel_rfl) (by kernel_rfl) (by kernel_rfl) (by kernel_rfl) ?hq9 ?hw9 hT2 (fun _ => trivial) (v := ?vv9) ?hy9 ?hk9
  case ho9 => (simp only [List.getElem?_toArray, List.getElem?_cons_succ, List.getElem?_cons_zero]; rfl)
  case hq9 => exact fun _ _ _ h => h
  case hw9 => rfl
  case hy9 =>
    intro W hW
    go_simp
    first | done | with_reducible rfl
  case hk9 =>
  try simp only [Act.put, List.setIfInBounds_toArray, List.set_cons_zero, List.set_cons_succ]
  refine anyK_take 9 (oi := ?oo10) ?ho10 (by kernel_rfl) (by kernel_rfl) (by kernel_rfl) (by kernel_rfl) ?hq10 ?hw10 hT2 (fun _ => trivial) (v := ?vv10) ?hy10 ?hk10
  case ho10 => (simp only [List.getElem?_toArray, List.getElem?_cons_succ, List.getElem?_cons_zero]; rfl)
  case hq10 => exact fun _ _ _ h => h
  case hw10 => rfl
  case hy10 =>
    intro W hW
    go_simp
    first | done | with_reducible rfl
  case hk10 =>
  try simp only [Act.put, List.setIfInBounds_toArray, List.set_cons_zero, List.set_cons_succ]
  refine anyK_take 10 (oi := ?oo11) ?ho11 (by kernel_rfl) (by kernel_rfl) (by kernel_rfl) (by kernel_rfl) ?hq11 ?hw11 hT2 (fun _ => trivial) (v := ?vv11) ?hy11 ?hk11
  case ho11 => (simp only [List.getElem?_toArray, List.getElem?_cons_succ, List.getElem?_cons_zero]; rfl)
  case hq11 => exact fun _ _ _ h => h
  case hw11 => rfl
  case hy11 =>
    intro W hW
    go_simp
    first | done | with_reducible rfl
  case hk11 =>
  try simp only [Act.put, List.setIfInBounds_toArray, List.set_cons_zero, List.set_cons_succ]
  refine anyK_take 11 (oi := ?oo12) ?ho12 (by kernel_rfl) (by kernel_rfl) (by kernel_rfl) (by kernel_rfl) ?hq12 ?hw12 hT2 (fun _ => trivial) (v := ?vv12) ?hy12 ?hk12
  case ho12 => (simp only [List.getElem?_toArray, List.getElem?_cons_succ, List.getElem?_cons_zero]; rfl)
  case hq12 => exact fun _ _ _ h => h
  case hw12 => rfl
  case hy12 =>
    intro W hW
    go_simp
    first | done | with_reducible rfl
  case hk12 =>
  try simp only [Act.put, List.setIfInBounds_toArray, List.set_cons_zero, List.set_cons_succ]
  refine anyK_take 12 (oi := ?oo13) ?ho13 (by kernel_rfl) (by kernel_rfl) (by kernel_rfl) (by kernel_rfl) ?hq13 ?hw13 hT2 (fun _ => trivial) (v := ?vv13) ?hy13 ?hk13
  case ho13 => (simp only [List.getElem?_toArray, List.getElem?_cons_succ, List.getElem?_cons_zero]; rfl)
  case hq13 => exact fun _ _ _ h => h
  case hw13 => rfl
  case hy13 =>
    intro W hW
    go_simp
    first | done | with_reducible rfl
  case hk13 =>
  try simp only [Act.put, List.setIfInBounds_toArray, List.set_cons_zero, List.set_cons_succ]
  refine anyK_take 13 (oi := ?oo14) ?ho14 (by kernel_rfl) (by kernel_rfl) (by kernel_rfl) (by kernel_rfl) ?hq14 ?hw14 hT2 (fun _ => trivial) (v := ?vv14) ?hy14 ?hk14
  case ho14 => (simp only [List.getElem?_toArray, List.getElem?_cons_succ, List.getElem?_cons_zero]; rfl)
  case hq14 => exact fun _ _ _ h => h
  case hw14 => rfl
  case hy14 =>
    intro W hW
    obtain ⟨z0, z1, z2, z3⟩ := hW
    go_simp
    first | done | with_reducible rfl
  case hk14 =>
  try simp only [Act.put, List.setIfInBounds_toArray, List.set_cons_zero, List.set_cons_succ]
  refine anyK_on1 14 (by kernel_rfl) ?_
  refine anyK_one 14 (o := ?oo15) ?ho15 ?hk15
  case ho15 => (simp only [List.getElem?_toArray, List.getElem?_cons_succ, List.getElem?_cons_zero]; rfl)
  case hk15 =>
  intro K hK
  go_simp
  refine (put_any 2 _).mono ?_
  rintro e wp ⟨rfl, xx⟩
  try go_wp2_with fail
  replace yy := ext_trans yy xx
  have hT3 := keepK.out _ yy
  refine hK.out _ _ hT3 (fun _ => trivial) ?_
  clear hK K
  try simp only [Act.put, List.setIfInBounds_toArray, List.set_cons_zero, List.set_cons_succ]
  refine anyK_take 15 (oi := ?oo16) ?ho16 (by kernel_rfl) (by kernel_rfl) (by kernel_rfl) (by kernel_rfl) ?hq16 ?hw16 hT3 (fun _ => trivial) (v := ?vv16) ?hy16 ?hk16
  case ho16 => (simp only [List.getElem?_toArray, List.getElem?_cons_succ, List.getElem?_cons_zero]; rfl)
  case hq16 => exact fun _ _ _ h => h
  case hw16 => rfl
  case hy16 =>
    intro W hW
    go_simp
    first | done | with_reducible rfl
  case hk16 =>
  try simp only [Act.put, List.setIfInBounds_toArray, List.set_cons_zero, List.set_cons_succ]
  refine anyK_take 16 (oi := ?oo17) ?ho17 (by kernel_rfl) (by kernel_rfl) (by kernel_rfl) (by kernel_rfl) ?hq17 ?hw17 hT3 (fun _ => trivial) (v := ?vv17) ?hy17 ?hk17
  case ho17 => (simp only [List.getElem?_toArray, List.getElem?_cons_succ, List.getElem?_cons_zero]; rfl)
  case hq17 => exact fun _ _ _ h => h
  case hw17 => rfl
  case hy17 =>
    intro W hW
    go_simp
    first | done | with_reducible rfl
  case hk17 =>
  try simp only [Act.put, List.setIfInBounds_toArray, List.set_cons_zero, List.set_cons_succ]
  refine anyK_take 17 (oi := ?oo18) ?ho18 (by kernel_rfl) (by kernel_rfl) (by kernel_rfl) (by kernel_rfl) ?hq18 ?hw18 hT3 (fun _ => trivial) (v := ?vv18) ?hy18 ?hk18
  case ho18 => (simp only [List.getElem?_toArray, List.getElem?_cons_succ, List.getElem?_cons_zero]; rfl)
  case hq18 => exact fun _ _ _ h => h
  case hw18 => rfl
  case hy18 =>
    intro W hW
    go_simp
    first | done | with_reducible rfl
  case hk18 =>
  try simp only [Act.put, List.setIfInBounds_toArray, List.set_cons_zero, List.set_cons_succ]
  refine anyK_take 18 (oi := ?oo19) ?ho19 (by kernel_rfl) (by kernel_rfl) (by kernel_rfl) (by kernel_rfl) ?hq19 ?hw19 hT3 (fun _ => trivial) (v := ?vv19) ?hy19 ?hk19
  case ho19 => (simp only [List.getElem?_toArray, List.getElem?_cons_succ, List.getElem?_cons_zero]; rfl)
  case hq19 => exact fun _ _ _ h => h
  case hw19 => rfl
  case hy19 =>
    intro W hW
    go_simp
    first | done | with_reducible rfl
  case hk19 =>
  try simp only [Act.put, List.setIfInBounds_toArray, List.set_cons_zero, List.set_cons_succ]
  refine anyK_take 19 (oi := ?oo20) ?ho20 (by kernel_rfl) (by kernel_rfl) (by kernel_rfl) (by kernel_rfl) ?hq20 ?hw20 hT3 (fun _ => trivial) (v := ?vv20) ?hy20 ?hk20
  case ho20 => (simp only [List.getElem?_toArray, List.getElem?_cons_succ, List.getElem?_cons_zero]; rfl)
  case hq20 => exact fun _ _ _ h => h
  case hw20 => rfl
  case hy20 =>
    intro W hW
    go_simp
    first | done | with_reducible rfl
  case hk20 =>
  try simp only [Act.put, List.setIfInBounds_toArray, List.set_cons_zero, List.set_cons_succ]
  refine anyK_take 20 (oi := ?oo21) ?ho21 (by kernel_rfl) (by kernel_rfl) (by kernel_rfl) (by kernel_rfl) ?hq21 ?hw21 hT3 (fun _ => trivial) (v := ?vv21) ?hy21 ?hk21
  case ho21 => (simp only [List.getElem?_toArray, List.getElem?_cons_succ, List.getElem?_cons_zero]; rfl)
  case hq21 => exact fun _ _ _ h => h
  case hw21 => rfl
  case hy21 =>
    intro W hW
    go_simp
    first | done | with_reducible rfl
  case hk21 =>
  try simp only [Act.put, List.setIfInBounds_toArray, List.set_cons_zero, List.set_cons_succ]
  refine anyK_take 21 (oi := ?oo22) ?ho22 (by kernel_rfl) (by kernel_rfl) (by kernel_rfl) (by kernel_rfl) ?hq22 ?hw22 hT3 (fun _ => trivial) (v := ?vv22) ?hy22 ?hk22
  case ho22 => (simp only [List.getElem?_toArray, List.getElem?_cons_succ, List.getElem?_cons_zero]; rfl)
  case hq22 => exact fun _ _ _ h => h
  case hw22 => rfl
  case hy22 =>
    intro W hW
    go_simp
    first | done | with_reducible rfl
  case hk22 =>
  try simp only [Act.put, List.setIfInBounds_toArray, List.set_cons_zero, List.set_cons_succ]
  refine anyK_take 22 (oi := ?oo23) ?ho23 (by kernel_rfl) (by kernel_rfl) (by kernel_rfl) (by kernel_rfl) ?hq23 ?hw23 hT3 (fun _ => trivial) (v := ?vv23) ?hy23 ?hk23
  case ho23 => (simp only [List.getElem?_toArray, List.getElem?_cons_succ, List.getElem?_cons_zero]; rfl)
  case hq23 => exact fun _ _ _ h => h
  case hw23 => rfl
  case hy23 =>
    intro W hW
    go_simp
    first | done | with_reducible rfl
  case hk23 =>
  try simp only [Act.put, List.setIfInBounds_toArray, List.set_cons_zero, List.set_cons_succ]
  refine anyK_take 23 (oi := ?oo24) ?ho24 (by kernel_rfl) (by kernel_rfl) (by kernel_rfl) (by kernel_rfl) ?hq24 ?hw24 hT3 (fun _ => trivial) (v := ?vv24) ?hy24 ?hk24
  case ho24 => (simp only [List.getElem?_toArray, List.getElem?_cons_succ, List.getElem?_cons_zero]; rfl)
  case hq24 => exact fun _ _ _ h => h
  case hw24 => rfl
  case hy24 =>
    intro W hW
    go_simp
    first | done | with_reducible rfl
  case hk24 =>
  try simp only [Act.put, List.setIfInBounds_toArray, List.set_cons_zero, List.set_cons_succ]
  refine anyK_take 24 (oi := ?oo25) ?ho25 (by kernel_rfl) (by kernel_rfl) (by kernel_rfl) (by kernel_rfl) ?hq25 ?hw25 hT3 (fun _ => trivial) (v := ?vv25) ?hy25 ?hk25
  case ho25 => (simp only [List.getElem?_toArray, List.getElem?_cons_succ, List.getElem?_cons_zero]; rfl)
  case hq25 => exact fun _ _ _ h => h
  case hw25 => rfl
  case hy25 =>
    intro W hW
    go_simp
    first | done | with_reducible rfl
  case hk25 =>
  try simp only [Act.put, List.setIfInBounds_toArray, List.set_cons_zero, List.set_cons_succ]
  refine anyK_take 25 (oi := ?oo26) ?ho26 (by kernel_rfl) (by kernel_rfl) (by kernel_rfl) (by kernel_rfl) ?hq26 ?hw26 hT3 (fun _ => trivial) (v := ?vv26) ?hy26 ?hk26
  case ho26 => (simp only [List.getElem?_toArray, List.getElem?_cons_succ, List.getElem?_cons_zero]; rfl)
  case hq26 => exact fun _ _ _ h => h
  case hw26 => rfl
  case hy26 =>
    intro W hW
    go_simp
    first | done | with_reducible rfl
  case hk26 =>
  try simp only [Act.put, List.setIfInBounds_toArray, List.set_cons_zero, List.set_cons_succ]
  refine anyK_done (by kernel_rfl) ?_ _
  clear keepK hT0 hT1 hT2 hT3
  go_wp2
  go_ret
  exact ⟨by first | rfl | simp, ext_trans X9.out yy⟩
end Go.Proofs.Ytfkcigekbgkcmaa
