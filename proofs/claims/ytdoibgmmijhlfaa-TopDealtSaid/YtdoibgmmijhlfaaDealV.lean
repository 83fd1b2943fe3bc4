/- Walks: the deal's table: Open, Deck. -/
import Derived.Test.YtdoibgmmijhlfaaDealU
namespace Go.Proofs.Ytdoibgmmijhlfaa
open Go.ChangeShapes Go.WideShapes Go.ChangeAt Go.RowKit Go.Shelf
set_option linter.unusedVariables false
set_option linter.unusedSimpArgs false
theorem stage_one {ps : List PlM} {k : Nat} {p : PlM} (hall : ∀ q ∈ ps, q.so = true) (hp : ps[k]? = some p) (ho : p.op = false) : stageM ps = 1 := by
  unfold stageM
  rw [if_neg, if_pos (List.any_eq_true.2 ⟨p, List.mem_of_getElem? hp, by rw [ho]; rfl⟩)]
  intro h
  obtain ⟨q, hq, h2⟩ := List.any_eq_true.1 h
  rw [hall q hq] at h2
  cases h2
theorem stage_two {ps : List PlM} (hall : ∀ q ∈ ps, q.so = true) (hop : ∀ q ∈ ps, q.op = true) : stageM ps = 2 := by
  unfold stageM
  rw [if_neg, if_neg]
  · intro h
    obtain ⟨q, hq, h2⟩ := List.any_eq_true.1 h
    rw [hop q hq] at h2
    cases h2
  · intro h
    obtain ⟨q, hq, h2⟩ := List.any_eq_true.1 h
    rw [hall q hq] at h2
    cases h2
theorem OwnZ.mono {w0 w1 w : World} {v : Value} {xs : List Int} (h : OwnZ w1 w v xs) (hb : w0.heap.size ≤ w1.heap.size) : OwnZ w0 w v xs := by
  obtain ⟨A, c, e, o⟩ := h
  exact ⟨A, c, e, own_mono o hb⟩
theorem Fits_yes (m : Int) (A : Option Addr) (n c : Nat) (zs : List Int) (w : World) (hm0 : 0 ≤ m) (hm1 : m ≤ 1000) (hn : zs.length = n) (hnm : n ≤ maxLen) (hz : IntsAt w A zs) (hf : FitsL m zs) :
    Calls Try.prog 22 #[.int .i64 m, .slice A n c] w fun e w' => e = .returned (.int .i64 0) ∧ Ext w w' := by
  refine (Fits_any m A n c zs w hm0 hm1 hn hnm hz).mono ?_
  rintro e w' ⟨⟨rfl, -⟩ | ⟨_, _, _, hno⟩, rfl⟩
  · exact ⟨rfl, Below.refl _ _⟩
  · exact absurd hf hno
set_option maxHeartbeats 4000000 in
set_option maxRecDepth 100000 in
theorem Open_ok {w0 W : World} {BT g : Nat} {ps : List PlM} (h : TabAt w0 W BT g ps) (k : Nat) (p : PlM) (hp : ps[k]? = some p) (hall : ∀ q ∈ ps, q.so = true) (hop : p.op = false)
    (A : Option Addr) (c : Nat) (dz : List Int) (s : Int) (hz : IntsAt W A dz) (hf : FitsL 52 dz) (hs : p.sl = sealM dz s) :
    Calls Try.prog 26 #[.pointer (some ⟨BT, 0, none⟩), .int .i64 (k : Int), .slice A dz.length c, .int .i64 s] W fun e w' => e = .returned (.tuple #[.bool true, .int .i64 0]) ∧ ∃ v, TabAt w0 w' BT g (ps.set k { p with op := true, dv := v, dz := dz }) := by
  have hk : k < ps.length := (List.getElem?_eq_some_iff.1 hp).1
  have hl51 : dz.length = 51 := by have := hf.1; omega
  have HCK := hide (tcheck_ok h k hk 1 (stage_one hall hp hop))
  have HFT := hide (fun W' (x : Ext W W') => Fits_yes 52 A dz.length c dz W' (by omega) (by omega) rfl (by simp only [maxLen]; omega) (hz.ext x) hf)
  have HSE := hide (fun W' (x : Ext W W') => Seal_any A dz.length c dz s W' rfl (by omega) (hz.ext x))
  have HCL := hide (fun W' (x : Ext W W') => cloneInts_any A dz.length c dz W' rfl (by omega) (fun e => ints_none (hz.ext x) e) (hz.ext x))
  have H := hide h
  have HP := hide hp
  have HF := hide (And.intro hf (And.intro hs hop))
  have k0 : (0 : Int) ≤ (k : Int) := by omega
  have k1 : (k : Int) < (ps.length : Int) := by omega
  have h6 := h.2.2.2.2.2.2
  clear h hp hz hf hs hall hl51
  go_enter Try.func26, Try.ntmps26
  go_wp2_with fail
  refine HCK.out.mono ?_
  rintro e w1 ⟨rfl, x1⟩
  have X1 := hide x1
  have H1 := hide (H.out.ext x1)
  have f := H1.out.1.cell
  obtain ⟨c0, c1, c2, c3⟩ := blk_pl H1.out.2.1 HP.out
  rw [hop] at c1
  rw [HF.out.2.1] at c2
  have HC2 := hide c2
  have HC0 := hide (H1.out.1.cell 0 : w1.cell? ⟨BT, 0, none⟩ = some (.int .i64 52))
  clear x1 HCK c0 c2 c3
  go_upto_region 7 with fail
  clear f c1
  have keepK := hide (fun W (h : Ext w1 W) => (show (fun W => W.cell? ⟨BT, 0, none⟩ = some (.int .i64 52) ∧ W.cell? ⟨g, k * 4 + 2, none⟩ = some (.int .u64 (sealM dz s)) ∧ Ext w1 W) W from ⟨h.cell HC0.out, h.cell HC2.out, h⟩))
  have yy : Ext w1 w1.drew := Below.drew (Below.refl _ _)
  refine region_K (fun W => W.cell? ⟨BT, 0, none⟩ = some (.int .i64 52) ∧ W.cell? ⟨g, k * 4 + 2, none⟩ = some (.int .u64 (sealM dz s)) ∧ Ext w1 W) (fun _ => True) [] (by kernel_rfl) ?_
  have hT0 := keepK.out _ yy
  refine anyK_take 0 (oi := ?oo1) ?ho1 (by kernel_rfl) (by kernel_rfl) (by kernel_rfl) (by kernel_rfl) ?hq1 ?hw1 hT0 (fun _ => trivial) (v := ?vv1) ?hy1 ?hk1
  case ho1 => (simp only [List.getElem?_toArray, List.getElem?_cons_succ, List.getElem?_cons_zero]; rfl)
  case hq1 => exact fun _ _ _ h => h
  case hw1 => rfl
  case hy1 =>
    intro W hW
    go_simp
    first | done | with_reducible rfl
  case hk1 =>
  try simp only [Act.put, List.setIfInBounds_toArray, List.set_cons_zero, List.set_cons_succ]
  refine anyK_take 1 (oi := ?oo2) ?ho2 (by kernel_rfl) (by kernel_rfl) (by kernel_rfl) (by kernel_rfl) ?hq2 ?hw2 hT0 (fun _ => trivial) (v := ?vv2) ?hy2 ?hk2
  case ho2 => (simp only [List.getElem?_toArray, List.getElem?_cons_succ, List.getElem?_cons_zero]; rfl)
  case hq2 => exact fun _ _ _ h => h
  case hw2 => rfl
  case hy2 =>
    intro W hW
    go_simp
    first | done | with_reducible rfl
  case hk2 =>
  try simp only [Act.put, List.setIfInBounds_toArray, List.set_cons_zero, List.set_cons_succ]
  refine anyK_take 2 (oi := ?oo3) ?ho3 (by kernel_rfl) (by kernel_rfl) (by kernel_rfl) (by kernel_rfl) ?hq3 ?hw3 hT0 (fun _ => trivial) (v := ?vv3) ?hy3 ?hk3
  case ho3 => (simp only [List.getElem?_toArray, List.getElem?_cons_succ, List.getElem?_cons_zero]; rfl)
  case hq3 => exact fun _ _ _ h => h
  case hw3 => rfl
  case hy3 =>
    intro W hW
    go_simp
    first | done | with_reducible rfl
  case hk3 =>
  try simp only [Act.put, List.setIfInBounds_toArray, List.set_cons_zero, List.set_cons_succ]
  refine anyK_take 3 (oi := ?oo4) ?ho4 (by kernel_rfl) (by kernel_rfl) (by kernel_rfl) (by kernel_rfl) ?hq4 ?hw4 hT0 (fun _ => trivial) (v := ?vv4) ?hy4 ?hk4
  case ho4 => (simp only [List.getElem?_toArray, List.getElem?_cons_succ, List.getElem?_cons_zero]; rfl)
  case hq4 => exact fun _ _ _ h => h
  case hw4 => rfl
  case hy4 =>
    intro W hW
    obtain ⟨z0, z1, z2⟩ := hW
    go_simp
    first | done | with_reducible rfl
  case hk4 =>
  try simp only [Act.put, List.setIfInBounds_toArray, List.set_cons_zero, List.set_cons_succ]
  refine anyK_take 4 (oi := ?oo5) ?ho5 (by kernel_rfl) (by kernel_rfl) (by kernel_rfl) (by kernel_rfl) ?hq5 ?hw5 hT0 (fun _ => trivial) (v := ?vv5) ?hy5 ?hk5
  case ho5 => (simp only [List.getElem?_toArray, List.getElem?_cons_succ, List.getElem?_cons_zero]; rfl)
  case hq5 => exact fun _ _ _ h => h
  case hw5 => rfl
  case hy5 =>
    intro W hW
    go_simp
    first | done | with_reducible rfl
  case hk5 =>
  try simp only [Act.put, List.setIfInBounds_toArray, List.set_cons_zero, List.set_cons_succ]
  refine anyK_on1 5 (by kernel_rfl) ?_
  refine anyK_one 5 (o := ?oo6) ?ho6 ?hk6
  case ho6 => (simp only [List.getElem?_toArray, List.getElem?_cons_succ, List.getElem?_cons_zero]; rfl)
  case hk6 =>
  intro K hK
  go_simp
  refine (HFT.out _ (ext_trans X1.out yy)).mono ?_
  rintro e wf ⟨rfl, xx⟩
  try go_wp2_with fail
  replace yy := ext_trans yy xx
  have hT1 := keepK.out _ yy
  refine hK.out _ _ hT1 (fun _ => trivial) ?_
  clear hK K
  try simp only [Act.put, List.setIfInBounds_toArray, List.set_cons_zero, List.set_cons_succ]
  refine anyK_take 6 (oi := ?oo7) ?ho7 (by kernel_rfl) (by kernel_rfl) (by kernel_rfl) (by kernel_rfl) ?hq7 ?hw7 hT1 (fun _ => trivial) (v := ?vv7) ?hy7 ?hk7
  case ho7 => (simp only [List.getElem?_toArray, List.getElem?_cons_succ, List.getElem?_cons_zero]; rfl)
  case hq7 => exact fun _ _ _ h => h
  case hw7 => rfl
  case hy7 =>
    intro W hW
    go_simp
    first | done | with_reducible rfl
  case hk7 =>
  try simp only [Act.put, List.setIfInBounds_toArray, List.set_cons_zero, List.set_cons_succ]
  refine anyK_take 7 (oi := ?oo8) ?ho8 (by kernel_rfl) (by kernel_rfl) (by kernel_rfl) (by kernel_rfl) ?hq8 ?hw8 hT1 (fun _ => trivial) (v := ?vv8) ?hy8 ?hk8
  case ho8 => (simp only [List.getElem?_toArray, List.getElem?_cons_succ, List.getElem?_cons_zero]; rfl)
  case hq8 => exact fun _ _ _ h => h
  case hw8 => rfl
  case hy8 =>
    intro W hW
    go_simp
    first | done | with_reducible rfl
  case hk8 =>
  try simp only [Act.put, List.setIfInBounds_toArray, List.set_cons_zero, List.set_cons_succ]
  refine anyK_take 8 (oi := ?oo9) ?ho9 (by kernel_rfl) (by kernel_rfl) (by kernel_rfl) (by kernel_rfl) ?hq9 ?hw9 hT1 (fun _ => trivial) (v := ?vv9) ?hy9 ?hk9
  case ho9 => (simp only [List.getElem?_toArray, List.getElem?_cons_succ, List.getElem?_cons_zero]; rfl)
  case hq9 => exact fun _ _ _ h => h
  case hw9 => rfl
  case hy9 =>
    intro W hW
    go_simp
    first | done | with_reducible rfl
  case hk9 =>
  try simp only [Act.put, List.setIfInBounds_toArray, List.set_cons_zero, List.set_cons_succ]
  refine anyK_take 9 (oi := ?oo10) ?ho10 (by kernel_rfl) (by kernel_rfl) (by kernel_rfl) (by kernel_rfl) ?hq10 ?hw10 hT1 (fun _ => trivial) (v := ?vv10) ?hy10 ?hk10
  case ho10 => (simp only [List.getElem?_toArray, List.getElem?_cons_succ, List.getElem?_cons_zero]; rfl)
  case hq10 => exact fun _ _ _ h => h
  case hw10 => rfl
  case hy10 =>
    intro W hW
    go_simp
    first | done | with_reducible rfl
  case hk10 =>
  try simp only [Act.put, List.setIfInBounds_toArray, List.set_cons_zero, List.set_cons_succ]
  refine anyK_take 11 (oi := ?oo11) ?ho11 (by kernel_rfl) (by kernel_rfl) (by kernel_rfl) (by kernel_rfl) ?hq11 ?hw11 hT1 (fun _ => trivial) (v := ?vv11) ?hy11 ?hk11
  case ho11 => (simp only [List.getElem?_toArray, List.getElem?_cons_succ, List.getElem?_cons_zero]; rfl)
  case hq11 => exact fun _ _ _ h => h
  case hw11 => rfl
  case hy11 =>
    intro W hW
    go_simp
    first | done | with_reducible rfl
  case hk11 =>
  try simp only [Act.put, List.setIfInBounds_toArray, List.set_cons_zero, List.set_cons_succ]
  refine anyK_take 12 (oi := ?oo12) ?ho12 (by kernel_rfl) (by kernel_rfl) (by kernel_rfl) (by kernel_rfl) ?hq12 ?hw12 hT1 (fun _ => trivial) (v := ?vv12) ?hy12 ?hk12
  case ho12 => (simp only [List.getElem?_toArray, List.getElem?_cons_succ, List.getElem?_cons_zero]; rfl)
  case hq12 => exact fun _ _ _ h => h
  case hw12 => rfl
  case hy12 =>
    intro W hW
    go_simp
    first | done | with_reducible rfl
  case hk12 =>
  try simp only [Act.put, List.setIfInBounds_toArray, List.set_cons_zero, List.set_cons_succ]
  refine anyK_take 13 (oi := ?oo13) ?ho13 (by kernel_rfl) (by kernel_rfl) (by kernel_rfl) (by kernel_rfl) ?hq13 ?hw13 hT1 (fun _ => trivial) (v := ?vv13) ?hy13 ?hk13
  case ho13 => (simp only [List.getElem?_toArray, List.getElem?_cons_succ, List.getElem?_cons_zero]; rfl)
  case hq13 => exact fun _ _ _ h => h
  case hw13 => rfl
  case hy13 =>
    intro W hW
    go_simp
    first | done | with_reducible rfl
  case hk13 =>
  try simp only [Act.put, List.setIfInBounds_toArray, List.set_cons_zero, List.set_cons_succ]
  refine anyK_take 14 (oi := ?oo14) ?ho14 (by kernel_rfl) (by kernel_rfl) (by kernel_rfl) (by kernel_rfl) ?hq14 ?hw14 hT1 (fun _ => trivial) (v := ?vv14) ?hy14 ?hk14
  case ho14 => (simp only [List.getElem?_toArray, List.getElem?_cons_succ, List.getElem?_cons_zero]; rfl)
  case hq14 => exact fun _ _ _ h => h
  case hw14 => rfl
  case hy14 =>
    intro W hW
    obtain ⟨z0, z1, z2⟩ := hW
    go_simp
    first | done | with_reducible rfl
  case hk14 =>
  try simp only [Act.put, List.setIfInBounds_toArray, List.set_cons_zero, List.set_cons_succ]
  refine anyK_on1 10 (by kernel_rfl) ?_
  refine anyK_one 10 (o := ?oo15) ?ho15 ?hk15
  case ho15 => (simp only [List.getElem?_toArray, List.getElem?_cons_succ, List.getElem?_cons_zero]; rfl)
  case hk15 =>
  intro K hK
  go_simp
  refine (HSE.out _ (ext_trans X1.out yy)).mono ?_
  rintro e ws ⟨rfl, xx⟩
  try go_wp2_with fail
  replace yy := ext_trans yy xx
  have hT2 := keepK.out _ yy
  refine hK.out _ _ hT2 (fun _ => trivial) ?_
  clear hK K
  try simp only [Act.put, List.setIfInBounds_toArray, List.set_cons_zero, List.set_cons_succ]
  refine anyK_take 15 (oi := ?oo16) ?ho16 (by kernel_rfl) (by kernel_rfl) (by kernel_rfl) (by kernel_rfl) ?hq16 ?hw16 hT2 (fun _ => trivial) (v := ?vv16) ?hy16 ?hk16
  case ho16 => (simp only [List.getElem?_toArray, List.getElem?_cons_succ, List.getElem?_cons_zero]; rfl)
  case hq16 => exact fun _ _ _ h => h
  case hw16 => rfl
  case hy16 =>
    intro W hW
    go_simp
    first | done | with_reducible rfl
  case hk16 =>
  try simp only [Act.put, List.setIfInBounds_toArray, List.set_cons_zero, List.set_cons_succ]
  refine anyK_take 16 (oi := ?oo17) ?ho17 (by kernel_rfl) (by kernel_rfl) (by kernel_rfl) (by kernel_rfl) ?hq17 ?hw17 hT2 (fun _ => trivial) (v := ?vv17) ?hy17 ?hk17
  case ho17 => (simp only [List.getElem?_toArray, List.getElem?_cons_succ, List.getElem?_cons_zero]; rfl)
  case hq17 => exact fun _ _ _ h => h
  case hw17 => rfl
  case hy17 =>
    intro W hW
    go_simp
    first | done | with_reducible rfl
  case hk17 =>
  try simp only [Act.put, List.setIfInBounds_toArray, List.set_cons_zero, List.set_cons_succ]
  refine anyK_done (by kernel_rfl) ?_ _
  clear keepK hT0 hT1 hT2
  have X3 := hide (ext_trans X1.out yy)
  have H3 := hide (H1.out.ext yy)
  clear yy xx HC0 HC2 HFT HSE
  generalize sealM dz s = sv at *
  go_wp2_with fail
  refine (HCL.out _ X3.out).mono ?_
  rintro e w4 ⟨A4, c4, rfl, o4, x4⟩
  have H4 := hide (H3.out.ext x4)
  have O4 : Hid (OwnZ w0 w4 (.slice A4 dz.length c4) dz) := hide (OwnZ.mono (w1 := ws) ⟨_, _, rfl, o4⟩ H3.out.2.2.2.1.size)
  obtain ⟨d0, d1, d2, d3⟩ := blk_pl H4.out.2.1 HP.out
  have z := H4.out.2.1.frozen
  have K2 := hide (plsC_set ps k 1 p { p with op := true } (.bool true) HP.out (by omega) rfl)
  have K3 := hide (plsC_set (ps.set k { p with op := true }) k 3 { p with op := true } { p with op := true, dv := .slice A4 dz.length c4, dz := dz } (.slice A4 dz.length c4) (by rw [List.getElem?_set]; simp [hk]) (by omega) rfl)
  have B2 := hide (H4.out.2.1.set_ (k * 4 + 1) (.bool true))
  rw [List.setIfInBounds_toArray, K2.out] at B2
  have B3 := hide (B2.out.set_ (k * 4 + 3) (.slice A4 dz.length c4))
  rw [List.setIfInBounds_toArray, K3.out, List.set_set] at B3
  have X5 := hide (ext_set (ext_set H4.out.2.2.2.1 (p := ⟨g, k * 4 + 1, none⟩) H4.out.2.2.2.2.2.1 (.bool true)) (p := ⟨g, k * 4 + 3, none⟩) H4.out.2.2.2.2.2.1 (.slice A4 dz.length c4))
  have T5 := hide ((H4.out.1.far (p := ⟨g, k * 4 + 1, none⟩) (tab_ne H4.out) (.bool true)).far (p := ⟨g, k * 4 + 3, none⟩) (tab_ne H4.out) (.slice A4 dz.length c4))
  have O5 : Hid (∀ q ∈ ps, q.op = true → OwnZ w0 ((w4.setCell ⟨g, k * 4 + 1, none⟩ (.bool true)).setCell ⟨g, k * 4 + 3, none⟩ (.slice A4 dz.length c4)) q.dv q.dz) := hide (fun q hq ho => (own_set_pl H4.out (k * 4 + 1) (.bool true) q hq ho).setFar B2.out (by decide) (k * 4 + 3) (.slice A4 dz.length c4))
  have O6 := hide ((O4.out.setFar H4.out.2.1 (by decide) (k * 4 + 1) (.bool true)).setFar B2.out (by decide) (k * 4 + 3) (.slice A4 dz.length c4))
  clear x4 o4 d0 d2 K2 K3 B2 X1 X3
  go_wp2
  go_ret2
  refine ⟨rfl, .slice A4 dz.length c4, ?_, B3.out, ?_, X5.out, H4.out.2.2.2.2.1, H4.out.2.2.2.2.2.1, by rw [List.length_set]; exact h6⟩
  · rw [List.length_set]; exact T5.out
  · intro q hq ho
    rcases List.mem_or_eq_of_mem_set hq with hm | rfl
    · exact O5.out q hm ho
    · exact O6.out
end Go.Proofs.Ytdoibgmmijhlfaa
