/- Walks: cmp.Compare, cmp.Or of two; the order of ranks. -/
import Derived.Test.YtdoibgmmijhlfaaDealA
import Derived.Test.YtdoibgmmijhlfaaDealR
import Derived.Test.YtdoibgmmijhlfaaBlks
import Derived.Test.YtdoibgmmijhlfaaRegionK
import Derived.Shelf.SlSortCmp.NoneTotal
import Derived.Outline
namespace Go.Proofs.Ytdoibgmmijhlfaa
open Go.ChangeShapes Go.WideShapes Go.ChangeAt Go.RowKit Go.Shelf
set_option linter.unusedVariables false
set_option linter.unusedSimpArgs false
open Go.Sort
theorem isNaN_d (x : Int) (w : World) : Calls Try.prog 114 #[.int .i64 x] w fun e w' => e = .returned (.bool false) ∧ w = w' := by
  go_enter Try.func114, Try.ntmps114
  go_wp2
  go_ret
  exact ⟨by simp, rfl⟩
theorem Compare_d (a b : Int) (w : World) : Calls Try.prog 73 #[.int .i64 a, .int .i64 b] w fun e w' => e = .returned (.int .i64 (cmp2 a b)) ∧ w = w' := by
  unfold cmp2
  rcases (by omega : a < b ∨ (¬ a < b ∧ b < a) ∨ (¬ a < b ∧ ¬ b < a)) with h | ⟨h, h'⟩ | ⟨h, h'⟩
  · rw [if_pos h]
    go_enter Try.func73, Try.ntmps73
    go_wp2_with (go_at_call 114; refine (isNaN_d _ _).mono ?_; rintro e w' ⟨rfl, rfl⟩)
    go_ret
    exact ⟨rfl, rfl⟩
  · rw [if_neg h, if_pos h']
    go_enter Try.func73, Try.ntmps73
    go_wp2_with (go_at_call 114; refine (isNaN_d _ _).mono ?_; rintro e w' ⟨rfl, rfl⟩)
    go_ret
    exact ⟨rfl, rfl⟩
  · rw [if_neg h, if_neg h']
    go_enter Try.func73, Try.ntmps73
    go_wp2_with (go_at_call 114; refine (isNaN_d _ _).mono ?_; rintro e w' ⟨rfl, rfl⟩)
    go_ret
    exact ⟨rfl, rfl⟩
def or2 (x y : Int) : Int := if x ≠ 0 then x else y
theorem Or_two (x y : Int) (g : Nat) (w : World) (h0 : w.cell? ⟨g, 0, none⟩ = some (.int .i64 x)) (h1 : w.cell? ⟨g, 1, none⟩ = some (.int .i64 y)) :
    Calls Try.prog 72 #[.slice (some ⟨g, 0, none⟩) 2 2] w fun e w' => e = .returned (.int .i64 (or2 x y)) ∧ w = w' := by
  obtain ⟨r, hr⟩ : ∃ r, r = or2 x y := ⟨_, rfl⟩
  have HR := hide hr
  rw [← hr]
  clear hr
  go_enter Try.func72, Try.ntmps72
  go_wp2
  go_loop [5, 8] (fun _ i => ∃ k : Nat, k ≤ 2 ∧ i = .int .i64 k ∧ Hid ((0 < k → x = 0) ∧ (1 < k → y = 0))) (fun _ i => 2 - (intOf i).toNat)
  case atStart => exact ⟨0, by omega, rfl, hide ⟨by omega, by omega⟩⟩
  case round =>
    obtain ⟨k, hk, rfl, q⟩ := hrel
    rcases (by omega : k = 0 ∨ k = 1 ∨ k = 2) with rfl | rfl | rfl
    · clear q
      by_cases hx : x = 0
      · subst hx
        go_wp2
        go_round
        case rel => exact ⟨1, by omega, by go_num, hide ⟨fun _ => by first | rfl | trivial, by omega⟩⟩
        case measure => simp [intOf]
      · have hx' : (x != 0) = true := by simpa using hx
        go_wp2
        go_ret
        exact ⟨by rw [HR.out, or2, if_pos hx]; rfl, rfl⟩
    · obtain rfl := q.out.1 (by omega)
      clear q
      by_cases hx : y = 0
      · subst hx
        go_wp2
        go_round
        case rel => exact ⟨2, by omega, by go_num, hide ⟨fun _ => by first | rfl | trivial, fun _ => by first | rfl | trivial⟩⟩
        case measure => simp [intOf]
      · have hx' : (y != 0) = true := by simpa using hx
        go_wp2
        go_ret
        exact ⟨by rw [HR.out, or2, if_neg (by omega)]; rfl, rfl⟩
    · obtain rfl := q.out.1 (by omega)
      obtain rfl := q.out.2 (by omega)
      clear q
      go_wp2
      go_ret
      exact ⟨by rw [HR.out, or2, if_neg (by omega)]; rfl, rfl⟩
set_option maxHeartbeats 2000000 in
set_option maxRecDepth 100000 in
theorem order1_any (h : List Int) (a b : Nat) (gc : Nat) (w : World) (ha : a < 13) (hb : b < 13) (hc : ∀ r, r < 13 → w.cell? ⟨gc, r, none⟩ = some (.int .i64 (cntR h r : Int))) :
    Calls Try.prog 120 #[.int .i64 (a : Int), .int .i64 (b : Int), .pointer (some ⟨gc, 0, none⟩)] w fun e w' => e = .returned (.int .i64 (cmpR h a b)) ∧ ∃ q os, w' = grow (w.drewN q) os := by
  obtain ⟨x, hx⟩ : ∃ x : Int, (cntR h b : Int) = x := ⟨_, rfl⟩
  obtain ⟨y, hy⟩ : ∃ y : Int, (cntR h a : Int) = y := ⟨_, rfl⟩
  have HX : Hid (w.cell? ⟨gc, b, none⟩ = some (.int .i64 x)) := hide (by rw [hc b hb, hx])
  have HY : Hid (w.cell? ⟨gc, a, none⟩ = some (.int .i64 y)) := hide (by rw [hc a ha, hy])
  have HV : Hid (cmpR h a b = or2 (cmp2 x y) (cmp2 b a)) := hide (by unfold cmpR or2; simp only [Int.toNat_natCast]; rw [hx, hy])
  have a0 : (0 : Int) ≤ (a : Int) := by omega
  have a1 : (a : Int) < 13 := by omega
  have b0 : (0 : Int) ≤ (b : Int) := by omega
  have b1 : (b : Int) < 13 := by omega
  clear hc hx hy
  go_enter Try.func120, Try.ntmps120
  go_upto_region 1 with fail
  have keepK := hide (fun W (h : Ext w W) => (show (fun W => W.cell? ⟨gc, b, none⟩ = some (.int .i64 x) ∧ W.cell? ⟨gc, a, none⟩ = some (.int .i64 y) ∧ Ext w W) W from ⟨h.cell HX.out, h.cell HY.out, h⟩))
  have yy : Ext w w.drew := Below.drew (Below.refl _ _)
  refine region_K (fun W => W.cell? ⟨gc, b, none⟩ = some (.int .i64 x) ∧ W.cell? ⟨gc, a, none⟩ = some (.int .i64 y) ∧ Ext w W) (fun _ => True) [] (by kernel_rfl) ?_
  have hT0 := keepK.out _ yy
  refine anyK_take 0 (oi := ?oo1) ?ho1 (by kernel_rfl) (by kernel_rfl) (by kernel_rfl) (by kernel_rfl) ?hq1 ?hw1 hT0 (fun _ => trivial) (v := ?vv1) ?hy1 ?hk1
  case ho1 => (simp only [List.getElem?_toArray, List.getElem?_cons_succ, List.getElem?_cons_zero]; rfl)
  case hq1 => exact fun _ _ _ h => h
  case hw1 => rfl
  case hy1 =>
    intro W hW
    go_simp
    first | done | with_reducible rfl
  case hk1 =>
  try simp only [Act.put, List.setIfInBounds_toArray, List.set_cons_zero, List.set_cons_succ]
  refine anyK_take 1 (oi := ?oo2) ?ho2 (by kernel_rfl) (by kernel_rfl) (by kernel_rfl) (by kernel_rfl) ?hq2 ?hw2 hT0 (fun _ => trivial) (v := ?vv2) ?hy2 ?hk2
  case ho2 => (simp only [List.getElem?_toArray, List.getElem?_cons_succ, List.getElem?_cons_zero]; rfl)
  case hq2 => exact fun _ _ _ h => h
  case hw2 => rfl
  case hy2 =>
    intro W hW
    go_simp
    first | done | with_reducible rfl
  case hk2 =>
  try simp only [Act.put, List.setIfInBounds_toArray, List.set_cons_zero, List.set_cons_succ]
  refine anyK_take 2 (oi := ?oo3) ?ho3 (by kernel_rfl) (by kernel_rfl) (by kernel_rfl) (by kernel_rfl) ?hq3 ?hw3 hT0 (fun _ => trivial) (v := ?vv3) ?hy3 ?hk3
  case ho3 => (simp only [List.getElem?_toArray, List.getElem?_cons_succ, List.getElem?_cons_zero]; rfl)
  case hq3 => exact fun _ _ _ h => h
  case hw3 => rfl
  case hy3 =>
    intro W hW
    obtain ⟨z0, z1, z2⟩ := hW
    go_simp
    first | done | with_reducible rfl
  case hk3 =>
  try simp only [Act.put, List.setIfInBounds_toArray, List.set_cons_zero, List.set_cons_succ]
  refine anyK_take 3 (oi := ?oo4) ?ho4 (by kernel_rfl) (by kernel_rfl) (by kernel_rfl) (by kernel_rfl) ?hq4 ?hw4 hT0 (fun _ => trivial) (v := ?vv4) ?hy4 ?hk4
  case ho4 => (simp only [List.getElem?_toArray, List.getElem?_cons_succ, List.getElem?_cons_zero]; rfl)
  case hq4 => exact fun _ _ _ h => h
  case hw4 => rfl
  case hy4 =>
    intro W hW
    go_simp
    first | done | with_reducible rfl
  case hk4 =>
  try simp only [Act.put, List.setIfInBounds_toArray, List.set_cons_zero, List.set_cons_succ]
  refine anyK_take 4 (oi := ?oo5) ?ho5 (by kernel_rfl) (by kernel_rfl) (by kernel_rfl) (by kernel_rfl) ?hq5 ?hw5 hT0 (fun _ => trivial) (v := ?vv5) ?hy5 ?hk5
  case ho5 => (simp only [List.getElem?_toArray, List.getElem?_cons_succ, List.getElem?_cons_zero]; rfl)
  case hq5 => exact fun _ _ _ h => h
  case hw5 => rfl
  case hy5 =>
    intro W hW
    go_simp
    first | done | with_reducible rfl
  case hk5 =>
  try simp only [Act.put, List.setIfInBounds_toArray, List.set_cons_zero, List.set_cons_succ]
  refine anyK_take 5 (oi := ?oo6) ?ho6 (by kernel_rfl) (by kernel_rfl) (by kernel_rfl) (by kernel_rfl) ?hq6 ?hw6 hT0 (fun _ => trivial) (v := ?vv6) ?hy6 ?hk6
  case ho6 => (simp only [List.getElem?_toArray, List.getElem?_cons_succ, List.getElem?_cons_zero]; rfl)
  case hq6 => exact fun _ _ _ h => h
  case hw6 => rfl
  case hy6 =>
    intro W hW
    obtain ⟨z0, z1, z2⟩ := hW
    go_simp
    first | done | with_reducible rfl
  case hk6 =>
  try simp only [Act.put, List.setIfInBounds_toArray, List.set_cons_zero, List.set_cons_succ]
  refine anyK_take 7 (oi := ?oo7) ?ho7 (by kernel_rfl) (by kernel_rfl) (by kernel_rfl) (by kernel_rfl) ?hq7 ?hw7 hT0 (fun _ => trivial) (v := ?vv7) ?hy7 ?hk7
  case ho7 => (simp only [List.getElem?_toArray, List.getElem?_cons_succ, List.getElem?_cons_zero]; rfl)
  case hq7 => exact fun _ _ _ h => h
  case hw7 => rfl
  case hy7 =>
    intro W hW
    go_simp
    first | done | with_reducible rfl
  case hk7 =>
  try simp only [Act.put, List.setIfInBounds_toArray, List.set_cons_zero, List.set_cons_succ]
  refine anyK_take 8 (oi := ?oo8) ?ho8 (by kernel_rfl) (by kernel_rfl) (by kernel_rfl) (by kernel_rfl) ?hq8 ?hw8 hT0 (fun _ => trivial) (v := ?vv8) ?hy8 ?hk8
  case ho8 => (simp only [List.getElem?_toArray, List.getElem?_cons_succ, List.getElem?_cons_zero]; rfl)
  case hq8 => exact fun _ _ _ h => h
  case hw8 => rfl
  case hy8 =>
    intro W hW
    go_simp
    first | done | with_reducible rfl
  case hk8 =>
  try simp only [Act.put, List.setIfInBounds_toArray, List.set_cons_zero, List.set_cons_succ]
  refine anyK_on1 6 (by kernel_rfl) ?_
  refine anyK_one 6 (o := ?oo9) ?ho9 ?hk9
  case ho9 => (simp only [List.getElem?_toArray, List.getElem?_cons_succ, List.getElem?_cons_zero]; rfl)
  case hk9 =>
  intro K hK
  go_simp
  refine (Compare_d _ _ _).mono ?_
  rintro e wk ⟨rfl, rfl⟩
  try go_wp2_with fail
  replace yy := yy
  have hT1 := keepK.out _ yy
  refine hK.out _ _ hT1 (fun _ => trivial) ?_
  clear hK K
  try simp only [Act.put, List.setIfInBounds_toArray, List.set_cons_zero, List.set_cons_succ]
  refine anyK_on1 9 (by kernel_rfl) ?_
  refine anyK_one 9 (o := ?oo10) ?ho10 ?hk10
  case ho10 => (simp only [List.getElem?_toArray, List.getElem?_cons_succ, List.getElem?_cons_zero]; rfl)
  case hk10 =>
  intro K hK
  go_simp
  refine (Compare_d _ _ _).mono ?_
  rintro e wk ⟨rfl, rfl⟩
  try go_wp2_with fail
  replace yy := yy
  have hT2 := keepK.out _ yy
  refine hK.out _ _ hT2 (fun _ => trivial) ?_
  clear hK K
  try simp only [Act.put, List.setIfInBounds_toArray, List.set_cons_zero, List.set_cons_succ]
  refine anyK_on1 10 (by kernel_rfl) ?_
  refine anyK_one 10 (o := ?oo11) ?ho11 ?hk11
  case ho11 => (simp only [List.getElem?_toArray, List.getElem?_cons_succ, List.getElem?_cons_zero]; rfl)
  case hk11 =>
  intro K hK
  go_simp
  replace yy := ext_alloc yy (.cells #[.int .i64 (cmp2 x y), .int .i64 (cmp2 b a)] 3)
  have hT3 := keepK.out _ yy
  refine hK.out _ _ hT3 (fun _ => trivial) ?_
  clear hK K
  try simp only [Act.put, List.setIfInBounds_toArray, List.set_cons_zero, List.set_cons_succ]
  refine anyK_on1 11 (by kernel_rfl) ?_
  refine anyK_one 11 (o := ?oo12) ?ho12 ?hk12
  case ho12 => (simp only [List.getElem?_toArray, List.getElem?_cons_succ, List.getElem?_cons_zero]; rfl)
  case hk12 =>
  intro K hK
  go_simp
  refine (Or_two (cmp2 x y) (cmp2 b a) _ _ (new_cell _ _ _ 0) (new_cell _ _ _ 1)).mono ?_
  rintro e wk ⟨rfl, rfl⟩
  try go_wp2_with fail
  replace yy := yy
  have hT4 := keepK.out _ yy
  refine hK.out _ _ hT4 (fun _ => trivial) ?_
  clear hK K
  try simp only [Act.put, List.setIfInBounds_toArray, List.set_cons_zero, List.set_cons_succ]
  refine anyK_take 12 (oi := ?oo13) ?ho13 (by kernel_rfl) (by kernel_rfl) (by kernel_rfl) (by kernel_rfl) ?hq13 ?hw13 hT4 (fun _ => trivial) (v := ?vv13) ?hy13 ?hk13
  case ho13 => (simp only [List.getElem?_toArray, List.getElem?_cons_succ, List.getElem?_cons_zero]; rfl)
  case hq13 => exact fun _ _ _ h => h
  case hw13 => rfl
  case hy13 =>
    intro W hW
    go_simp
    first | done | with_reducible rfl
  case hk13 =>
  try simp only [Act.put, List.setIfInBounds_toArray, List.set_cons_zero, List.set_cons_succ]
  refine anyK_done (by kernel_rfl) ?_ _
  clear keepK hT0 hT1 hT2 hT3 hT4
  clear yy
  go_wp2
  go_ret
  exact ⟨by rw [HV.out]; rfl, 1, _, by rw [alloc_eq_grow]; rfl⟩
end Go.Proofs.Ytdoibgmmijhlfaa
