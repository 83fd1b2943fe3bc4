/- A slice of integers that came in. Walk: some, an element of a list of moves that is not empty. Plain facts and contracts for the laws on results: the sample that is won. Walk: slices.Equal over moves: equal lists. Walk: scored. -/
import Derived.Test.YtfkcigekbgkcmaaGreatRows
import Derived.Test.YtfkcigekbgkcmaaGreatGBase
import Derived.Outline
import Derived.OpenShut
import Derived.Test.YtfkcigekbgkcmaaGreatGAll
import Derived.Test.YtfkcigekbgkcmaaGreatGEnds
import Derived.Test.YtfkcigekbgkcmaaGreatGSamples
import Derived.Test.YtfkcigekbgkcmaaGreatGMini
import Derived.Test.YtfkcigekbgkcmaaGreatGPlays
namespace Go.Proofs.YtfkcigekbgkcmaaGreat
open Go.RowKit
set_option linter.unusedVariables false
/-- What the walk is told of a slice of integers that came in. -/
def IsRow (w : World) (a : Option Addr) (len cap : Nat) (zs : List Int) : Prop :=
  (a = none ∧ len = 0 ∧ cap = 0 ∧ zs = []) ∨
  ∃ x, a = some x ∧ len ≤ cap ∧ cap ≤ maxLen ∧ zs.length = cap ∧ (∀ i, i < zs.length → w.cell? (x.add i) = some (.int .i64 (zs.getD i 0))) ∧ ∀ n ∈ zs, (Lit.int .i64 n).wf = true
theorem spot_none {w : World} {x : Addr} {v : Value} (h : w.cell? x = some v) : x = ⟨x.block, x.off, none⟩ := by
  obtain ⟨b, o, s⟩ := x
  cases s with
  | none => rfl
  | some s =>
    exfalso
    unfold World.cell? at h
    simp only at h
    split at h
    · simp at h
    · cases h
theorem IsRow.ints {w : World} {a : Option Addr} {len cap : Nat} {zs : List Int} (h : IsRow w a len cap zs) : IntsAt w a (zs.take len) ∧ (zs.take len).length = len ∧ (a = none → len = 0) ∧ len ≤ maxLen := by
  rcases h with ⟨rfl, rfl, rfl, rfl⟩ | ⟨x, rfl, h1, h2, h3, h4, h5⟩
  · exact ⟨by simpa using intsAt_nil w _, rfl, fun _ => rfl, by simp [maxLen]⟩
  · refine ⟨fun i hi => ?_, by simp; omega, fun k => by simp at k, by omega⟩
    have hi2 : i < len := by simp at hi; omega
    have hx := spot_none (h4 0 (by omega))
    have hadd : x.add 0 = x := rfl
    rw [hadd] at hx
    refine ⟨x.block, x.off, by rw [← hx], ?_⟩
    have := h4 i (by omega)
    rw [hx, add_lit] at this
    rw [this]
    simp [hi2]
end Go.Proofs.YtfkcigekbgkcmaaGreat
namespace Go.Proofs.YtfkcigekbgkcmaaGreat
open Go.ChangeShapes Go.WideShapes Go.ChangeAt Go.RowKit Go.Shelf
set_option linter.unusedVariables false
def SomePost (w : World) (L : List MoveM) (e : Ending) (w' : World) : Prop := ∃ m, m ∈ L ∧ e = .returned (.agg #[.int .i64 m.src, .int .i64 m.dst, .int .i64 m.piece]) ∧ Ext w w'
theorem some_idx {n l : Int} (hl : 1 ≤ l) : -l < n.tmod l ∧ n.tmod l < l ∧ 0 ≤ (n.tmod l + l).tmod l ∧ (n.tmod l + l).tmod l < l := by
  have h1 : -l < n.tmod l ∧ n.tmod l < l := by
    have a := Int.tmod_lt_of_pos n (show 0 < l by omega)
    refine ⟨?_, a⟩
    have b := Int.tmod_lt_of_pos (-n) (show 0 < l by omega)
    rw [Int.neg_tmod] at b
    omega
  refine ⟨h1.1, h1.2, Int.tmod_nonneg _ (by omega), Int.tmod_lt_of_pos _ (by omega)⟩
set_option maxHeartbeats 1000000 in
set_option maxRecDepth 100000 in
theorem some_move (L : List MoveM) (n : Int) (v : Value) (w : World) (h : MovesAt w v L) (hl : L.length ≤ 1000000) (h0 : L ≠ []) :
    Calls Tryz.prog 14 #[v, .int .i64 n] w (SomePost w L) := by
  obtain ⟨A, c, rfl, hc⟩ := h
  have hpos : 1 ≤ L.length := by
    rcases L with _ | ⟨x, l⟩
    · exact absurd rfl h0
    · simp
  obtain ⟨q1, q2, q3, q4⟩ := some_idx (n := n) (l := (L.length : Int)) (by omega)
  obtain ⟨k, hk⟩ := Int.eq_ofNat_of_zero_le q3
  have hk' : (n.tmod (L.length : Int) + (L.length : Int)).tmod (L.length : Int) = (k : Int) := hk
  have hkl : k < L.length := by omega
  obtain ⟨m, hm⟩ : ∃ m, L[k]? = some m := ⟨L[k], List.getElem?_eq_getElem _⟩
  obtain ⟨b, o, rfl, c0, c1, c2⟩ := moves_get hc hm
  have HM := hide (List.mem_of_getElem? hm)
  obtain ⟨x1, k1⟩ := blks1 w #[.int .i64 0, .int .i64 0, .int .i64 0] 46
  have d0 := x1.cell c0
  have d1 := x1.cell c1
  have d2 := x1.cell c2
  have HI : (wrap64 (n.tmod (L.length : Int) + (L.length : Int))).tmod (L.length : Int) = (k : Int) := by
    have hw : wrap64 (n.tmod (L.length : Int) + (L.length : Int)) = n.tmod (L.length : Int) + (L.length : Int) := by unfold wrap64; omega
    rw [hw]
    exact hk'
  have z1 : ((L.length : Int) == 0) = false := by simp; omega
  have j0 : (0 : Int) ≤ (k : Int) := by omega
  have j1 : (k : Int) < (L.length : Int) := by omega
  clear hm hc c0 c1 c2 h0 hk hk' q1 q2 q3 q4 hpos
  go_enter Tryz.func14, Tryz.ntmps14
  go_wp2
  have K := Blk.new w 46 #[.int .i64 m.src, .int .i64 m.dst, .int .i64 m.piece]
  have f := K.cell
  refine bodyPost_ret (v := .agg #[.int .i64 m.src, .int .i64 m.dst, .int .i64 m.piece]) ?_ rfl ?_
  · simp [results, Tryz.results14, go_sem, f]
  · exact ⟨m, HM.out, rfl, ext_alloc (Below.refl _ _) _⟩
end Go.Proofs.YtfkcigekbgkcmaaGreat
namespace Go.Proofs.YtfkcigekbgkcmaaGreat
open Go.ChangeShapes Go.WideShapes Go.ChangeAt Go.RowKit Go.Shelf
set_option linter.unusedVariables false
def wonP : PosM := { cells := [1, 1, 1, 2, 2, 0, 0, 0, 0], hand0 := [3], hand1 := [3], turn := 1, quiet := 0 }
theorem sound_won : Sound threeR wonP := sound_of (by decide +kernel)
theorem result_won : resultM threeR wonP = 1 := by decide +kernel
theorem result_near : resultM threeR nearP = 0 := by decide +kernel
theorem open_moves {R : RulesM} {P : PosM} (h : resultM R P = 0) (ht : P.turn = 0 ∨ P.turn = 1) : 0 < (listM R P).length := by
  unfold resultM at h
  split at h
  · split at h <;> omega
  · unfold restM at h
    split at h
    · omega
    · split at h
      · assumption
      · split at h
        · omega
        · split at h <;> omega
end Go.Proofs.YtfkcigekbgkcmaaGreat
namespace Go.Proofs.YtfkcigekbgkcmaaGreat
open Go.ChangeShapes Go.WideShapes Go.ChangeAt Go.RowKit Go.Shelf
set_option linter.unusedVariables false
end Go.Proofs.YtfkcigekbgkcmaaGreat
namespace Go.Proofs.YtfkcigekbgkcmaaGreat
open Go.ChangeShapes Go.WideShapes Go.ChangeAt Go.RowKit Go.Shelf
set_option linter.unusedVariables false
set_option linter.unusedSimpArgs false
theorem near_score : scoreM threeR nearP 1 = 999 ∧ perftE threeR nearP 1 = 0 ∧ bestY threeR nearP 2 = (⟨-1, 2, 0⟩, 999) ∧ bestE threeR nearP 2 = 0 := by decide +kernel
theorem fine_ok2 {w : World} {g : Nat} (h : Blk w g 32 #[.int .i64 0, .int .i64 0]) : Calls Tryz.prog 21 #[.slice (some ⟨g, 0, none⟩) 2 2] w fun e w' => e = .returned (.bool true) ∧ Ext w w' :=
  fine_ext (fine_any (some ⟨g, 0, none⟩) 2 2 [0, 0] w rfl (by omega) (blk_ints h))
theorem fine_ok3 {w : World} {g : Nat} (h : Blk w g 32 #[.int .i64 0, .int .i64 0, .int .i64 0]) : Calls Tryz.prog 21 #[.slice (some ⟨g, 0, none⟩) 3 3] w fun e w' => e = .returned (.bool true) ∧ Ext w w' :=
  fine_ext (fine_any (some ⟨g, 0, none⟩) 3 3 [0, 0, 0] w rfl (by omega) (blk_ints h))
set_option maxHeartbeats 4000000 in
set_option maxRecDepth 100000 in
theorem scored_any (w : World) : Calls Tryz.prog 5 #[] w fun e w' => e = .returned (.bool true) ∧ Ext w w' := by
  have HA := hide (fun W (v1 v2 : Value) (h1 : RulesAt W v1 threeR) (h2 : PosAt W v2 nearP) => MScore_any threeR nearP v1 v2 1 W h1 h2)
  rw [near_score.1, near_score.2.1] at HA
  have HB := hide (fun W (v1 v2 : Value) (h1 : RulesAt W v1 threeR) (h2 : PosAt W v2 nearP) => MBest_any threeR nearP v1 v2 2 W h1 h2)
  rw [near_score.2.2.1, near_score.2.2.2] at HB
  go_enter Tryz.func5, Tryz.ntmps5
  go_wp2_with fail
  refine (three_any _).mono ?_
  rintro e w2 ⟨v1, rfl, h1, x⟩
  have X := x
  clear x
  go_wp2_with fail
  refine (near_any _).mono ?_
  rintro e w3 ⟨v2, rfl, h2, x⟩
  replace h1 := h1.ext x
  replace X := ext_trans X x
  clear x
  replace h2 := h2.at_
  go_wp2_with fail
  refine (HA.out _ _ _ h1 h2).mono ?_
  rintro e w4 ⟨rfl, x⟩
  replace h1 := h1.ext x
  replace h2 := h2.ext x
  replace X := ext_trans X x
  clear x
  clear h1 h2
  go_wp2_with fail
  refine (three_any _).mono ?_
  rintro e w5 ⟨v3, rfl, h3, x⟩
  replace X := ext_trans X x
  clear x
  go_wp2_with fail
  refine (near_any _).mono ?_
  rintro e w6 ⟨v4, rfl, h4, x⟩
  replace h3 := h3.ext x
  replace X := ext_trans X x
  clear x
  replace h4 := h4.at_
  go_wp2_with fail
  refine (HB.out _ _ _ h3 h4).mono ?_
  rintro e w7 ⟨rfl, x⟩
  replace h3 := h3.ext x
  replace h4 := h4.ext x
  replace X := ext_trans X x
  clear x
  clear h3 h4
  obtain ⟨xa, kM⟩ := blks1 w7 #[.int .i64 (-1), .int .i64 2, .int .i64 0] 46
  replace X := ext_trans X xa
  clear xa
  go_upto_region 3 with fail
  generalize (w7.alloc (.cells #[.int .i64 (-1), .int .i64 2, .int .i64 0] 46)) = w8 at *
  generalize w7.heap.size = BM at *
  have KM := hide kM
  have XB := hide X
  clear kM X HA HB
  have keepK := hide (fun W (h : Ext w8 W) => (show (fun W => W.cell? ⟨BM, 0, none⟩ = some (.int .i64 (-1)) ∧ W.cell? ⟨BM, 1, none⟩ = some (.int .i64 2) ∧ W.cell? ⟨BM, 2, none⟩ = some (.int .i64 0) ∧ Ext w8 W) W from ⟨(KM.out.ext h).cell 0, (KM.out.ext h).cell 1, (KM.out.ext h).cell 2, h⟩))
  have yy : Ext w8 w8.drew := Below.drew (Below.refl _ _)
  refine region_K (fun W => W.cell? ⟨BM, 0, none⟩ = some (.int .i64 (-1)) ∧ W.cell? ⟨BM, 1, none⟩ = some (.int .i64 2) ∧ W.cell? ⟨BM, 2, none⟩ = some (.int .i64 0) ∧ Ext w8 W) (fun _ => True) [] (by kernel_rfl) ?_
  have hT0 := keepK.out _ yy
  refine anyK_take 0 (oi := ?oo1) ?ho1 (by kernel_rfl) (by kernel_rfl) (by kernel_rfl) (by kernel_rfl) ?hq1 ?hw1 hT0 (fun _ => trivial) (v := ?vv1) ?hy1 ?hk1
  case ho1 => (simp only [List.getElem?_toArray, List.getElem?_cons_succ, List.getElem?_cons_zero]; rfl)
  case hq1 => exact fun _ _ _ h => h
  case hw1 => rfl
  case hy1 =>
    intro W hW
    go_simp
    first | done | with_reducible rfl
  case hk1 =>
  try simp only [Act.put, List.setIfInBounds_toArray, List.set_cons_zero, List.set_cons_succ]
  refine anyK_take 1 (oi := ?oo2) ?ho2 (by kernel_rfl) (by kernel_rfl) (by kernel_rfl) (by kernel_rfl) ?hq2 ?hw2 hT0 (fun _ => trivial) (v := ?vv2) ?hy2 ?hk2
  case ho2 => (simp only [List.getElem?_toArray, List.getElem?_cons_succ, List.getElem?_cons_zero]; rfl)
  case hq2 => exact fun _ _ _ h => h
  case hw2 => rfl
  case hy2 =>
    intro W hW
    go_simp
    first | done | with_reducible rfl
  case hk2 =>
  try simp only [Act.put, List.setIfInBounds_toArray, List.set_cons_zero, List.set_cons_succ]
  refine anyK_on1 2 (by kernel_rfl) ?_
  refine anyK_one 2 (o := ?oo3) ?ho3 ?hk3
  case ho3 => (simp only [List.getElem?_toArray, List.getElem?_cons_succ, List.getElem?_cons_zero]; rfl)
  case hk3 =>
  intro K hK
  go_simp
  have HKE := hide (Blk.new w8.drew 32 #[.int .i64 0, .int .i64 0])
  replace yy := ext_alloc yy (.cells #[.int .i64 0, .int .i64 0] 32)
  have hT1 := keepK.out _ yy
  refine hK.out _ _ hT1 (fun _ => trivial) ?_
  clear hK K
  try simp only [Act.put, List.setIfInBounds_toArray, List.set_cons_zero, List.set_cons_succ]
  refine anyK_on1 3 (by kernel_rfl) ?_
  refine anyK_one 3 (o := ?oo4) ?ho4 ?hk4
  case ho4 => (simp only [List.getElem?_toArray, List.getElem?_cons_succ, List.getElem?_cons_zero]; rfl)
  case hk4 =>
  intro K hK
  go_simp
  refine (fine_ok2 HKE.out).mono ?_
  rintro e we ⟨rfl, xx⟩
  try go_wp2_with fail
  replace yy := ext_trans yy xx
  have hT2 := keepK.out _ yy
  refine hK.out _ _ hT2 (fun _ => trivial) ?_
  clear hK K
  try simp only [Act.put, List.setIfInBounds_toArray, List.set_cons_zero, List.set_cons_succ]
  refine anyK_take 4 (oi := ?oo5) ?ho5 (by kernel_rfl) (by kernel_rfl) (by kernel_rfl) (by kernel_rfl) ?hq5 ?hw5 hT2 (fun _ => trivial) (v := ?vv5) ?hy5 ?hk5
  case ho5 => (simp only [List.getElem?_toArray, List.getElem?_cons_succ, List.getElem?_cons_zero]; rfl)
  case hq5 => exact fun _ _ _ h => h
  case hw5 => rfl
  case hy5 =>
    intro W hW
    go_simp
    first | done | with_reducible rfl
  case hk5 =>
  try simp only [Act.put, List.setIfInBounds_toArray, List.set_cons_zero, List.set_cons_succ]
  refine anyK_take 5 (oi := ?oo6) ?ho6 (by kernel_rfl) (by kernel_rfl) (by kernel_rfl) (by kernel_rfl) ?hq6 ?hw6 hT2 (fun _ => trivial) (v := ?vv6) ?hy6 ?hk6
  case ho6 => (simp only [List.getElem?_toArray, List.getElem?_cons_succ, List.getElem?_cons_zero]; rfl)
  case hq6 => exact fun _ _ _ h => h
  case hw6 => rfl
  case hy6 =>
    intro W hW
    go_simp
    first | done | with_reducible rfl
  case hk6 =>
  try simp only [Act.put, List.setIfInBounds_toArray, List.set_cons_zero, List.set_cons_succ]
  refine anyK_take 6 (oi := ?oo7) ?ho7 (by kernel_rfl) (by kernel_rfl) (by kernel_rfl) (by kernel_rfl) ?hq7 ?hw7 hT2 (fun _ => trivial) (v := ?vv7) ?hy7 ?hk7
  case ho7 => (simp only [List.getElem?_toArray, List.getElem?_cons_succ, List.getElem?_cons_zero]; rfl)
  case hq7 => exact fun _ _ _ h => h
  case hw7 => rfl
  case hy7 =>
    intro W hW
    go_simp
    first | done | with_reducible rfl
  case hk7 =>
  try simp only [Act.put, List.setIfInBounds_toArray, List.set_cons_zero, List.set_cons_succ]
  refine anyK_take 7 (oi := ?oo8) ?ho8 (by kernel_rfl) (by kernel_rfl) (by kernel_rfl) (by kernel_rfl) ?hq8 ?hw8 hT2 (fun _ => trivial) (v := ?vv8) ?hy8 ?hk8
  case ho8 => (simp only [List.getElem?_toArray, List.getElem?_cons_succ, List.getElem?_cons_zero]; rfl)
  case hq8 => exact fun _ _ _ h => h
  case hw8 => rfl
  case hy8 =>
    intro W hW
    go_simp
    first | done | with_reducible rfl
  case hk8 =>
  try simp only [Act.put, List.setIfInBounds_toArray, List.set_cons_zero, List.set_cons_succ]
  refine anyK_take 8 (oi := ?oo9) ?ho9 (by kernel_rfl) (by kernel_rfl) (by kernel_rfl) (by kernel_rfl) ?hq9 ?hw9 hT2 (fun _ => trivial) (v := ?vv9) ?hy9 ?hk9
  case ho9 => (simp only [List.getElem?_toArray, List.getElem?_cons_succ, List.getElem?_cons_zero]; rfl)
  case hq9 => exact fun _ _ _ h => h
  case hw9 => rfl
  case hy9 =>
    intro W hW
    go_simp
    first | done | with_reducible rfl
  case hk9 =>
  try simp only [Act.put, List.setIfInBounds_toArray, List.set_cons_zero, List.set_cons_succ]
  refine anyK_take 9 (oi := ?oo10) ?ho10 (by kernel_rfl) (by kernel_rfl) (by kernel_rfl) (by kernel_rfl) ?hq10 ?hw10 hT2 (fun _ => trivial) (v := ?vv10) ?hy10 ?hk10
  case ho10 => (simp only [List.getElem?_toArray, List.getElem?_cons_succ, List.getElem?_cons_zero]; rfl)
  case hq10 => exact fun _ _ _ h => h
  case hw10 => rfl
  case hy10 =>
    intro W hW
    obtain ⟨z0, z1, z2, z3⟩ := hW
    go_simp
    first | done | with_reducible rfl
  case hk10 =>
  try simp only [Act.put, List.setIfInBounds_toArray, List.set_cons_zero, List.set_cons_succ]
  refine anyK_on1 10 (by kernel_rfl) ?_
  refine anyK_one 10 (o := ?oo11) ?ho11 ?hk11
  case ho11 => (simp only [List.getElem?_toArray, List.getElem?_cons_succ, List.getElem?_cons_zero]; rfl)
  case hk11 =>
  intro K hK
  go_simp
  refine (put_any 2 _).mono ?_
  rintro e wp ⟨rfl, xx⟩
  try go_wp2_with fail
  replace yy := ext_trans yy xx
  have hT3 := keepK.out _ yy
  refine hK.out _ _ hT3 (fun _ => trivial) ?_
  clear hK K
  try simp only [Act.put, List.setIfInBounds_toArray, List.set_cons_zero, List.set_cons_succ]
  refine anyK_take 11 (oi := ?oo12) ?ho12 (by kernel_rfl) (by kernel_rfl) (by kernel_rfl) (by kernel_rfl) ?hq12 ?hw12 hT3 (fun _ => trivial) (v := ?vv12) ?hy12 ?hk12
  case ho12 => (simp only [List.getElem?_toArray, List.getElem?_cons_succ, List.getElem?_cons_zero]; rfl)
  case hq12 => exact fun _ _ _ h => h
  case hw12 => rfl
  case hy12 =>
    intro W hW
    go_simp
    first | done | with_reducible rfl
  case hk12 =>
  try simp only [Act.put, List.setIfInBounds_toArray, List.set_cons_zero, List.set_cons_succ]
  refine anyK_take 12 (oi := ?oo13) ?ho13 (by kernel_rfl) (by kernel_rfl) (by kernel_rfl) (by kernel_rfl) ?hq13 ?hw13 hT3 (fun _ => trivial) (v := ?vv13) ?hy13 ?hk13
  case ho13 => (simp only [List.getElem?_toArray, List.getElem?_cons_succ, List.getElem?_cons_zero]; rfl)
  case hq13 => exact fun _ _ _ h => h
  case hw13 => rfl
  case hy13 =>
    intro W hW
    go_simp
    first | done | with_reducible rfl
  case hk13 =>
  try simp only [Act.put, List.setIfInBounds_toArray, List.set_cons_zero, List.set_cons_succ]
  refine anyK_take 13 (oi := ?oo14) ?ho14 (by kernel_rfl) (by kernel_rfl) (by kernel_rfl) (by kernel_rfl) ?hq14 ?hw14 hT3 (fun _ => trivial) (v := ?vv14) ?hy14 ?hk14
  case ho14 => (simp only [List.getElem?_toArray, List.getElem?_cons_succ, List.getElem?_cons_zero]; rfl)
  case hq14 => exact fun _ _ _ h => h
  case hw14 => rfl
  case hy14 =>
    intro W hW
    go_simp
    first | done | with_reducible rfl
  case hk14 =>
  try simp only [Act.put, List.setIfInBounds_toArray, List.set_cons_zero, List.set_cons_succ]
  refine anyK_take 14 (oi := ?oo15) ?ho15 (by kernel_rfl) (by kernel_rfl) (by kernel_rfl) (by kernel_rfl) ?hq15 ?hw15 hT3 (fun _ => trivial) (v := ?vv15) ?hy15 ?hk15
  case ho15 => (simp only [List.getElem?_toArray, List.getElem?_cons_succ, List.getElem?_cons_zero]; rfl)
  case hq15 => exact fun _ _ _ h => h
  case hw15 => rfl
  case hy15 =>
    intro W hW
    go_simp
    first | done | with_reducible rfl
  case hk15 =>
  try simp only [Act.put, List.setIfInBounds_toArray, List.set_cons_zero, List.set_cons_succ]
  refine anyK_take 15 (oi := ?oo16) ?ho16 (by kernel_rfl) (by kernel_rfl) (by kernel_rfl) (by kernel_rfl) ?hq16 ?hw16 hT3 (fun _ => trivial) (v := ?vv16) ?hy16 ?hk16
  case ho16 => (simp only [List.getElem?_toArray, List.getElem?_cons_succ, List.getElem?_cons_zero]; rfl)
  case hq16 => exact fun _ _ _ h => h
  case hw16 => rfl
  case hy16 =>
    intro W hW
    go_simp
    first | done | with_reducible rfl
  case hk16 =>
  try simp only [Act.put, List.setIfInBounds_toArray, List.set_cons_zero, List.set_cons_succ]
  refine anyK_take 16 (oi := ?oo17) ?ho17 (by kernel_rfl) (by kernel_rfl) (by kernel_rfl) (by kernel_rfl) ?hq17 ?hw17 hT3 (fun _ => trivial) (v := ?vv17) ?hy17 ?hk17
  case ho17 => (simp only [List.getElem?_toArray, List.getElem?_cons_succ, List.getElem?_cons_zero]; rfl)
  case hq17 => exact fun _ _ _ h => h
  case hw17 => rfl
  case hy17 =>
    intro W hW
    go_simp
    first | done | with_reducible rfl
  case hk17 =>
  try simp only [Act.put, List.setIfInBounds_toArray, List.set_cons_zero, List.set_cons_succ]
  refine anyK_take 17 (oi := ?oo18) ?ho18 (by kernel_rfl) (by kernel_rfl) (by kernel_rfl) (by kernel_rfl) ?hq18 ?hw18 hT3 (fun _ => trivial) (v := ?vv18) ?hy18 ?hk18
  case ho18 => (simp only [List.getElem?_toArray, List.getElem?_cons_succ, List.getElem?_cons_zero]; rfl)
  case hq18 => exact fun _ _ _ h => h
  case hw18 => rfl
  case hy18 =>
    intro W hW
    go_simp
    first | done | with_reducible rfl
  case hk18 =>
  try simp only [Act.put, List.setIfInBounds_toArray, List.set_cons_zero, List.set_cons_succ]
  refine anyK_done (by kernel_rfl) ?_ _
  clear keepK hT0 hT1 hT2 hT3
  go_wp2
  go_ret
  exact ⟨rfl, ext_trans XB.out yy⟩
end Go.Proofs.YtfkcigekbgkcmaaGreat
