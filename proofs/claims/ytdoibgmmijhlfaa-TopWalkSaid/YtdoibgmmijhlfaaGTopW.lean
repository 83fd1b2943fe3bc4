/- Walks: the samples of gamehalltop. What sampled games say of a move that ends the game, and of the best move. No walk. Walk: no row of sampled games has more visits. -/
import Derived.Test.YtdoibgmmijhlfaaGSamples
import Derived.Test.YtdoibgmmijhlfaaGSmall
import Derived.Test.YtdoibgmmijhlfaaGRowP
import Derived.Test.YtdoibgmmijhlfaaGPerft
import Derived.Test.YtdoibgmmijhlfaaGWalkC
import Derived.Test.YtdoibgmmijhlfaaGMini
import Derived.Test.YtdoibgmmijhlfaaGBase
namespace Go.Proofs.Ytdoibgmmijhlfaa
open Go.ChangeShapes Go.WideShapes Go.ChangeAt Go.RowKit Go.Shelf
set_option linter.unusedVariables false
set_option linter.unusedSimpArgs false
def bheavyB (R : RulesM) (P : PosM) (D : Int) : Bool := perftE R P D == 17 || decide (2000 < perftN R P D) || decide ((16 : Int) < (P.cells.length : Int))
set_option maxHeartbeats 4000000 in
set_option maxRecDepth 100000 in
theorem bheavy_any (R : RulesM) (P : PosM) (v u : Value) (D : Int) (w : World) (hR : RulesAt w v R) (hP : PosAt w u P) :
    Calls Try.prog 11 #[v, u, .int .i64 D] w fun e w' => e = .returned (.bool (bheavyB R P D)) ∧ Ext w w' := by
  have HV := hide (show bheavyB R P D = (perftE R P D == 17 || decide (2000 < perftN R P D) || decide ((16 : Int) < (P.cells.length : Int))) from rfl)
  have HT := hide (fun W (v1 v2 : Value) (h1 : RulesAt W v1 R) (h2 : PosAt W v2 P) => PfTree_any R P v1 v2 D W h1 h2)
  have hR0 := hR
  have hP0 := hP
  obtain ⟨pA, pc, sA, sc, eA, ec, rfl, -⟩ := hR0
  obtain ⟨cA, cc, aA, ac, bA, bc, rfl, -⟩ := hP0
  generalize perftE R P D = E at *
  generalize perftN R P D = N at *
  generalize bheavyB R P D = B at *
  go_enter Try.func11, Try.ntmps11
  go_wp2_with fail
  obtain ⟨xa, kR, kP⟩ := blks2 w #[.string R.name, .int .i64 R.width, .int .i64 R.height, .slice pA R.pieces.length pc, .slice sA R.start.length sc, .bool R.falls, .bool R.keeps, .slice eA R.ends.length ec, .int .i64 R.blocked, .int .i64 R.quiet, .int .i64 R.rept] 26 #[.slice cA P.cells.length cc, .slice aA P.hand0.length ac, .slice bA P.hand1.length bc, .int .i64 P.turn, .int .i64 P.quiet] 29
  replace hR := hR.ext xa
  replace hP := hP.ext xa
  have X := xa
  clear xa
  generalize ((w.alloc (.cells #[.string R.name, .int .i64 R.width, .int .i64 R.height, .slice pA R.pieces.length pc, .slice sA R.start.length sc, .bool R.falls, .bool R.keeps, .slice eA R.ends.length ec, .int .i64 R.blocked, .int .i64 R.quiet, .int .i64 R.rept] 26)).alloc (.cells #[.slice cA P.cells.length cc, .slice aA P.hand0.length ac, .slice bA P.hand1.length bc, .int .i64 P.turn, .int .i64 P.quiet] 29)) = w2 at *
  generalize w.heap.size + 1 = BP at *
  generalize w.heap.size = BR at *
  have fR := kR.cell
  have fP := kP.cell
  go_wp2_with fail
  refine (HT.out _ _ _ hR hP).mono ?_
  rintro e w3 ⟨rfl, x⟩
  replace hR := hR.ext x
  replace hP := hP.ext x
  replace kR := kR.ext x
  replace kP := kP.ext x
  replace X := ext_trans X x
  replace fR := kR.cell
  replace fP := kP.cell
  clear x
  cases t0 : (E == 17)
  · cases t1 : decide (2000 < N)
    · cases t2 : decide ((16 : Int) < (P.cells.length : Int))
      · go_wp2
        go_ret
        exact ⟨by rw [HV.out, t0, t1, t2]; rfl, X⟩
      · go_wp2
        go_ret
        exact ⟨by rw [HV.out, t0, t1, t2]; rfl, X⟩
    · go_wp2
      go_ret
      exact ⟨by rw [HV.out, t0, t1]; rfl, X⟩
  · go_wp2
    go_ret
    exact ⟨by rw [HV.out, t0]; rfl, X⟩

theorem near_tree : perftN threeR nearP 1 = 6 := by decide +kernel
set_option maxHeartbeats 4000000 in
set_option maxRecDepth 100000 in
theorem bscored_any (w : World) : Calls Try.prog 9 #[] w fun e w' => e = .returned (.bool true) ∧ Ext w w' := by
  have HA := hide (fun W (v1 v2 : Value) (h1 : RulesAt W v1 threeR) (h2 : PosAt W v2 nearP) => MScore_any threeR nearP v1 v2 1 W h1 h2)
  rw [near_score.1, near_score.2.1] at HA
  have HB := hide (fun W (v1 v2 : Value) (h1 : RulesAt W v1 threeR) (h2 : PosAt W v2 nearP) => PfTree_any threeR nearP v1 v2 1 W h1 h2)
  rw [near_tree, near_score.2.1] at HB
  have HC := hide (fun W (v1 v2 : Value) (h1 : PosAt W v1 nearP) (h2 : PosAt W v2 nearP) => PSame_yes nearP v1 v2 W h1 h2 (by decide) (by decide) (by decide))
  go_enter Try.func9, Try.ntmps9
  go_wp2_with fail
  refine (three_any _).mono ?_
  rintro e w2 ⟨v1, rfl, h1, x⟩
  have X := x
  clear x
  go_wp2_with fail
  refine (near_any _).mono ?_
  rintro e w3 ⟨v2, rfl, h2, x⟩
  replace h1 := h1.ext x
  replace X := ext_trans X x
  clear x
  replace h2 := h2.at_
  go_wp2_with fail
  refine (HA.out _ _ _ h1 h2).mono ?_
  rintro e w4 ⟨rfl, x⟩
  replace h1 := h1.ext x
  replace h2 := h2.ext x
  replace X := ext_trans X x
  clear x
  clear h1 h2
  clear HA
  go_wp2_with fail
  refine (three_any _).mono ?_
  rintro e w5 ⟨v3, rfl, h3, x⟩
  replace X := ext_trans X x
  clear x
  go_wp2_with fail
  refine (near_any _).mono ?_
  rintro e w6 ⟨v4, rfl, h4, x⟩
  replace h3 := h3.ext x
  replace X := ext_trans X x
  clear x
  replace h4 := h4.at_
  go_wp2_with fail
  refine (HB.out _ _ _ h3 h4).mono ?_
  rintro e w7 ⟨rfl, x⟩
  replace h3 := h3.ext x
  replace h4 := h4.ext x
  replace X := ext_trans X x
  clear x
  clear h3 h4
  clear HB
  obtain ⟨xa, kE⟩ := blks1 w7 #[.int .i64 0, .int .i64 0] 31
  replace X := ext_trans X xa
  clear xa
  go_wp2_with fail
  generalize (w7.alloc (.cells #[.int .i64 0, .int .i64 0] 31)) = w8 at *
  generalize w7.heap.size = BE at *
  refine (fine_ext (fine_any (some ⟨BE, 0, none⟩) 2 2 [0, 0] _ rfl (by omega) (blk_ints kE))).mono ?_
  rintro e w9 ⟨rfl, x⟩
  replace kE := kE.ext x
  replace X := ext_trans X x
  clear x
  rw [show allZero [0, 0] = true from rfl]
  clear kE
  go_wp2_with fail
  refine (near_any _).mono ?_
  rintro e w10 ⟨v5, rfl, h5, x⟩
  replace X := ext_trans X x
  clear x
  replace h5 := h5.at_
  go_wp2_with fail
  refine (near_any _).mono ?_
  rintro e w11 ⟨v6, rfl, h6, x⟩
  replace h5 := h5.ext x
  replace X := ext_trans X x
  clear x
  replace h6 := h6.at_
  go_wp2_with fail
  refine (HC.out _ _ _ h5 h6).mono ?_
  rintro e w12 ⟨rfl, x⟩
  replace h5 := h5.ext x
  replace h6 := h6.ext x
  replace X := ext_trans X x
  clear x
  clear h5 h6
  clear HC
  go_wp2
  all_goals go_ret
  all_goals exact ⟨by first | rfl | simp, X⟩
end Go.Proofs.Ytdoibgmmijhlfaa
namespace Go.Proofs.Ytdoibgmmijhlfaa
set_option linter.unusedVariables false
/-- A node whose position is over: each visit gives the same points. -/
def OverOk (R : RulesM) (k : NT) : Prop := resultM R k.pos ≠ 0 → k.b = pointsW k.pos (resultM R k.pos) * k.a
theorem run_over {R : RulesM} {s : Int} {P : PosM} (hV : Valid R) (hS : Sound R P) (hr : resultM R P = 0) : ∀ (i x : Nat) (k : NT), (runW R s P i).1.kids[x]? = some k → OverOk R k
  | 0, x, k, h => by
    have hk' : k ∈ (growW R (.node P 1 0 false [])).kids := List.mem_of_getElem? h
    have hk2 : k ∈ kidsW R P := by
      unfold growW at hk'
      rw [if_pos (show (NT.node P 1 0 false []).kids = [] from rfl)] at hk'
      exact hk'
    unfold kidsW at hk2
    obtain ⟨m, -, rfl⟩ := List.mem_map.1 hk2
    intro _
    show (0 : Int) = _ * (0 : Int)
    rw [Int.mul_zero]
  | i + 1, x, k, h => by
    obtain ⟨h1, h2, h3⟩ := run_inv (s := s) hV hS hr i
    have hne : (runW R s P i).1.kids ≠ [] := fun e => by
      rw [e] at h3
      exact list_ne hS hr (List.eq_nil_of_length_eq_zero h3.symm)
    have hg : growW R (runW R s P i).1 = (runW R s P i).1 := by unfold growW; rw [if_neg hne]
    have e : (runW R s P (i + 1)).1 = (stepW R s (19999 + 1) true (runW R s P i).1 (runW R s P i).2).1 := rfl
    rw [stepW_open (by rw [h2]; exact hr) (.inl rfl), hg] at e
    rw [e] at h
    have ih := run_over (s := s) hV hS hr i
    have hc := choose_lt hne
    generalize runW R s P i = T at *
    have h' : (T.1.kids.set (chooseW T.1) (stepW R s (19998 + 1) false (T.1.kids.getD (chooseW T.1) NT.nil) T.2).1)[x]? = some k := h
    rw [List.getElem?_set] at h'
    by_cases hx : chooseW T.1 = x
    · rw [if_pos hx] at h'
      subst hx
      rw [if_pos hc] at h'
      have hk := Option.some.inj h'
      have ho := ih _ _ (getD_get' hc)
      have hp := (step_node (R := R) (s := s) 19998 false (T.1.kids.getD (chooseW T.1) NT.nil) T.2).1
      generalize T.1.kids.getD (chooseW T.1) NT.nil = q at *
      intro hres
      have hqr : resultM R q.pos ≠ 0 := by rw [← hp, hk]; exact hres
      rw [stepW_over hqr] at hk
      rw [← hk]
      show q.b + _ = pointsW q.pos (resultM R q.pos) * (q.a + 1)
      rw [ho hqr, Int.mul_add, Int.mul_one]
    · rw [if_neg hx] at h'
      exact ih x k h'
theorem pos_kid {R : RulesM} {s : Int} {P : PosM} (hV : Valid R) (hS : Sound R P) (hr : resultM R P = 0) {n i : Nat} {x : WMov} (h : (walkM R s P n)[i]? = some x) :
    x.m ∈ listM R P ∧ (ofM R 0 (makeM R P x.m) = -1000 → x.p = 2 * x.v) ∧ (ofM R 0 (makeM R P x.m) = 1000 → x.p = 0) := by
  obtain ⟨h1, h2, h3⟩ := run_inv (s := s) hV hS hr n
  obtain ⟨hi, rfl⟩ := walkM_get h
  have hm : (listM R P)[i]? = some ((listM R P).getD i ⟨0, 0, 0⟩) := by
    rw [List.getD_eq_getElem?_getD, List.getElem?_eq_getElem hi]; rfl
  have hk : (runW R s P n).1.kids[i]? = some ((runW R s P n).1.kids.getD i NT.nil) := getD_get' (by omega)
  have hpos := h1.kpos i _ _ hk (by rw [h2]; exact hm)
  have ho := run_over (s := s) hV hS hr n i _ hk
  rw [h2] at hpos
  refine ⟨List.mem_of_getElem? hm, ?_⟩
  show (ofM R 0 (makeM R P ((listM R P).getD i ⟨0, 0, 0⟩)) = -1000 → ((runW R s P n).1.kids.getD i NT.nil).b = 2 * ((runW R s P n).1.kids.getD i NT.nil).a) ∧ (ofM R 0 (makeM R P ((listM R P).getD i ⟨0, 0, 0⟩)) = 1000 → ((runW R s P n).1.kids.getD i NT.nil).b = 0)
  generalize (runW R s P n).1.kids.getD i NT.nil = k at *
  generalize (listM R P).getD i ⟨0, 0, 0⟩ = m at *
  rw [← hpos]
  have e : ofM R 0 k.pos = if resultM R k.pos = 0 then 0 else overM k.pos (resultM R k.pos) := rfl
  rw [e]
  unfold OverOk at ho
  by_cases hz : resultM R k.pos = 0
  · rw [if_pos hz]
    exact ⟨fun h => by omega, fun h => by omega⟩
  · rw [if_neg hz]
    have ho := ho hz
    unfold overM
    unfold pointsW at ho
    refine ⟨fun h => ?_, fun h => ?_⟩
    · split at h
      · omega
      · split at h
        · next hx => rw [if_pos hx] at ho; exact ho
        · omega
    · split at h
      · next hx =>
        have hq := h1.kid i k hk
        have ht := hq.sound.turn
        rw [if_neg (by omega), if_neg (by omega)] at ho
        omega
      · split at h <;> omega
theorem more_v (b x : WMov) : b.v ≤ (moreW b x).v ∧ x.v ≤ (moreW b x).v ∧ (moreW b x = b ∨ moreW b x = x) := by
  unfold moreW
  split
  · exact ⟨by omega, by omega, .inr rfl⟩
  · exact ⟨by omega, by omega, .inl rfl⟩
theorem fold_max : ∀ (L : List WMov) (a : WMov), a.v ≤ (L.foldl moreW a).v ∧ (∀ x ∈ L, x.v ≤ (L.foldl moreW a).v) ∧ (L.foldl moreW a = a ∨ L.foldl moreW a ∈ L)
  | [], a => ⟨Int.le_refl _, fun x h => absurd h List.not_mem_nil, .inl rfl⟩
  | y :: L, a => by
    obtain ⟨h1, h2, h3⟩ := fold_max L (moreW a y)
    obtain ⟨g1, g2, g3⟩ := more_v a y
    rw [List.foldl_cons]
    refine ⟨by omega, fun x hx => ?_, ?_⟩
    · rcases List.mem_cons.1 hx with rfl | hx
      · omega
      · exact h2 x hx
    · rcases h3 with h3 | h3
      · rw [h3]
        rcases g3 with g3 | g3
        · exact .inl g3
        · exact .inr (by rw [g3]; exact List.mem_cons_self ..)
      · exact .inr (List.mem_cons_of_mem _ h3)
theorem best_in {L : List WMov} (h : 0 < L.length) : bestWL L ∈ L ∧ ∀ x ∈ L, x.v ≤ (bestWL L).v := by
  obtain ⟨h1, h2, h3⟩ := fold_max L (L.getD 0 ⟨⟨0, 0, 0⟩, 0, 0⟩)
  refine ⟨?_, h2⟩
  rcases h3 with h3 | h3
  · unfold bestWL
    rw [h3, List.getD_eq_getElem?_getD, List.getElem?_eq_getElem h]
    exact List.getElem_mem h
  · exact h3
theorem ltM_irr (m : MoveM) : ¬ ltM m m := fun h => by have := ltM_iff.1 h; omega
/-- A row's move stands once: whoever has the best one's move is the best one. -/
theorem best_once {R : RulesM} {s : Int} {P : PosM} {n i : Nat} {x : WMov} (hst : Strict (listM R P)) (h : (walkM R s P n)[i]? = some x) (hm : x.m = (bestWL (walkM R s P n)).m) : ∀ y ∈ walkM R s P n, y.v ≤ x.v := by
  have hl : 0 < (walkM R s P n).length := by
    have := (List.getElem?_eq_some_iff.1 h).1
    omega
  obtain ⟨h1, h2⟩ := best_in hl
  obtain ⟨j, hj⟩ := List.getElem?_of_mem h1
  obtain ⟨hi, ei⟩ := walkM_get h
  obtain ⟨hjl, ej⟩ := walkM_get hj
  have e1 : (listM R P)[i]? = some x.m := by rw [ei]; show _ = some ((listM R P).getD i ⟨0, 0, 0⟩); rw [List.getD_eq_getElem?_getD, List.getElem?_eq_getElem hi]; rfl
  have e2 : (listM R P)[j]? = some (bestWL (walkM R s P n)).m := by rw [ej]; show _ = some ((listM R P).getD j ⟨0, 0, 0⟩); rw [List.getD_eq_getElem?_getD, List.getElem?_eq_getElem hjl]; rfl
  have hij : i = j := by
    refine Classical.byContradiction fun hne => ?_
    rw [hm] at e1
    have a1 := List.getElem?_eq_some_iff.1 e1
    have a2 := List.getElem?_eq_some_iff.1 e2
    obtain ⟨b1, c1⟩ := a1
    obtain ⟨b2, c2⟩ := a2
    rcases Nat.lt_or_gt_of_ne hne with h | h
    · have := List.pairwise_iff_getElem.1 hst i j b1 b2 h
      rw [c1, c2] at this
      exact ltM_irr _ this
    · have := List.pairwise_iff_getElem.1 hst j i b2 b1 h
      rw [c1, c2] at this
      exact ltM_irr _ this
  subst hij
  rw [h] at hj
  rw [Option.some.inj hj]
  exact h2
theorem near_best60 : runE threeR nearP 5 60 = 0 ∧ ((bestWL (walkM threeR 5 nearP 60)).m.src = -1 ∧ (bestWL (walkM threeR 5 nearP 60)).m.dst = 2 ∧ (bestWL (walkM threeR 5 nearP 60)).m.piece = 0) := by decide +kernel
end Go.Proofs.Ytdoibgmmijhlfaa
namespace Go.Proofs.Ytdoibgmmijhlfaa
open Go.ChangeShapes Go.WideShapes Go.ChangeAt Go.RowKit Go.Shelf
set_option linter.unusedVariables false
set_option linter.unusedSimpArgs false
theorem more1_no (x : WMov) (BW : Nat) (xv : Int) (w : World) (h : w.cell? ⟨BW, 3, none⟩ = some (.int .i64 xv)) (hle : x.v ≤ xv) :
    Calls Try.prog 16 #[.agg #[.int .i64 x.m.src, .int .i64 x.m.dst, .int .i64 x.m.piece, .int .i64 x.v, .int .i64 x.p], .pointer (some ⟨BW, 0, none⟩)] w fun e w' => e = .returned (.bool false) ∧ Ext w w' := by
  obtain ⟨x1, k1⟩ := blks1 w #[.int .i64 x.m.src, .int .i64 x.m.dst, .int .i64 x.m.piece, .int .i64 x.v, .int .i64 x.p] 39
  have t0 : decide (xv < x.v) = false := decide_eq_false (by omega)
  have f := k1.cell
  have g := x1.cell h
  have HX := hide x1
  clear k1 x1 h hle
  go_enter Try.func16, Try.ntmps16
  go_wp2
  go_ret
  exact ⟨rfl, HX.out⟩
set_option maxHeartbeats 4000000 in
set_option maxRecDepth 100000 in
theorem moreIdx_no (A : Option Addr) (c : Nat) (L : List WMov) (BW : Nat) (xv : Int) (w : World) (hl : L.length ≤ 1000000) (hc : CellsAt w A (L.flatMap WMov.vals)) (hall : ∀ y ∈ L, y.v ≤ xv) (hx : w.cell? ⟨BW, 3, none⟩ = some (.int .i64 xv)) :
    Calls Try.prog 46 #[.slice A L.length c, .func (.func 16) #[] #[.pointer (some ⟨BW, 0, none⟩)]] w fun e w' => e = .returned (.int .i64 (-1)) ∧ Ext w w' := by
  have HC := hide hc
  have HALL := hide hall
  have HX := hide hx
  obtain ⟨n, hn⟩ : ∃ n, n = L.length := ⟨_, rfl⟩
  have HN := hide hn
  rw [← hn] at hl ⊢
  clear hc hall hx hn
  go_enter Try.func46, Try.ntmps46
  go_wp2_with fail
  go_loopw [8] (fun i wr => ∃ k : Nat, k ≤ n ∧ i = .int .i64 k ∧ Ext w wr) (fun i _ => n - (intOf i).toNat)
  case atStart => exact ⟨0, Nat.zero_le _, rfl, Below.refl _ _⟩
  case round =>
    obtain ⟨k, hk, rfl, hxr⟩ := hrel
    have XR := hide hxr
    by_cases hlt : k < n
    · obtain ⟨y, hy⟩ : ∃ y, L[k]? = some y := ⟨_, List.getElem?_eq_getElem (by rw [← HN.out]; exact hlt)⟩
      obtain ⟨b, o, rfl, c0, c1, c2, c3, c4⟩ := wm_get (HC.out.ext hxr) hy
      have HM := hide (fun W (hW : Ext wr W) => more1_no y BW xv W ((ext_trans XR.out hW).cell HX.out) (HALL.out y (List.mem_of_getElem? hy)))
      have i0 : (0 : Int) ≤ (k : Int) := by omega
      have i1 : (k : Int) < (n : Int) := by omega
      clear hy hxr
      go_wp2_with fail
      refine (HM.out _ (Below.refl _ _)).mono ?_
      rintro e w2 ⟨rfl, x2⟩
      have X2 := hide (ext_trans XR.out x2)
      clear x2 c0 c1 c2 c3 c4
      go_wp2
      go_roundw
      case rel => exact ⟨k + 1, by omega, by go_num, X2.out⟩
      case measure => simp [intOf]; omega
    · obtain rfl : k = n := by omega
      clear hxr
      go_wp2
      go_ret
      exact ⟨rfl, XR.out⟩
theorem more_no (A : Option Addr) (c : Nat) (L : List WMov) (BW : Nat) (xv : Int) (w : World) (hl : L.length ≤ 1000000) (hc : CellsAt w A (L.flatMap WMov.vals)) (hall : ∀ y ∈ L, y.v ≤ xv) (hx : w.cell? ⟨BW, 3, none⟩ = some (.int .i64 xv)) :
    Calls Try.prog 15 #[.slice A L.length c, .func (.func 16) #[] #[.pointer (some ⟨BW, 0, none⟩)]] w fun e w' => e = .returned (.bool false) ∧ Ext w w' := by
  have HM := hide (moreIdx_no A c L BW xv w hl hc hall hx)
  clear hl hc hall hx
  generalize L.length = n at *
  go_enter Try.func15, Try.ntmps15
  go_wp2_with fail
  refine HM.out.mono ?_
  rintro e w2 ⟨rfl, x2⟩
  have X2 := hide x2
  clear x2
  go_wp2
  go_ret
  exact ⟨rfl, X2.out⟩
end Go.Proofs.Ytdoibgmmijhlfaa
