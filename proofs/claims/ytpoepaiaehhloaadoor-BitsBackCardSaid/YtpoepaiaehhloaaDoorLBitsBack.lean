/- Walk: the law BitsBack. -/
import Derived.DataShut
import Derived.BigFrame
import Derived.Stop.RegionWithIn
import Derived.Test.YtpoepaiaehhloaaDoorOf
import Derived.Test.YtpoepaiaehhloaaDoorEqInts
namespace Go.Proofs.YtpoepaiaehhloaaDoor
open Go.RowKit Go.Shelf
set_option linter.unusedVariables false
attribute [local go_sem] Oper.semAt_some
theorem count_513b (w : World) : Calls Tryd.prog 13 #[.int .u64 513] w fun e w' => e = .returned (.int .i64 2) ∧ w = w' := by
  have h := count_any 513 (by omega) w
  rw [show pop 64 513 = 2 by decide +kernel] at h
  exact h
theorem list_513 (w : World) (hT : Tab w) : Calls Tryd.prog 11 #[.int .u64 513] w fun e w' => ∃ A c, e = .returned (.slice A 2 c) ∧ IntsAt w' A [0, 9] ∧ Below w.heap.size w w' := by
  refine (list_ints 513 (by omega) w hT).mono ?_
  rintro e w' ⟨A, c, rfl, h, _, _, hB⟩
  rw [show zsq 513 = [0, 9] by decide +kernel] at h
  rw [show (sqs 513).length = 2 by decide +kernel]
  exact ⟨A, c, rfl, h, hB⟩
/-- A way that does not end. -/
def onlyNormal (Q : Exit → Act → World → Prop) : Exit → Act → World → Prop
  | .normal, a, w => Q .normal a w
  | _, _, _ => False
theorem onlyNormal_le {Q : Exit → Act → World → Prop} (e : Exit) (a : Act) (w : World) (h : onlyNormal Q e a w) : Q e a w := by
  cases e <;> first | exact h | exact h.elim
theorem below_next {n : Nat} {w W W' : World} (hn : n = w.heap.size) (h : Below n w W) (h' : Below W.heap.size W W') : Below n w W' := h.trans (h'.mono (by subst hn; exact h.size))
theorem run_minB (W : World) (ats : Array TypeId) (ty : TypeId) (k n : Nat) : (Builtin.min_ ats ty #[.int .i64 (k : Int), .int .i64 (n : Int)]).run Tryd.prog W = .ok (.int .i64 ((min k n : Nat) : Int)) W := by
  by_cases h : (n : Int) < k
  · simp [Builtin.min_, Builtin.min2, h]; omega
  · simp [Builtin.min_, Builtin.min2, h]; omega
theorem ints_take {W : World} {A : Option Addr} {zs : List Int} (h : IntsAt W A zs) (m : Nat) : IntsAt W A (zs.take m) := fun i hi => by
  have hl : i < zs.length := by rw [List.length_take] at hi; omega
  obtain ⟨g, o, h1, h2⟩ := h i hl
  refine ⟨g, o, h1, ?_⟩
  rw [h2]
  have hm : i < m := by rw [List.length_take] at hi; omega
  simp [List.getD, hm]
set_option maxHeartbeats 4000000 in
set_option maxRecDepth 100000 in
theorem bitsBack_law (b : Nat) (hb : b < 18446744073709551616) (w : World) (hT : Tab w) : Calls Tryd.prog 6 #[.int .u64 (b : Int)] w fun e w' => e = .returned (.bool true) ∧ Below w.heap.size w w' := by
  obtain ⟨i0, hi, hz0, hz1, hz2⟩ := info_parts info_int
  have HB := Lib.hid hb
  have HT := Lib.hid hT
  have HC := Lib.hid (fun W => count_any b hb W)
  have HL := Lib.hid (fun W hW => list_ints b hb W hW)
  have HO := Lib.hid (fun A c W h => of_any b hb A c W h)
  have hn64 := pop_le b
  rw [pop_sqs] at HC hn64
  obtain ⟨n, hn⟩ : ∃ n, n = (sqs b).length := ⟨_, rfl⟩
  rw [← hn] at HC HL HO hn64
  have HN := Lib.hid hn
  have HN64 := Lib.hid hn64
  clear hb hT hn hn64
  refine (callsIn_wide (n := 3)).1 ?_
  refine callsIn_of_wp_marks Tryd.func6 rfl trivial ?_ rfl
  simp only [Tryd.ntmps6, List.size_toArray, List.length_cons, List.length_nil, Nat.reduceAdd, Nat.reduceSub, Array.replicate_succ, Array.replicate_zero, List.push_toArray, List.append_toArray, List.nil_append, List.cons_append]
  gi_wp2
  refine ⟨trivial, (callsIn_wide.2 (count_513b _)).mono ?_⟩
  rintro e w' ⟨rfl, rfl⟩
  gi_wp2
  refine ⟨trivial, (callsIn_wide.2 (list_513 _ HT.out)).mono ?_⟩
  rintro e w1 ⟨A1, c1, rfl, h1, hb1⟩
  have H1 := Lib.hid h1
  have HB1 := Lib.hid hb1
  clear h1 hb1
  gi_wp2
  refine ⟨trivial, (callsIn_wide.2 (EqInts_any A1 (some ⟨w1.heap.size, 0, none⟩) 2 2 c1 2 [0, 9] [0, 9] _ rfl rfl (by omega) (by omega) (H1.out.ext (ext_alloc (Below.refl _ _) _)) (intsAt_new w1 _ [0, 9]))).mono ?_⟩
  rintro e w2 ⟨rfl, q, rfl⟩
  have hb2 : Below w.heap.size w ((w1.alloc (.cells #[.int .i64 0, .int .i64 9] 3)).drewN q) := below_drewN (HB1.out.alloc HB1.out.size _) q
  gi_wp2
  generalize (w1.alloc (.cells #[.int .i64 0, .int .i64 9] 3)).drewN q = w2 at *
  have HB2 := Lib.hid hb2
  have HT2 := Lib.hid (tab_below HT.out HT.out.1 hb2)
  clear hb2 H1 HB1
  refine ⟨trivial, (callsIn_wide.2 (HL.out _ HT2.out)).mono ?_⟩
  rintro e w3 ⟨A, c, rfl, hA, hc, hnone, hb3⟩
  have hb3' : Below w.heap.size w w3 := below_next rfl HB2.out hb3
  have HB3 := Lib.hid hb3'
  have HT3 := Lib.hid (tab_below HT2.out HT2.out.1 hb3)
  have HA := Lib.hid hA
  have HCC := Lib.hid hc
  have HNONE := Lib.hid hnone
  clear hA hb3 hb3' hnone hc
  have t0 : ((b : Int) != (b : Int)) = false := by simp
  have t1 : ((n : Int) != (n : Int)) = false := by simp
  gi_wp2
  refine ⟨trivial, (callsIn_wide.2 (HO.out _ _ _ HA.out)).mono ?_⟩
  rintro e w4 ⟨rfl, rfl⟩
  gi_wp2
  refine ⟨trivial, (callsIn_wide.2 (HC.out _)).mono ?_⟩
  rintro e w4 ⟨rfl, rfl⟩
  gi_wp2
  refine ⟨trivial, (all_in _ _ _).mono ?_⟩
  rintro e w4 ⟨rfl, rfl⟩
  have bO := (Boxed.new w3 28 (.slice none 0 0)).alloc (.cells #[.int .u64 (b : Int)] 22)
  have bN := Boxed.new (w3.alloc (.cells #[.slice none 0 0] 28)) 22 (.int .u64 (b : Int))
  rw [World.size_alloc] at bN
  have hB0 : Below w3.heap.size w3 ((w3.alloc (.cells #[.slice none 0 0] 28)).alloc (.cells #[.int .u64 (b : Int)] 22)) := ((Below.refl _ w3).alloc (Nat.le_refl _) _).alloc (by simp) _
  have hs0 : ((w3.alloc (.cells #[.slice none 0 0] 28)).alloc (.cells #[.int .u64 (b : Int)] 22)).heap.size = w3.heap.size + 2 := by simp
  generalize (w3.alloc (.cells #[.slice none 0 0] 28)).alloc (.cells #[.int .u64 (b : Int)] 22) = w4 at *
  have BO := Lib.hid bO
  have BN := Lib.hid bN
  have HB4 := Lib.hid hB0
  have HT4 := Lib.hid (tab_below HT3.out HT3.out.1 hB0)
  have HS4 := Lib.hid hs0
  clear bO bN hB0 hs0
  gi_wp2
  have hs4 := HS4.out
  have hw3 : 0 < w3.heap.size := HT3.out.1
  refine wpIn_rangeFunc_ownG rfl (by omega) (gf := 19) (lb := #[.pointer (some ⟨w3.heap.size + 1, 0, none⟩)]) rfl trivial (enters_of Tryd.func19 (by kernel_rfl) rfl)
    (all_stops 2 (by omega) (w3.heap.size + 1) b HB.out _ HT4.out BN.out) tabK_t (tabK_b HT4.out.1) (Below.refl _ _) (fun _ => rfl)
    (fun pre W => (∃ v, Boxed W w3.heap.size 28 v ∧ W.ownsRow w3.heap.size 3 1 v pre.length (vals64 pre) ∧ pre.length ≤ 3) ∧ Below w3.heap.size w3 W)
    (fun cc pre W => (∃ v, Boxed W w3.heap.size 28 v ∧ W.ownsRow w3.heap.size 3 1 v 3 (vals64 (pre.take 3)) ∧ (cc = .exit 0 ∧ 3 ≤ pre.length)) ∧ Below w3.heap.size w3 W)
    (OwnFrom.and (Own.from (holdsRow_own w3.heap.size w3.heap.size 28 3 1 (fun pre => pre.length) (fun pre => vals64 pre) (fun pre _ => pre.length ≤ 3)) _) (ownFrom_below (Nat.le_refl _) (by omega)))
    (fun cc => OwnFrom.and (Own.from (holdsRow_own w3.heap.size w3.heap.size 28 3 1 (fun (_ : List S64) => 3) (fun (pre : List S64) => vals64 (pre.take 3)) (fun (pre : List S64) _ => cc = .exit 0 ∧ 3 ≤ pre.length)) _) (ownFrom_below (Nat.le_refl _) (by omega)))
    ⟨⟨_, BO.out, World.ownsRow_nil _ _ _ _, by simp⟩, HB4.out⟩
    (fun x => { tmps := #[.int .u64 (b : Int), undef, .bool false, .slice A n c, .int .u64 (b : Int), .int .i64 0, .pointer (some ⟨w3.heap.size, 0, none⟩), .int .i64 (x.1 : Int), .int .i64 2, .bool false, .bool false, .slice A1 2 c1, .slice (some ⟨w1.heap.size, 0, none⟩) 2 2, .bool true, .bool false, .bool false, .int .u64 (b : Int), .slice A n c, .tuple #[.int .u64 (b : Int), .int .i64 0], .slice A n c, .tuple #[.int .u64 (b : Int), .int .i64 0], .int .u64 (b : Int), .int .i64 0, .int .i64 0, .bool false, .bool false, .int .u64 (b : Int), .int .u64 (b : Int), .bool false, .bool false, .bool false, .slice A n c, .int .i64 (n : Int), .int .u64 (b : Int), .int .i64 (n : Int), .bool false, .bool false, .int .u64 (b : Int), .func (.func 19) #[] #[.pointer (some ⟨w3.heap.size + 1, 0, none⟩)], .int .i64 (x.1 : Int), undef, undef, undef, undef, undef, undef, undef, undef, undef, undef, undef, undef, undef, undef], defers := [] }) ?assign ?body ?done ?stop
  case assign =>
    intro l x W K hK
    gi_wp2
    exact hK
  case body =>
    rintro l pre x W ⟨⟨v, hv, hrow, hl3⟩, hB⟩ hlt
    obtain ⟨A2, c2, rfl, -, -⟩ := own_shape hrow
    have hc := hv.cell
    by_cases h3 : pre.length = 3
    · have t3 : ((pre.length : Int) == 3) = true := by simp; omega
      have htk : (pre ++ [x]).take 3 = pre := by rw [← h3]; simp
      have hle : 3 ≤ (pre ++ [x]).length := by simp; omega
      rw [h3] at hrow hc hv
      rw [h3] at t3
      have HROW := Lib.hid hrow
      have HV := Lib.hid hv
      have HBB := Lib.hid hB
      have HTK := Lib.hid htk
      have HLE := Lib.hid hle
      clear hv hrow hB htk hle h3 hl3 hlt
      gi_wp2
      exact ⟨KeepsFrom.refl _ _, ⟨_, HV.out, by rw [HTK.out]; exact HROW.out, rfl, HLE.out⟩, HBB.out⟩
    · have t3 : ((pre.length : Int) == 3) = false := by simp; omega
      have hle : (pre ++ [x]).length ≤ 3 := by simp; omega
      have hlt3 : pre.length < 64 := hlt
      gi_wp2_with (gi_at_builtin; refine wpListIn_append_own _ rfl _ _ 28 rfl w3.heap.size 3 i0 (.int .i64 0) 1 8 Tryd.underlying28 hi hz0 hz1 hz2 rfl (by decide) _ _ _ rfl (hrow.alloc _) ⟨W.heap.size, 0, none⟩ 1 1 [.int .i64 (x.1 : Int)] rfl rfl (cell_one_new _ _ _) (by simp [Value.oneCell']) (by have := max64; omega) (by omega) (by have := hB.size; simp; omega) ?_; intro v' w1 hown' hgrow _; obtain ⟨g', cap', rfl⟩ := ownsRow_succ hown'; obtain ⟨hv1, hv2, hr2, hk2, hb2⟩ := hv.appended (by decide) hrow hB.size (Nat.le_refl _) hown' hgrow; have hc1 := hv1.cell; have hf1 := hv1.frozen)
      exact ⟨hk2.from _, tabK_below hw3 hb2, ⟨_, hv2, by simpa [vals64] using hr2, hle⟩, hB.trans hb2⟩
  case done =>
    intro D ys W hD hys h hK
    obtain ⟨⟨v, hv, hrow, hl3⟩, hB⟩ := h
    have h1 : ys = sq64 b := hys
    have hl : ys.length = n := by rw [h1, HN.out]; simp [sq64]
    have hv1 : vals64 ys = ((zsq b).take 3).map (Value.int .i64) := by rw [h1, vals_sq, vals_zsq, List.take_of_length_le (by rw [zsq_len, ← HN.out]; omega)]
    have hmn : min 3 n = n := by omega
    rw [hv1, hl] at hrow
    obtain ⟨A2, c2, rfl, hn2, hcl⟩ := own_shape hrow
    have hcell := hv.cell
    have hm : ∃ m, m = n ∧ min 3 n = m ∧ ((zsq b).take 3).length = m ∧ ((zsq b).take m) = (zsq b).take 3 := ⟨n, rfl, hmn, by rw [List.length_take, zsq_len, ← HN.out]; omega, by rw [List.take_of_length_le (by rw [zsq_len, ← HN.out]; omega), List.take_of_length_le (by rw [zsq_len, ← HN.out]; omega)]⟩
    obtain ⟨m, hm1, hm2, hm3, hm4⟩ := hm
    rw [← hm1] at hcell
    have hmn2 : m ≤ n := by omega
    have hEQ := fun q => EqInts_any A2 A m m c2 c ((zsq b).take 3) ((zsq b).take m) (W.drewN q) hm3 (by rw [hm4]; exact hm3) (by have := HN64.out; omega) (by have := HN64.out; omega) (cells_ints hcl) (ints_take (HA.out.ext hB) m)
    rw [hm4, decide_eq_true rfl] at hEQ
    have HEQ := Lib.hid hEQ
    have HKK := Lib.hid hK
    have HDD := Lib.hid hD
    have HBB := Lib.hid hB
    have HMN := Lib.hid hmn2
    have hmin : ∀ (W : World) (ats : Array TypeId) (ty : TypeId), (Builtin.min_ ats ty #[.int .i64 3, .int .i64 (n : Int)]).run Tryd.prog W = .ok (.int .i64 (m : Int)) W := fun W ats ty => by
      have h := run_minB W ats ty 3 n
      rwa [hm2] at h
    have hcm : m ≤ c := Nat.le_trans hmn2 HCC.out
    clear hEQ hK hD hB hv hrow hl3 hm1 hm2 hm3 hm4 hcl hn2 hv1 hl h1 hys hmn
    simp only []
    gi_wp2
    refine wpIn_mono (Q := onlyNormal _) ?_ onlyNormal_le
    first
      | gi_region_with (refine ⟨trivial, (callsIn_wide.2 (HEQ.out 1)).mono ?_⟩; rintro e w' ⟨rfl, q, rfl⟩)
      | fail
    all_goals simp only [onlyNormal]
    all_goals gi_wp2
    all_goals
      have hD := HDD.out
      have hs3 := HB3.out.size
      have hs4 := HS4.out
      have hend : ∀ k, Below w.heap.size w (W.drewN k) ∧ (W.drewN k).heap[D]? = some (.deferred (some [])) := fun k => ⟨below_drewN (below_next rfl HB3.out HBB.out) k, HKK.out⟩
      refine ⟨by simp, .inl ⟨_, _, rfl, run_takeDeferred (hend _).2, ?_⟩⟩
      refine ⟨.bool true, ?_, rfl, (hend _).1.trans (belowK_b (w := w) (Nat.le_refl _) _ D _ _ (by omega) (hend _).2 rfl rfl)⟩
      simp [results, Tryd.f6, go_sem]
  case stop =>
    intro D cc pre W hD hpre h hK
    obtain ⟨⟨v, hv, hrow, rfl, hl3⟩, hB⟩ := h
    obtain ⟨zs, hzs⟩ := hpre
    have hl : pre.length ≤ n := by
      have h1 := congrArg List.length hzs
      rw [List.length_append] at h1
      have h2 : (sq64 b).length = n := by rw [HN.out]; simp [sq64]
      omega
    have hv1 : vals64 (pre.take 3) = ((zsq b).take 3).map (Value.int .i64) := by
      have h1 : pre.take 3 = (sq64 b).take 3 := by rw [← hzs, List.take_append_of_le_length hl3]
      have h2 : vals64 ((sq64 b).take 3) = (vals64 (sq64 b)).take 3 := by unfold vals64; rw [List.map_take]
      rw [h1, h2, vals_sq, vals_zsq, List.map_take]
    rw [hv1] at hrow
    obtain ⟨A2, c2, rfl, hn2, hcl⟩ := own_shape hrow
    have hcell := hv.cell
    have hm : ∃ m, m = 3 ∧ min 3 n = m ∧ ((zsq b).take 3).length = m ∧ ((zsq b).take m) = (zsq b).take 3 := ⟨3, rfl, by omega, by rw [List.length_take, zsq_len, ← HN.out]; omega, rfl⟩
    obtain ⟨m, hm1, hm2, hm3, hm4⟩ := hm
    rw [← hm1] at hcell
    have hmn2 : m ≤ n := by omega
    have hEQ := fun q => EqInts_any A2 A m m c2 c ((zsq b).take 3) ((zsq b).take m) (W.drewN q) hm3 (by rw [hm4]; exact hm3) (by have := HN64.out; omega) (by have := HN64.out; omega) (cells_ints hcl) (ints_take (HA.out.ext hB) m)
    rw [hm4, decide_eq_true rfl] at hEQ
    have HEQ := Lib.hid hEQ
    have HKK := Lib.hid hK
    have HDD := Lib.hid hD
    have HBB := Lib.hid hB
    have HMN := Lib.hid hmn2
    have hmin : ∀ (W : World) (ats : Array TypeId) (ty : TypeId), (Builtin.min_ ats ty #[.int .i64 3, .int .i64 (n : Int)]).run Tryd.prog W = .ok (.int .i64 (m : Int)) W := fun W ats ty => by
      have h := run_minB W ats ty 3 n
      rwa [hm2] at h
    have hcm : m ≤ c := Nat.le_trans hmn2 HCC.out
    clear hEQ hK hD hB hv hrow hl3 hm1 hm2 hm3 hm4 hcl hn2 hv1 hl hzs
    simp only []
    gi_wp2
    refine wpIn_mono (Q := onlyNormal _) ?_ onlyNormal_le
    first
      | gi_region_with (refine ⟨trivial, (callsIn_wide.2 (HEQ.out 1)).mono ?_⟩; rintro e w' ⟨rfl, q, rfl⟩)
      | fail
    all_goals simp only [onlyNormal]
    all_goals gi_wp2
    all_goals
      have hD := HDD.out
      have hs3 := HB3.out.size
      have hs4 := HS4.out
      have hend : ∀ k, Below w.heap.size w (W.drewN k) ∧ (W.drewN k).heap[D]? = some (.deferred (some [])) := fun k => ⟨below_drewN (below_next rfl HB3.out HBB.out) k, HKK.out⟩
      refine ⟨by simp, .inl ⟨_, _, rfl, run_takeDeferred (hend _).2, ?_⟩⟩
      refine ⟨.bool true, ?_, rfl, (hend _).1.trans (belowK_b (w := w) (Nat.le_refl _) _ D _ _ (by omega) (hend _).2 rfl rfl)⟩
      simp [results, Tryd.f6, go_sem]
theorem bitsBack_walk (a : Int) (w : World) (ha : (Lit.int .u64 a).wf = true) (hT : Tab w) : Calls Tryd.prog 6 #[.int .u64 a] w fun e w' => e = .returned (.bool true) ∧ Below w.heap.size w w' := by
  have h := (Lit.wf_int_iff _ _).1 ha
  obtain ⟨n, rfl⟩ := Int.eq_ofNat_of_zero_le (a := a) h.1
  exact bitsBack_law n (by have h1 : (n : Int) ≤ 18446744073709551615 := h.2; omega) w hT
end Go.Proofs.YtpoepaiaehhloaaDoor
