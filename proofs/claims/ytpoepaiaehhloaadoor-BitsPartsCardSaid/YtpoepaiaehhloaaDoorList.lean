/- Walk: bits.List. -/
import Derived.RangeFuncBox
import Derived.OwnWalkIn
import Derived.Maps.AppendAt
import Derived.Test.YtpoepaiaehhloaaDoorAllS
namespace Go.Proofs.YtpoepaiaehhloaaDoor
open Go.RowKit Go.Shelf
set_option linter.unusedVariables false
attribute [local go_sem] Oper.semAt_some
theorem max64 : (64 : Nat) ≤ maxLen := by decide
theorem info_int : (Tryd.prog.info? 3).map (fun i => (i.zero, i.size, i.bytes)) = some (some (.int .i64 0), 1, 8) := by kernel_rfl
def vals (l : List Nat) : List Value := l.map fun (s : Nat) => Value.int .i64 (s : Int)
def vals64 (l : List S64) : List Value := l.map fun (s : S64) => Value.int .i64 (s.1 : Int)
theorem vals_sq (b : Nat) : vals64 (sq64 b) = vals (sqs b) := by
  unfold vals vals64
  rw [← sq64_val, List.map_map]
  rfl
set_option maxHeartbeats 4000000 in
set_option maxRecDepth 100000 in
theorem list_any (b : Nat) (hb : b < 18446744073709551616) (w : World) (hT : Tab w) : Calls Tryd.prog 11 #[.int .u64 (b : Int)] w fun e w' => ∃ v, e = .returned v ∧ w'.ownsRow w.heap.size 3 1 v (sqs b).length (vals (sqs b)) ∧ Below w.heap.size w w' := by
  obtain ⟨i0, hi, hz0, hz1, hz2⟩ := info_parts info_int
  refine (callsIn_wide (n := 3)).1 ?_
  refine callsIn_of_wp_marks Tryd.func11 rfl trivial ?_ rfl
  simp only [Tryd.ntmps11, List.size_toArray, List.length_cons, List.length_nil, Nat.reduceAdd, Nat.reduceSub, Array.replicate_succ, Array.replicate_zero, List.push_toArray, List.append_toArray, List.nil_append, List.cons_append]
  have HB := Lib.hid hb
  have HT := Lib.hid hT
  clear hb hT
  gi_wp2
  refine ⟨trivial, (all_in _ _ _).mono ?_⟩
  rintro e w' ⟨rfl, rfl⟩
  have bO := (Boxed.new w 28 (.slice none 0 0)).alloc (.cells #[.int .u64 (b : Int)] 22)
  have bN := Boxed.new (w.alloc (.cells #[.slice none 0 0] 28)) 22 (.int .u64 (b : Int))
  rw [World.size_alloc] at bN
  have hB0 : Below w.heap.size w ((w.alloc (.cells #[.slice none 0 0] 28)).alloc (.cells #[.int .u64 (b : Int)] 22)) := ((Below.refl _ w).alloc (Nat.le_refl _) _).alloc (by simp) _
  have hs0 : ((w.alloc (.cells #[.slice none 0 0] 28)).alloc (.cells #[.int .u64 (b : Int)] 22)).heap.size = w.heap.size + 2 := by simp
  generalize (w.alloc (.cells #[.slice none 0 0] 28)).alloc (.cells #[.int .u64 (b : Int)] 22) = w1 at *
  have hT1 := tab_below HT.out HT.out.1 hB0
  have BO := Lib.hid bO
  have BN := Lib.hid bN
  have HB0 := Lib.hid hB0
  have HT1 := Lib.hid hT1
  have HS0 := Lib.hid hs0
  clear bO bN hB0 hT1 hs0
  gi_wp2
  have hs0 := HS0.out
  refine wpIn_rangeFunc_ownG rfl (by omega) (gf := 19) (lb := #[.pointer (some ⟨w.heap.size + 1, 0, none⟩)]) rfl trivial (enters_of Tryd.func19 (by kernel_rfl) rfl)
    (all_stops 2 (by omega) (w.heap.size + 1) b HB.out _ HT1.out BN.out) tabK_t (tabK_b HT1.out.1) (Below.refl _ _) (fun _ => rfl)
    (fun pre W => (∃ v, Boxed W w.heap.size 28 v ∧ W.ownsRow w.heap.size 3 1 v pre.length (vals64 pre) ∧ True) ∧ Below w.heap.size w W)
    (fun _ _ _ => False)
    (OwnFrom.and (Own.from (holdsRow_own w.heap.size w.heap.size 28 3 1 (fun pre => pre.length) (fun pre => vals64 pre) (fun _ _ => True)) _) (ownFrom_below (Nat.le_refl _) (by omega)))
    (fun _ _ _ _ _ hs _ _ => hs)
    ⟨⟨_, BO.out, World.ownsRow_nil _ _ _ _, trivial⟩, HB0.out⟩
    (fun x => { tmps := #[.int .u64 (b : Int), undef, .slice none 0 0, .pointer (some ⟨w.heap.size, 0, none⟩), .int .i64 (x.1 : Int), .int .u64 (b : Int), .func (.func 19) #[] #[.pointer (some ⟨w.heap.size + 1, 0, none⟩)], .int .i64 (x.1 : Int), undef, undef, undef, undef, undef], defers := [] }) ?assign ?body ?done ?stop
  case assign =>
    intro l x W K hK
    gi_wp2
    exact hK
  case body =>
    rintro l pre x W ⟨⟨v, hv, hrow, _⟩, hB⟩ hlt
    have hc := hv.cell
    gi_wp2_with (gi_at_builtin; refine wpListIn_append_own _ rfl _ _ 28 rfl w.heap.size 3 i0 (.int .i64 0) 1 8 Tryd.underlying28 hi hz0 hz1 hz2 rfl (by decide) _ _ _ rfl (hrow.alloc _) ⟨W.heap.size, 0, none⟩ 1 1 [.int .i64 (x.1 : Int)] rfl rfl (cell_one_new _ _ _) (by simp [Value.oneCell']) (by have := max64; omega) (by omega) (by have := hB.size; simp; omega) ?_; intro v' w1 hown' hgrow _; obtain ⟨g', cap', rfl⟩ := ownsRow_succ hown'; obtain ⟨hv1, hv2, hr2, hk2, hb2⟩ := hv.appended (by decide) hrow hB.size (Nat.le_refl _) hown' hgrow; have hc1 := hv1.cell; have hf1 := hv1.frozen)
    exact ⟨hk2.from _, tabK_below HT.out.1 hb2, ⟨_, hv2, by simpa [vals64] using hr2, trivial⟩, hB.trans hb2⟩
  case done =>
    intro D ys W hD hys h hK
    have hlen : ys.length = (sqs b).length ∧ vals64 ys = vals (sqs b) := by
      have h1 : ys = sq64 b := hys
      rw [h1]
      exact ⟨by simp [sq64], vals_sq b⟩
    obtain ⟨⟨v, hv, hrow, _⟩, hB⟩ := h
    rw [hlen.1, hlen.2] at hrow
    have hc := hv.cell
    have HROW := Lib.hid hrow
    have HBB := Lib.hid hB
    have HKK := Lib.hid hK
    have HD := Lib.hid hD
    clear hv hrow hB hK hD hys hlen
    gi_wp2
    have hD := HD.out
    refine ⟨by simp, .inl ⟨_, _, rfl, run_takeDeferred HKK.out, ?_⟩⟩
    exact ⟨_, results_tmp rfl _ _ _, v, rfl, ownsRow_putObj HROW.out _ HKK.out rfl, HBB.out.trans (belowK_b (w := w) (Nat.le_refl _) W D _ _ (by omega) HKK.out rfl rfl)⟩
  case stop =>
    rintro D c pre W _ _ h _
    exact h.elim
end Go.Proofs.YtpoepaiaehhloaaDoor
