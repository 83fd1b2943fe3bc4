/- Walks: bits.All, its iterator. -/
import Derived.RangeFuncNested
import Derived.RangeFuncBound
import Derived.RangeFuncCalls
import Derived.RangeFuncLeaves
import Derived.Shelf.Abstract
import Derived.Shelf.RegionOpen
import Derived.OwnWalkIn
import Derived.TacticsInMore
import Derived.LoopNIn
import Derived.LoopIn
import Derived.Test.YtpoepaiaehhloaaDoorTrail
namespace Go.Proofs.YtpoepaiaehhloaaDoor
open Go.RowKit Go.Shelf
set_option linter.unusedVariables false
attribute [local go_sem] Oper.semAt_some
theorem all_in (n : Nat) (b : Int) (w : World) :
    CallsIn Fence.wide n Tryd.prog 17 #[.int .u64 b] w fun e w' => e = .returned (.func (.func 19) #[] #[.pointer (some ⟨w.heap.size, 0, none⟩)]) ∧ w' = w.alloc (.cells #[.int .u64 b] 22) := by
  refine callsIn_of_wp Tryd.func17 rfl trivial ?_ rfl
  simp only [Tryd.ntmps17, List.size_toArray, List.length_cons, List.length_nil, Nat.reduceAdd, Nat.reduceSub, Array.replicate_succ, Array.replicate_zero, List.push_toArray, List.append_toArray, List.nil_append, List.cons_append]
  gi_wp2
  go_ret
  exact ⟨rfl, rfl⟩
/-- The library's table stays. -/
def TabK (W W' : World) : Prop := Tab W → Tab W'
theorem tabK_t {X Y Z : World} (h : TabK X Y) (k : TabK Y Z) : TabK X Z := fun q => k (h q)
theorem tabK_b {w : World} (hw : 0 < w.heap.size) (W : World) (l : Nat) (o o' : Obj) (hl : w.heap.size ≤ l) (_ : W.heap[l]? = some o) (_ : o.isCells = false) (_ : o.isWalk = false) : TabK W (W.putObj l o') := fun q =>
  tab_block q (by simp [World.putObj]) (World.putObj_heap_other (by omega))
theorem tabK_set (W : World) {B : Nat} (hB : 0 < B) (v : Value) : TabK W (W.setCell ⟨B, 0, none⟩ v) := fun q =>
  have hg := grownBy_setCell' W B v
  tab_block q (by simp) (by
    have h := (Below.refl 1 W).setCell (p := ⟨B, 0, none⟩) hB v
    exact h.block 0 (by omega))
theorem tabK_below {W W' : World} {n : Nat} (hn : 0 < n) (h : Below n W W') : TabK W W' := fun q => tab_below q hn h
def mk64 (x : Nat) : S64 := ⟨x % 64, Nat.mod_lt _ (by omega)⟩
def sq64 (x : Nat) : List S64 := (sqs x).map mk64
theorem sq64_val (x : Nat) : (sq64 x).map (fun s => s.1) = sqs x := by
  unfold sq64
  rw [List.map_map]
  have h : ∀ s ∈ sqs x, ((fun s : S64 => s.1) ∘ mk64) s = id s := fun s hs => Nat.mod_eq_of_lt (mem_sqs.1 hs).1
  rw [List.map_congr_left h, List.map_id]
theorem sq64_zero : sq64 0 = [] := by unfold sq64; rw [sqs_zero]; rfl
theorem sq64_next {x : Nat} (h0 : x ≠ 0) (hx : x < 18446744073709551616) : sq64 x = mk64 (Lib.ctz 64 x) :: sq64 (x &&& (x - 1)) := by unfold sq64; rw [sqs_next h0 hx]; rfl
theorem mk64_ctz {x : Nat} (h0 : x ≠ 0) (hx : x < 18446744073709551616) : (mk64 (Lib.ctz 64 x)).1 = Lib.ctz 64 x := Nat.mod_eq_of_lt (ctz_bit h0 hx).2.1
theorem and_less {v : Nat} (hv : v < 18446744073709551616) (h0 : v ≠ 0) : bits .and .u64 (v : Int) (IntKind.u64.wrap ((v : Int) - 1)) = ((v &&& (v - 1) : Nat) : Int) := by
  rw [show IntKind.u64.wrap ((v : Int) - 1) = ((v - 1 : Nat) : Int) by rw [IntKind.wrap_u64]; omega, u64_and_nat _ _ hv (by omega)]
set_option maxHeartbeats 2000000 in
set_option maxRecDepth 100000 in
theorem all1_in (n : Nat) (hn : 1 ≤ n) (l Bn : Nat) (b : Nat) (hb : b < 18446744073709551616) (J Jx : List S64 → World → Prop)
    (hY : ∀ pre x W, J pre W → pre.length < 64 → YieldAt Fence.wide (n - 1) Tryd.prog l #[.int .i64 (x.1 : Int)] W fun e W' =>
      (e = .returned (.bool true) ∧ J (pre ++ [x]) W' ∧ TabK W W') ∨ (e = .returned (.bool false) ∧ Jx (pre ++ [x]) W'))
    (W : World) (hT : Tab W) (hBn : W.cell? ⟨Bn, 0, none⟩ = some (.int .u64 (b : Int))) (h0 : J [] W) :
    CallsIn Fence.wide n Tryd.prog 19 #[.func (.yield l) #[] #[], .pointer (some ⟨Bn, 0, none⟩)] W fun e W' => (∃ v, e = .returned v) ∧
      ((∃ ys, ys = sq64 b ∧ J ys W') ∨ (∃ pre, (∃ ys, pre ++ ys = sq64 b) ∧ Jx pre W')) := by
  refine callsIn_of_wp Tryd.func19 rfl trivial ?_ rfl
  simp only [Tryd.ntmps19, List.size_toArray, List.length_cons, List.length_nil, Nat.reduceAdd, Nat.reduceSub, Array.replicate_succ, Array.replicate_zero, List.push_toArray, List.append_toArray, List.nil_append, List.cons_append]
  gi_wp2
  gi_loopw [3] (fun p wr => ∃ (x : Nat) (pre : List S64), x < 18446744073709551616 ∧ p = .int .u64 (x : Int) ∧ pre ++ sq64 x = sq64 b ∧ Tab wr ∧ J pre wr)
    (fun p wr => (intOf p).toNat)
  case atStart => exact ⟨b, [], hb, rfl, rfl, hT, h0⟩
  case round =>
    obtain ⟨x, pre, hx, rfl, hp, hTr, hJ⟩ := hrel
    by_cases hz : x = 0
    · subst hz
      rw [sq64_zero, List.append_nil] at hp
      have HP := Lib.hid hp
      have HJ := Lib.hid hJ
      clear hp hJ hTr
      gi_wp2
      go_end0
      exact ⟨⟨_, rfl⟩, .inl ⟨_, HP.out, HJ.out⟩⟩
    · have hlen : pre.length < 64 := by
        have h1 : pre.length + (sq64 x).length = (sq64 b).length := by rw [← List.length_append, hp]
        rw [sq64_next hz hx] at h1
        have h2 : (sq64 b).length ≤ 64 := by
          have h3 := pop_le b
          rw [pop_sqs] at h3
          simpa [sq64] using h3
        simp at h1
        omega
      obtain ⟨fn, tmps, assign, body, hy, hR⟩ := hY pre (mk64 (Lib.ctz 64 x)) wr hJ hlen
      rw [mk64_ctz hz hx] at hy
      have hy2 : (Instr.yield l #[.int .i64 ((Lib.ctz 64 x : Nat) : Int)]).run Tryd.prog wr = .ok (.round l fn tmps assign body) wr := hy
      have HTZ := Lib.hid (tz_any x hz hx wr hTr)
      have t0 : ((x : Int) != 0) = true := by simp; omega
      have hle : x &&& (x - 1) ≤ x - 1 := Nat.and_le_right
      have hnx := and_less hx hz
      have hp2 : (pre ++ [mk64 (Lib.ctz 64 x)]) ++ sq64 (x &&& (x - 1)) = sq64 b := by
        rw [← hp, sq64_next hz hx, List.append_assoc]
        rfl
      have HP := Lib.hid hp2
      have HN := Lib.hid hnx
      have HL : Hid (x &&& (x - 1) < x) := Lib.hid (by omega)
      have HX := Lib.hid hx
      have HTR := Lib.hid hTr
      clear hp hp2 hnx hle hx hJ hy hTr hz hlen
      generalize Lib.ctz 64 x = k at *
      generalize x &&& (x - 1) = x2 at *
      gi_wp2
      refine ⟨trivial, (callsIn_wide.2 HTZ.out).mono ?_⟩
      rintro e w2 ⟨rfl, rfl⟩
      gi_wp2
      refine hR.mono ?_
      rintro e W3 (⟨rfl, hJ3, hk3⟩ | ⟨rfl, hJx3⟩)
      · have HJ := Lib.hid hJ3
        have HT3 := Lib.hid (hk3 HTR.out)
        have hnx := HN.out
        clear hJ3 hk3
        gi_wp2
        go_roundw
        case rel => exact ⟨x2, _, Nat.lt_trans HL.out HX.out, rfl, HP.out, HT3.out, HJ.out⟩
        case measure => have := HL.out; simp [intOf]; omega
      · have HJ := Lib.hid hJx3
        clear hJx3
        gi_wp2
        refine bodyPost_ret (results_none rfl _ _ _) rfl ?_
        exact ⟨⟨_, rfl⟩, .inr ⟨_, ⟨_, HP.out⟩, HJ.out⟩⟩
theorem all_stops (n : Nat) (hn : 1 ≤ n) (Bn : Nat) (b : Nat) (hb : b < 18446744073709551616) (w : World) (hT : Tab w) (hc : Boxed w Bn 22 (.int .u64 (b : Int))) :
    SeqStopsK Fence.wide n Tryd.prog 19 #[.pointer (some ⟨Bn, 0, none⟩)] (fun x : S64 => #[Value.int .i64 (x.1 : Int)]) TabK (fun ys => ys = sq64 b) (fun pre => ∃ ys, pre ++ ys = sq64 b) 64 w := fun l J Jx W hW _ _ hY h0 =>
  all1_in n hn l Bn b hb J Jx hY W (tab_below hT hT.1 hW) ((hW.cell (p := ⟨Bn, 0, none⟩) hc.lt).trans hc.cell) h0
end Go.Proofs.YtpoepaiaehhloaaDoor
