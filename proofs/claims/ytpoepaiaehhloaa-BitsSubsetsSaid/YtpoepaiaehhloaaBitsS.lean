/- Walks: bits.Subsets, its iterator. -/
import Derived.RangeFuncNested
import Derived.RangeFuncBound
import Derived.RangeFuncCalls
import Derived.RangeFuncLeaves
import Derived.Shelf.Abstract
import Derived.Shelf.RegionOpen
import Derived.WalkKit
import Derived.OwnWalkIn
import Derived.TacticsInMore
import Derived.LoopNIn
import Derived.LoopIn
import Derived.Test.YtpoepaiaehhloaaBitsC
import Derived.Test.YtpoepaiaehhloaaDepP
namespace Go.Proofs.Ytpoepaiaehhloaa
open Go.RowKit Go.Shelf
set_option linter.unusedVariables false
attribute [local go_sem] Oper.semAt_some
/-- A number of 64 bits. -/
abbrev U64 := { x : Nat // x < 18446744073709551616 }
theorem dep_u64 {b : Nat} (hb : b < 18446744073709551616) (i : Nat) : dep 64 b i < 18446744073709551616 := by
  have h := (dep_fill 64 b i hb).1
  have e : (2 : Nat) ^ 64 = 18446744073709551616 := rfl
  omega
def depU (b : Nat) (hb : b < 18446744073709551616) (i : Nat) : U64 := ⟨dep 64 b i, dep_u64 hb i⟩
def subsU (b : Nat) (hb : b < 18446744073709551616) (n : Nat) : List U64 := (List.range n).map (depU b hb)
theorem subsU_succ (b : Nat) (hb : b < 18446744073709551616) (n : Nat) : subsU b hb (n + 1) = subsU b hb n ++ [depU b hb n] := by
  unfold subsU
  rw [List.range_succ, List.map_append]
  rfl
theorem subsU_len (b : Nat) (hb : b < 18446744073709551616) (n : Nat) : (subsU b hb n).length = n := by simp [subsU]
theorem next_u64 {b p : Nat} (hb : b < 18446744073709551616) (hp : p < 18446744073709551616) : bits .and .u64 (IntKind.u64.wrap ((p : Int) - (b : Int))) (b : Int) = ((nxt 64 b p : Nat) : Int) := by
  have e : IntKind.u64.wrap ((p : Int) - (b : Int)) = (((p + 2 ^ 64 - b) % 2 ^ 64 : Nat) : Int) := by
    have e64 : (2 : Nat) ^ 64 = 18446744073709551616 := rfl
    rw [IntKind.wrap_u64, e64]
    omega
  rw [e, u64_and_nat _ _ (by have : (2 : Nat) ^ 64 = 18446744073709551616 := rfl; omega) hb]
  rfl
/-- What holds a value goes on to hold it. -/
def BoxK (B : Nat) (t : TypeId) (v : Value) (W W' : World) : Prop := Boxed W B t v → Boxed W' B t v
theorem boxK_t {B : Nat} {t : TypeId} {v : Value} {X Y Z : World} (h : BoxK B t v X Y) (k : BoxK B t v Y Z) : BoxK B t v X Z := fun q => k (h q)
theorem boxK_b {B : Nat} {t : TypeId} {v : Value} {w : World} (W : World) (l : Nat) (o o' : Obj) (_ : w.heap.size ≤ l) (h : W.heap[l]? = some o) (hc : o.isCells = false) (_ : o.isWalk = false) : BoxK B t v W (W.putObj l o') := fun q =>
  q.kept (grownBy_putObj' W l o') (fun e => by
    obtain rfl : B = l := by simpa using e
    rw [show W.heap[B]? = _ from q] at h
    cases h
    cases hc)
theorem boxK_set {B B' : Nat} {t : TypeId} {v : Value} (W : World) (hne : B ≠ B') (u : Value) : BoxK B t v W (W.setCell ⟨B', 0, none⟩ u) := fun q => q.other hne u
theorem boxed_below {w W : World} {B : Nat} {t : TypeId} {v : Value} (h : Boxed w B t v) (hW : Below w.heap.size w W) : Boxed W B t v := by
  show W.heap[B]? = _
  rw [hW.block B h.lt]
  exact h
set_option maxHeartbeats 2000000 in
set_option maxRecDepth 100000 in
theorem subs1_in (F : Fence) (n : Nat) (h7 : F.fn 7) (hro : F.round = none) (hn : 1 ≤ n) (l Bn : Nat) (b : Nat) (hb : b < 18446744073709551616) (J Jx : List U64 → World → Prop)
    (hY : ∀ pre x W, J pre W → pre.length < 2 ^ pop 64 b → YieldAt F (n - 1) Try.prog l #[.int .u64 (x.1 : Int)] W fun e W' =>
      (e = .returned (.bool true) ∧ J (pre ++ [x]) W' ∧ BoxK Bn 22 (.int .u64 (b : Int)) W W') ∨ (e = .returned (.bool false) ∧ Jx (pre ++ [x]) W'))
    (W : World) (hBn : Boxed W Bn 22 (.int .u64 (b : Int))) (h0 : J [] W) :
    CallsIn F n Try.prog 7 #[.func (.yield l) #[] #[], .pointer (some ⟨Bn, 0, none⟩)] W fun e W' => (∃ v, e = .returned v) ∧
      ((∃ ys, ys = subsU b hb (2 ^ pop 64 b) ∧ J ys W') ∨ (∃ pre, (∃ k, k ≤ 2 ^ pop 64 b ∧ pre = subsU b hb k) ∧ Jx pre W')) := by
  have hpos : 0 < 2 ^ pop 64 b := Nat.two_pow_pos _
  refine callsIn_of_wp Try.func7 rfl h7 ?_ hro
  simp only [Try.ntmps7, List.size_toArray, List.length_cons, List.length_nil, Nat.reduceAdd, Nat.reduceSub, Array.replicate_succ, Array.replicate_zero, List.push_toArray, List.append_toArray, List.nil_append, List.cons_append]
  gi_wp2
  gi_loopw [3] (fun p wr => ∃ k : Nat, k < 2 ^ pop 64 b ∧ p = .int .u64 ((dep 64 b k : Nat) : Int) ∧ Boxed wr Bn 22 (.int .u64 (b : Int)) ∧ J (subsU b hb k) wr)
    (fun p wr => b + 1 - (intOf p).toNat)
  case atStart => exact ⟨0, hpos, by rw [dep_zero]; rfl, hBn, h0⟩
  case round =>
    obtain ⟨k, hk, rfl, hc, hJ⟩ := hrel
    obtain ⟨fn, tmps, assign, body, hy, hR⟩ := hY (subsU b hb k) (depU b hb k) wr hJ (by rw [subsU_len]; exact hk)
    rw [← subsU_succ] at hR
    have hy2 : (Instr.yield l #[.int .u64 ((dep 64 b k : Nat) : Int)]).run Try.prog wr = .ok (.round l fn tmps assign body) wr := hy
    have hf := subs_facts hb k hk
    have hd := dep_u64 hb k
    have hnx := next_u64 hb hd
    rw [← dep_next 64 b k hb] at hnx
    have HF := Lib.hid hf
    have HK := Lib.hid hk
    have HC := Lib.hid hc
    have HN := Lib.hid hnx
    have HD := Lib.hid (dep_lt 64 b k (k + 1) (by omega))
    clear hf hd hy hnx hk hc hJ hpos
    generalize hp : dep 64 b k = p at *
    have HP := Lib.hid hp
    clear hp
    gi_wp2
    refine hR.mono ?_
    rintro e W3 (⟨rfl, hJ3, hk3⟩ | ⟨rfl, hJx3⟩)
    · have hb3 := hk3 HC.out
      have hc3 := hb3.cell
      have HB3 := Lib.hid hb3
      clear hb3
      by_cases hl : k = 2 ^ pop 64 b - 1
      · have hpb : p = b := HF.out.2.2.1.2 hl
        have t0 : ((p : Int) != (b : Int)) = false := by simp [hpb]
        have hk1 : k + 1 = 2 ^ pop 64 b := by have := HK.out; omega
        rw [hk1] at hJ3
        have HJ := Lib.hid hJ3
        clear hpb hl hk1 hJ3
        gi_wp2
        go_end0
        exact ⟨⟨_, rfl⟩, .inl ⟨_, rfl, HJ.out⟩⟩
      · have hpb : p ≠ b := fun e => hl (HF.out.2.2.1.1 e)
        have t0 : ((p : Int) != (b : Int)) = true := by simp; omega
        have hk1 : k + 1 < 2 ^ pop 64 b := by have := HK.out; omega
        have hlt2 := HD.out hk1
        have hle := HF.out.2.2.2
        have hle2 := (subs_facts hb (k + 1) hk1).2.2.2
        have hnx := HN.out
        have HJ := Lib.hid hJ3
        have HM : Hid (p < dep 64 b (k + 1) ∧ p ≤ b) := Lib.hid ⟨by have := HP.out; omega, hle⟩
        have HK1 := Lib.hid hk1
        clear hpb hl hJ3 hlt2 hle hle2 hk1
        gi_wp2
        go_roundw
        case rel => exact ⟨k + 1, HK1.out, rfl, HB3.out, HJ.out⟩
        case measure => have := HM.out; simp [intOf]; omega
    · have HJ := Lib.hid hJx3
      have hk1 : k + 1 ≤ 2 ^ pop 64 b := HK.out
      have HK1 := Lib.hid hk1
      clear hJx3 hk1
      gi_wp2
      go_end0
      exact ⟨⟨_, rfl⟩, .inr ⟨_, ⟨k + 1, HK1.out, rfl⟩, HJ.out⟩⟩
theorem subs_stops (F : Fence) (n : Nat) (h7 : F.fn 7) (hro : F.round = none) (hn : 1 ≤ n) (Bn : Nat) (b : Nat) (hb : b < 18446744073709551616) (w : World) (hc : Boxed w Bn 22 (.int .u64 (b : Int))) :
    SeqStopsK F n Try.prog 7 #[.pointer (some ⟨Bn, 0, none⟩)] (fun x : U64 => #[Value.int .u64 (x.1 : Int)]) (BoxK Bn 22 (.int .u64 (b : Int))) (fun ys => ys = subsU b hb (2 ^ pop 64 b)) (fun pre => ∃ k, k ≤ 2 ^ pop 64 b ∧ pre = subsU b hb k) (2 ^ pop 64 b) w := fun l J Jx W hW _ _ hY h0 =>
  subs1_in F n h7 hro hn l Bn b hb J Jx hY W (boxed_below hc hW) h0
end Go.Proofs.Ytpoepaiaehhloaa
