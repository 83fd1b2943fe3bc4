/- Walk: the moves of a heap. -/
import Derived.Test.YthgbdonjheengaaOwnR
import Derived.Test.YthgbdonjheengaaNimM
import Derived.Lib.Hide
namespace Go.Proofs.Ythgbdonjheengaa
open Go.RowKit
set_option linter.unusedVariables false
theorem intInfoN : (Try.prog.info? 3).map (fun i => (i.zero, i.size, i.bytes)) = some (some (.int .i64 0), 1, 8) := by kernel_rfl
def intsN (l : List Nat) : List Value := l.map fun (x : Nat) => Value.int .i64 (x : Int)
theorem heap_large (m n : Int) (hn : 20000 < n) (w : World) : Calls Try.prog 15 #[.agg #[.int .i64 m], .int .i64 n] w fun e w' => e = .returned (.slice none 0 0) ∧ Ext w w' := by
  go_enter Try.func15, Try.ntmps15
  go_wp2
  go_ret
  exact ⟨rfl, ext_alloc (Below.refl _ _) _⟩
def cntH (m : Int) (n : Nat) : Nat := if m ≤ 0 then n else min n m.toNat
theorem nxH_take (m : Int) (n : Nat) : nxH m n = (List.range (cntH m n)).map fun j => n - 1 - j := rfl
/-- The first moves: k - 1 of them. -/
def preH (n k : Nat) : List Value := intsN ((List.range (k - 1)).map fun j => n - 1 - j)
theorem preH_more {n k : Nat} (hk : 1 ≤ k) (hn : k ≤ n) : preH n (k + 1) = preH n k ++ [.int .i64 ((n : Int) - (k : Int))] := by
  rw [show (n : Int) - (k : Int) = ((n - k : Nat) : Int) by omega]
  unfold preH intsN
  rw [show k + 1 - 1 = (k - 1) + 1 by omega, List.range_succ, List.map_append, List.map_append, show n - k = n - 1 - (k - 1) by omega]
  rfl
set_option maxHeartbeats 4000000 in
set_option maxRecDepth 100000 in
theorem heap_next (m : Int) (n : Nat) (hn : n ≤ 20000) (w : World) : Calls Try.prog 15 #[.agg #[.int .i64 m], .int .i64 (n : Int)] w fun e w' => ∃ v, e = .returned v ∧ OwnR 3 1 w w' v (nxH m n).length (intsN (nxH m n)) ∧ Ext w w' := by
  have hcn : cntH m n ≤ n := by unfold cntH; split <;> omega
  have hc1 : ∀ k, k < cntH m n → m ≤ 0 ∨ ((k + 1 : Nat) : Int) ≤ m := fun k hk => by unfold cntH at hk; split at hk <;> omega
  have hc2 : cntH m n < n → ¬ m ≤ 0 ∧ ¬ ((cntH m n + 1 : Nat) : Int) ≤ m := fun h => by
    unfold cntH at h ⊢
    by_cases hm : m ≤ 0
    · rw [if_pos hm] at h; omega
    · rw [if_neg hm] at h ⊢; omega
  rw [show (nxH m n).length = cntH m n by rw [nxH_take]; simp, show intsN (nxH m n) = preH n (cntH m n + 1) from rfl]
  have HCN := Lib.hid hcn
  have HC1 := Lib.hid hc1
  have HC2 := Lib.hid hc2
  have HN := Lib.hid hn
  clear hcn hc1 hc2
  generalize cntH m n = C at *
  go_enter Try.func15, Try.ntmps15
  have hx0 : Ext w (w.alloc (.cells #[.int .i64 m] 28)) := ext_alloc (Below.refl _ _) _
  have HX0 := Lib.hid hx0
  have n0 : (n : Int) ≤ 20000 := by omega
  clear hx0 hn
  have k1 := Blk.new w 28 #[.int .i64 m]
  have f1 := k1.cell 0
  have K1 := Lib.hid k1
  have HSZ := Lib.hid (show w.heap.size < (w.alloc (.cells #[.int .i64 m] 28)).heap.size from k1.lt)
  have HW := Lib.hid (fun (wr : World) (v : Value) (n : Nat) (cs : List Value) (h : OwnR 3 1 (w.alloc (.cells #[.int .i64 m] 28)) wr v n cs) => h.base (w0 := w) (Nat.le_of_lt HSZ.out))
  have HX := Lib.hid (fun (wr : World) (h : Ext (w.alloc (.cells #[.int .i64 m] 28)) wr) => ext_trans HX0.out h)
  clear k1 HX0
  go_wp2_with fail
  generalize w.alloc (.cells #[.int .i64 m] 28) = w1 at *
  generalize w.heap.size = B0 at *
  go_loopw [5, 6] (fun v k wr => ∃ j : Nat, 1 ≤ j ∧ j ≤ C + 1 ∧ k = .int .i64 (j : Int) ∧ OwnR 3 1 w1 wr v (j - 1) (preH n j) ∧ Ext w1 wr) (fun v k wr => C + 1 - (intOf k).toNat)
  case atStart => exact ⟨1, Nat.le_refl _, by omega, rfl, OwnR.nil _ _ _ _, Below.refl _ _⟩
  case round =>
    obtain ⟨k, hk1, hk2, rfl, hO, hE⟩ := hrel
    have HK1 := Lib.hid hk1
    have HK2 := Lib.hid hk2
    have HO := Lib.hid hO
    have HE := Lib.hid hE
    have fr : wr.cell? ⟨B0, 0, none⟩ = some (.int .i64 m) := hE.cell f1
    obtain ⟨A, c, rfl, -⟩ := id hO
    clear hO hE f1
    have n1 := HN.out
    have n2 := HCN.out
    by_cases hjC : k ≤ C
    · have c1 := HC1.out (k - 1) (by omega)
      have t0 : decide ((k : Int) ≤ (n : Int)) = true := decide_eq_true (by omega)
      have c2 : m ≤ 0 ∨ (k : Int) ≤ m := by omega
      have HP := Lib.hid (preH_more (n := n) hk1 (by omega))
      have HC := Lib.hid hjC
      have b1 : (k : Int) ≤ 20000 := by omega
      have b2 : 0 ≤ (n : Int) - (k : Int) := by omega
      clear n1 n2 hk1 hk2 hjC c1
      by_cases hm : m ≤ 0
      · have t1 : decide (m ≤ 0) = true := decide_eq_true hm
        clear c2
        go_wp2_with (at_builtin; refine wp_append_r (.tmp 25) (.tmp 29) rfl 38 rfl 3 1 8 (.int .i64 0) Try.underlying38 intInfoN rfl (by decide) (by decide) w1 wr (.slice A (k - 1) c) (k - 1) _ [.int .i64 ((n : Int) - (k : Int))] rfl HO.out rfl rfl (by simp [Value.oneCell']) HE.out (by have := HC.out; have := HCN.out; have := HN.out; omega) ?_; intro v4 w4 own4 x4 _)
        rw [← HP.out, show k - 1 + 1 = k + 1 - 1 by have := HK1.out; omega] at own4
        have O4 := Lib.hid own4
        have X4 := Lib.hid x4
        clear own4 x4
        go_wp2
        go_roundw
        case rel => exact ⟨k + 1, by omega, by have := HC.out; omega, by simp, O4.out, X4.out⟩
        case measure => have := HC.out; simp [intOf]; omega
      · have t1 : decide (m ≤ 0) = false := decide_eq_false hm
        have t2 : decide ((k : Int) ≤ m) = true := decide_eq_true (by omega)
        clear c2
        go_wp2_with (at_builtin; refine wp_append_r (.tmp 25) (.tmp 29) rfl 38 rfl 3 1 8 (.int .i64 0) Try.underlying38 intInfoN rfl (by decide) (by decide) w1 wr (.slice A (k - 1) c) (k - 1) _ [.int .i64 ((n : Int) - (k : Int))] rfl HO.out rfl rfl (by simp [Value.oneCell']) HE.out (by have := HC.out; have := HCN.out; have := HN.out; omega) ?_; intro v4 w4 own4 x4 _)
        rw [← HP.out, show k - 1 + 1 = k + 1 - 1 by have := HK1.out; omega] at own4
        have O4 := Lib.hid own4
        have X4 := Lib.hid x4
        clear own4 x4
        go_wp2
        go_roundw
        case rel => exact ⟨k + 1, by omega, by have := HC.out; omega, by simp, O4.out, X4.out⟩
        case measure => have := HC.out; simp [intOf]; omega
    · have hk : k = C + 1 := by omega
      have hf := HW.out _ _ _ _ HO.out
      rw [hk, show C + 1 - 1 = C by omega] at hf
      have e1 : (Value.slice A (C + 1 - 1) c) = .slice A (k - 1) c := by rw [hk]
      rw [show (Value.slice A C c) = .slice A (k - 1) c by rw [hk]; rfl] at hf
      have HF := Lib.hid hf
      have HFX := Lib.hid (HX.out _ HE.out)
      by_cases hCn : C < n
      · obtain ⟨hm, hm2⟩ := HC2.out hCn
        have t0 : decide ((k : Int) ≤ (n : Int)) = true := decide_eq_true (by omega)
        have t0n : decide (k ≤ n) = true := decide_eq_true (by omega)
        have t1 : decide (m ≤ 0) = false := decide_eq_false (by omega)
        have t2 : decide ((k : Int) ≤ m) = false := decide_eq_false (by omega)
        clear n0 n1 n2 hk1 hk2 hjC hCn hk hf e1 hm hm2
        go_wp2
        go_ret
        exact ⟨_, rfl, HF.out, HFX.out⟩
      · have t0 : decide ((k : Int) ≤ (n : Int)) = false := decide_eq_false (by omega)
        have t0n : decide (k ≤ n) = false := decide_eq_false (by omega)
        clear n0 n1 n2 hk1 hk2 hjC hCn hk hf e1
        go_wp2
        go_ret
        exact ⟨_, rfl, HF.out, HFX.out⟩
end Go.Proofs.Ythgbdonjheengaa
