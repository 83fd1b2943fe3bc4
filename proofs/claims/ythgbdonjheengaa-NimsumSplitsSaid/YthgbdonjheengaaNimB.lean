/- Walks: rows of bytes: Clone, the first that is not below, insert's closure. -/
import Derived.Test.YthgbdonjheengaaOwnR
import Derived.Test.YthgbdonjheengaaNimS
import Derived.Test.YthgbdonjheengaaNimC
import Derived.ProofKit
import Derived.OpenShut
import Derived.Outline
import Derived.Lib.Hide
namespace Go.Proofs.Ythgbdonjheengaa
open Go.ChangeShapes Go.WideShapes Go.ChangeAt Go.RowKit
set_option linter.unusedVariables false
def bytesN (l : List Nat) : List Value := l.map fun (x : Nat) => Value.int .u8 (x : Int)
theorem one_bytes (l : List Nat) : ∀ u ∈ bytesN l, u.oneCell' = true := by
  intro u hu
  obtain ⟨z, _, rfl⟩ := List.mem_map.1 hu
  rfl
theorem bytesN_len (l : List Nat) : (bytesN l).length = l.length := by simp [bytesN]
theorem byteInfoN : (Try.prog.info? 5).map (fun i => (i.zero, i.size, i.bytes)) = some (some (.int .u8 0), 1, 1) := by kernel_rfl
theorem cloneBytes_any (A : Option Addr) (n c : Nat) (zs : List Nat) (w : World) (hn : zs.length = n) (hm : n ≤ 2 ^ 40) (hA : A = none → n = 0) (hz : CellsAt w A (bytesN zs)) :
    Calls Try.prog 18 #[.slice A n c] w fun e w' => ∃ v, e = .returned v ∧ OwnR 5 1 w w' v zs.length (bytesN zs) ∧ Ext w w' := by
  subst hn
  have hnil := fun W => Lib.run_eql_slice_nil (P := Try.prog) W 46 5 A zs.length c 0 0 Try.underlying46
  obtain ⟨i0, hi, hz0, hz1, hz2⟩ := info_parts byteInfoN
  cases A with
  | none =>
    have h0 : zs = [] := List.eq_nil_of_length_eq_zero (hA rfl)
    subst h0
    simp only [List.length_nil] at hnil ⊢
    go_enter Try.func18, Try.ntmps18
    go_wp2
    go_ret
    exact ⟨_, rfl, OwnR.nil _ _ _ _, Below.refl _ _⟩
  | some ad =>
    have hcs := hz
    clear hA
    have hown := World.ownsRow_made w #[] 0 (base := w.heap.size) (e := 5) (size := 1) (Nat.le_refl _) (by simp [maxLen]) rfl
    go_enter Try.func18, Try.ntmps18
    go_wp2_with (at_builtin; refine wpList_append_cells _ rfl (.tmp 5) (.tmp 6) 46 rfl w.heap.size 5 i0 (.int .u8 0) 1 1 Try.underlying46 hi hz0 hz1 hz2 rfl (by decide) _ 0 [] rfl hown (some ad) zs.length c (bytesN zs) rfl (by simp [bytesN]) (hcs.ext (ext_alloc (Below.refl _ _) _)) (one_bytes zs) (by simp only [maxLen]; omega) (by omega) (by simp) (by simp) ?_; intro v' w1 hown1 hgrow)
    obtain ⟨A', c', rfl, _, _⟩ := own_shape hown1
    go_ret
    simp only [Nat.zero_add, List.nil_append] at hown1
    exact ⟨_, rfl, ⟨A', c', by simp, hown1⟩, ext_grown (ext_alloc (Below.refl _ _) _) hgrow (own_row hown)⟩
/-- The first place whose number is not below x. -/
def idxN (x : Nat) : List Nat → Nat
  | [] => 0
  | y :: l => if x ≤ y then 0 else idxN x l + 1
theorem idxN_le (x : Nat) : ∀ l, idxN x l ≤ l.length
  | [] => Nat.le_refl _
  | y :: l => by
    unfold idxN
    have := idxN_le x l
    rw [List.length_cons]
    split <;> omega
theorem idxN_lt (x : Nat) : ∀ (l : List Nat) (j y : Nat), l[j]? = some y → j < idxN x l → y < x
  | [], j, y, h, _ => by simp at h
  | z :: l, j, y, h, hj => by
    unfold idxN at hj
    split at hj
    · omega
    · match j with
      | 0 => simp at h; omega
      | j + 1 => exact idxN_lt x l j y (by simpa using h) (by omega)
theorem idxN_at (x : Nat) : ∀ (l : List Nat) (y : Nat), l[idxN x l]? = some y → x ≤ y
  | [], y, h => by simp at h
  | z :: l, y, h => by
    unfold idxN at h
    split at h
    · simp at h; omega
    · exact idxN_at x l y (by simpa using h)
theorem ins_idx (x : Nat) : ∀ l, ins x l = l.take (idxN x l) ++ x :: l.drop (idxN x l)
  | [] => rfl
  | y :: l => by
    unfold ins idxN
    split
    · rfl
    · rw [ins_idx x l]
      rfl
theorem ge_any (y x : Nat) (b : Nat) (w : World) (h : w.cell? ⟨b, 0, none⟩ = some (.int .u8 (x : Int))) : Calls Try.prog 73 #[.int .u8 (y : Int), .pointer (some ⟨b, 0, none⟩)] w fun e w' => e = .returned (.bool (decide ((x : Int) ≤ (y : Int)))) ∧ w = w' := by
  go_enter Try.func73, Try.ntmps73
  go_wp2
  go_ret
  exact ⟨by first | rfl | simp, rfl⟩
set_option maxHeartbeats 4000000 in
set_option maxRecDepth 100000 in
theorem idx_any (x : Nat) (b : Nat) (A : Option Addr) (c : Nat) (l : List Nat) (w : World) (h : w.cell? ⟨b, 0, none⟩ = some (.int .u8 (x : Int))) (hl : l.length ≤ 100000) (hA : CellsAt w A (bytesN l)) :
    Calls Try.prog 72 #[.slice A l.length c, .func (.func 73) #[] #[.pointer (some ⟨b, 0, none⟩)]] w fun e w' => e = .returned (.int .i64 (if idxN x l < l.length then (idxN x l : Int) else -1)) ∧ w = w' := by
  have HA := Lib.hid hA
  have HI := Lib.hid (idxN_le x l)
  have HLT := Lib.hid (idxN_lt x l)
  have HAT := Lib.hid (idxN_at x l)
  have HH := Lib.hid h
  obtain ⟨n, hn⟩ : ∃ n, n = l.length := ⟨_, rfl⟩
  have HN := Lib.hid hn
  rw [← hn] at hl HI ⊢
  generalize idxN x l = q at *
  clear hA h hn
  go_enter Try.func72, Try.ntmps72
  go_wp2_with fail
  go_loop [8] (fun i => ∃ k : Nat, k ≤ q ∧ i = .int .i64 (k : Int)) (fun i => n - (intOf i).toNat)
  case atStart => exact ⟨0, Nat.zero_le _, rfl⟩
  case round =>
    obtain ⟨k, hk, rfl⟩ := hrel
    have hqn := HI.out
    by_cases hkn : k < n
    · obtain ⟨y, hy⟩ : ∃ y, l[k]? = some y := ⟨_, List.getElem?_eq_getElem (by rw [← HN.out]; exact hkn)⟩
      obtain ⟨bb, o, rfl, hc⟩ := HA.out k (.int .u8 (y : Int)) (by simp [bytesN, hy])
      have i1 : (k : Int) < (n : Int) := by omega
      have HG := Lib.hid (ge_any y x b w HH.out)
      have HKN := Lib.hid hkn
      by_cases hkq : k < q
      · have hlt := HLT.out k y hy hkq
        rw [show decide ((x : Int) ≤ (y : Int)) = false from decide_eq_false (by omega)] at HG
        have HKQ := Lib.hid hkq
        clear hy hlt hkq hk hqn hkn
        go_wp2_with fail
        refine HG.out.mono ?_
        rintro e w2 ⟨rfl, rfl⟩
        go_wp2
        go_round
        case rel => exact ⟨k + 1, HKQ.out, by go_num⟩
        case measure => have := HKN.out; simp [intOf]; omega
      · obtain rfl : k = q := by omega
        have hle := HAT.out y hy
        rw [show decide ((x : Int) ≤ (y : Int)) = true from decide_eq_true (by omega)] at HG
        clear hy hle hkq hk hqn hkn
        go_wp2_with fail
        refine HG.out.mono ?_
        rintro e w2 ⟨rfl, rfl⟩
        go_wp2
        go_ret
        exact ⟨by first | rfl | simp, rfl⟩
    · obtain rfl : k = n := by omega
      obtain rfl : q = k := by omega
      clear hk hqn hkn
      go_wp2
      go_ret
      exact ⟨by first | rfl | simp, rfl⟩
end Go.Proofs.Ythgbdonjheengaa
