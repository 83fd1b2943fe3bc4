/- Walk: summed: values of games are computed at the samples. -/
import Derived.Test.YthgbdonjheengaaNimW
import Derived.Test.YthgbdonjheengaaNimU
import Derived.Test.YthgbdonjheengaaFine
import Derived.Test.YthgbdonjheengaaBlks
namespace Go.Proofs.Ythgbdonjheengaa
open Go.RowKit Go.Maps
set_option linter.unusedVariables false
theorem nodup_len {α : Type} : ∀ (L M : List α), L.Nodup → (∀ x ∈ L, x ∈ M) → L.length ≤ M.length
  | [], M, _, _ => Nat.zero_le _
  | x :: L, M, hn, h => by
    classical
    obtain ⟨h1, h2⟩ := List.nodup_cons.1 hn
    have hx := h x (List.mem_cons_self ..)
    have ih := nodup_len L (M.erase x) h2 fun y hy => by
      have hne : y ≠ x := fun e => h1 (e ▸ hy)
      exact (List.mem_erase_of_ne hne).2 (h y (List.mem_cons_of_mem _ hy))
    rw [List.length_erase_of_mem hx] at ih
    have := List.length_pos_of_mem hx
    rw [List.length_cons]
    omega
/-- There are n + 1 heaps of at most n pieces. -/
theorem over_heap {n most : Nat} (h : OverN (fun x => x ≤ n) most) : most + 1 ≤ n + 1 := by
  obtain ⟨L, h1, h2, h3⟩ := h
  have := nodup_len L (List.range (n + 1)) h1 fun x hx => List.mem_range.2 (by have := h3 x hx; omega)
  rw [List.length_range] at this
  omega
theorem heap_closed (m : Int) (n : Nat) : ∀ x, x ≤ n → ∀ t ∈ nxH m x, t ≤ n := fun x hx t ht => by
  have : t < x := falls_heap m x t ht
  omega
theorem heapP (m : Int) {n : Nat} (hn : n ≤ 20000) : ∀ x, (fun x => x ≤ n) x → x ≤ 20000 ∧ ∀ t ∈ nxH m x, (fun x => x ≤ n) t := fun x hx => ⟨Nat.le_trans hx hn, heap_closed m n x hx⟩
/-- The value of a heap, where the bound suffices. -/
theorem heap_val (m : Int) (most n : Nat) (hn : n < most) (hm : most ≤ 20000) (w : World) : Calls Try.prog 10 #[heapG m, .int .i64 (n : Int), .int .i64 (most : Int)] w fun e w' => e = .returned (.tuple #[.int .i64 (grH m n : Int), .int .i64 0]) ∧ Ext w w' := by
  refine (valueI_of m most (by omega) hm (fun x => x ≤ n) (heapP m (by omega)) n (Nat.le_refl _) w).mono ?_
  rintro e w' ⟨x, ⟨he, _⟩ | ⟨_, ho⟩⟩
  · exact ⟨he, x⟩
  · have := over_heap ho
    omega
/-- Sorted lists of one weight. -/
def WtP (W : Nat) (l : List Nat) : Prop := wtS l = W ∧ l.Pairwise (· ≤ ·)
theorem wtP_closed {W : Nat} (hW : W ≤ 64) : ∀ x, WtP W x → wtS x ≤ 64 ∧ ∀ t ∈ nxS x, WtP W t := fun x hx => ⟨by rw [hx.1]; exact hW, fun t ht => ⟨(wt_split ht).trans hx.1, sorted_split ht hx.2⟩⟩
theorem over_wt {W most : Nat} (hW : W < 19) (h : OverN (WtP W) most) : most + 1 ≤ 2000 ∧ (W < 7 → most + 1 ≤ 100) := by
  obtain ⟨L, h1, h2, h3⟩ := h
  obtain ⟨e1, e2⟩ := enS_few W hW
  have := nodup_len L (enS (W + 1) 0 W) h1 fun x hx => by
    obtain ⟨a, b⟩ := h3 x hx
    have := enS_mem b
    rw [a] at this
    exact this
  refine ⟨by omega, fun h7 => ?_⟩
  have := e2 h7
  omega
/-- The value of a sorted list of heaps, where the bound suffices. -/
theorem split_val (l : List Nat) (most : Nat) (hs : l.Pairwise (· ≤ ·)) (hw : wtS l < 19) (hm : most ≤ 20000) (hb : 2000 ≤ most ∨ (wtS l < 7 ∧ 100 ≤ most)) (w : World) :
    Calls Try.prog 19 #[splitG, .string (strV l), .int .i64 (most : Int)] w fun e w' => e = .returned (.tuple #[.int .i64 (grL l : Int), .int .i64 0]) ∧ Ext w w' := by
  refine (valueS_of most (by omega) hm (WtP (wtS l)) (wtP_closed (by omega)) l ⟨rfl, hs⟩ w).mono ?_
  rintro e w' ⟨x, ⟨he, _⟩ | ⟨_, ho⟩⟩
  · exact ⟨he, x⟩
  · have := over_wt hw ho
    omega
theorem fine3 {w : World} {g : Nat} (h : Blk w g 22 #[.int .i64 0, .int .i64 0, .int .i64 0]) : Calls Try.prog 11 #[.slice (some ⟨g, 0, none⟩) 3 3] w fun e w' => e = .returned (.bool true) ∧ w = w' :=
  fine_any (some ⟨g, 0, none⟩) 3 3 [0, 0, 0] w rfl (by omega) (cells_ints (fun i v hi => ⟨g, 0, rfl, by rw [Nat.zero_add, h.cell]; simpa using hi⟩))
theorem fine2 {w : World} {g : Nat} (h : Blk w g 22 #[.int .i64 0, .int .i64 0]) : Calls Try.prog 11 #[.slice (some ⟨g, 0, none⟩) 2 2] w fun e w' => e = .returned (.bool true) ∧ w = w' :=
  fine_any (some ⟨g, 0, none⟩) 2 2 [0, 0] w rfl (by omega) (cells_ints (fun i v hi => ⟨g, 0, rfl, by rw [Nat.zero_add, h.cell]; simpa using hi⟩))
theorem blk_zs {w : World} {g : Nat} {l : List Nat} (h : Blk w g 3 ((zs l).map (Value.int .i64)).toArray) : IntsAt w (some ⟨g, 0, none⟩) (zs l) := cells_ints (fun i v hi => ⟨g, 0, rfl, by rw [Nat.zero_add, h.cell]; simpa using hi⟩)
theorem take_14 {w : World} {g : Nat} (h : Blk w g 3 #[.int .i64 1, .int .i64 4]) : Calls Try.prog 13 #[.slice (some ⟨g, 0, none⟩) 2 2] w fun e w' => e = .returned (.tuple #[.int .i64 1, .int .i64 1, .int .i64 0]) ∧ Ext w w' := by
  refine (take_any [1, 4] (by decide) (by decide) (some ⟨g, 0, none⟩) 2 w (blk_zs h)).mono ?_
  rintro e w' ⟨x, ⟨i, k, h1, h2, rfl⟩ | ⟨h0, _⟩⟩
  · have hx : xorN [1, 4] = 5 := by decide
    rw [hx] at h2 ⊢
    match i, h1 with
    | 0, h1 =>
      obtain rfl : 1 = k := Option.some.inj h1
      exact absurd h2 (by decide)
    | 1, h1 =>
      obtain rfl : 4 = k := Option.some.inj h1
      exact ⟨rfl, x⟩
    | i + 2, h1 => simp at h1
  · exact absurd h0 (by decide)
theorem sum_53 {w : World} {g : Nat} (h : Blk w g 3 #[.int .i64 5, .int .i64 3]) : Calls Try.prog 12 #[.slice (some ⟨g, 0, none⟩) 2 2] w fun e w' => e = .returned (.int .i64 6) ∧ w = w' :=
  sum_any [5, 3] (by decide) (by decide) (some ⟨g, 0, none⟩) 2 w (blk_zs h)
theorem gr_25 : grH 2 5 = 2 := by decide +kernel
theorem gr_3 : grL [3] = 1 := by decide +kernel
theorem value_25 (w : World) : Calls Try.prog 10 #[heapG 2, .int .i64 5, .int .i64 100] w fun e w' => e = .returned (.tuple #[.int .i64 2, .int .i64 0]) ∧ Ext w w' := by
  have h := heap_val 2 100 5 (by decide) (by decide) w
  rw [gr_25] at h
  exact h
theorem value_s3 (w : World) : Calls Try.prog 19 #[splitG, .string ⟨#[3]⟩, .int .i64 100] w fun e w' => e = .returned (.tuple #[.int .i64 1, .int .i64 0]) ∧ Ext w w' := by
  have h := split_val [3] 100 (by decide) (by decide) (by decide) (by decide) w
  rw [gr_3] at h
  exact h
set_option maxHeartbeats 2000000 in
set_option maxRecDepth 100000 in
theorem summed_any (w : World) : Calls Try.prog 9 #[] w fun e w' => e = .returned (.bool true) ∧ Ext w w' := by
  go_enter Try.func9, Try.ntmps9
  go_wp2_with fail
  refine (value_25 _).mono ?_
  rintro e w2 ⟨rfl, x⟩
  have X := x
  clear x
  go_wp2_with fail
  refine (value_s3 _).mono ?_
  rintro e w3 ⟨rfl, x⟩
  replace X := ext_trans X x
  clear x
  go_wp2_with fail
  obtain ⟨xa, k1⟩ := blks1 w3 #[.int .i64 1, .int .i64 4] 3
  replace X := ext_trans X xa
  clear xa
  generalize (w3.alloc (.cells #[.int .i64 1, .int .i64 4] 3)) = w4 at *
  generalize w3.heap.size = B1 at *
  refine (take_14 k1).mono ?_
  rintro e w5 ⟨rfl, x⟩
  replace k1 := k1.ext x
  replace X := ext_trans X x
  clear x
  clear k1
  obtain ⟨xa, k2⟩ := blks1 w5 #[.int .i64 0, .int .i64 0, .int .i64 0] 22
  replace X := ext_trans X xa
  clear xa
  go_wp2_with fail
  generalize (w5.alloc (.cells #[.int .i64 0, .int .i64 0, .int .i64 0] 22)) = w6 at *
  generalize w5.heap.size = B2 at *
  refine (fine3 k2).mono ?_
  rintro e w9 ⟨rfl, rfl⟩
  clear k2
  obtain ⟨xa, k3⟩ := blks1 w6 #[.int .i64 5, .int .i64 3] 3
  replace X := ext_trans X xa
  clear xa
  go_wp2_with fail
  generalize (w6.alloc (.cells #[.int .i64 5, .int .i64 3] 3)) = w7 at *
  generalize w6.heap.size = B3 at *
  refine (sum_53 k3).mono ?_
  rintro e w9 ⟨rfl, rfl⟩
  clear k3
  go_wp2
  go_ret
  exact ⟨by first | rfl | simp, X⟩
end Go.Proofs.Ythgbdonjheengaa
