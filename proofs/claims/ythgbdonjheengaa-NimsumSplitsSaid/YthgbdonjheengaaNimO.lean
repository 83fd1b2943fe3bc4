/- Walk: slices.Sort over at most twelve bytes. -/
import Derived.Test.YthgbdonjheengaaNimX
import Derived.Test.YthgbdonjheengaaLNimTaken
import Derived.StillTailTactics
import Derived.Deep.Cut
import Derived.Test.YthgbdonjheengaaRegionK
import Derived.Deep.QuietTactic
import Derived.BigQuiet
namespace Go.Proofs.Ythgbdonjheengaa
open Go.RowKit Go.Maps
set_option linter.unusedVariables false
set_option linter.unusedSimpArgs false
/-- Block g begins with the bytes of l. -/
def RowB (w : World) (g c : Nat) (l : List Nat) : Prop := ∃ cur : Array Value, Blk w g 5 cur ∧ cur.size = c ∧ l.length ≤ c ∧ ∀ (j x : Nat), l[j]? = some x → cur[j]? = some (.int .u8 (x : Int))
theorem RowB.cell {w : World} {g c : Nat} {l : List Nat} (h : RowB w g c l) {j x : Nat} (hj : l[j]? = some x) : w.cell? ⟨g, j, none⟩ = some (.int .u8 (x : Int)) := by
  obtain ⟨cur, hb, _, _, hc⟩ := h
  rw [hb.cell, hc j x hj]
theorem RowB.frozen {w : World} {g c : Nat} {l : List Nat} (h : RowB w g c l) (j : Nat) : w.frozen? ⟨g, j, none⟩ = false := by
  obtain ⟨cur, hb, _⟩ := h
  exact hb.frozen j
theorem RowB.set {w : World} {g c : Nat} {l : List Nat} (h : RowB w g c l) {i : Nat} (hi : i < l.length) (y : Nat) : RowB (w.setCell ⟨g, i, none⟩ (.int .u8 (y : Int))) g c (l.set i y) := by
  obtain ⟨cur, hb, hs, hl, hc⟩ := h
  refine ⟨_, hb.set_ i _, by simpa using hs, by rw [List.length_set]; exact hl, fun j x hj => ?_⟩
  rw [List.getElem?_set] at hj
  by_cases hij : i = j
  · subst hij
    rw [if_pos rfl, if_pos hi] at hj
    rw [Array.getElem?_setIfInBounds, if_pos rfl, if_pos (by omega), ← Option.some.inj hj]
  · rw [if_neg hij] at hj
    rw [Array.getElem?_setIfInBounds, if_neg hij]
    exact hc j x hj
theorem RowB.drewN {w : World} {g c : Nat} {l : List Nat} (h : RowB w g c l) (k : Nat) : RowB (w.drewN k) g c l := h
theorem RowB.cells {w : World} {g c : Nat} {l : List Nat} (h : RowB w g c l) : CellsAt w (some ⟨g, 0, none⟩) (bytesN l) := by
  intro j v hj
  refine ⟨g, 0, rfl, ?_⟩
  have hjl : j < l.length := by have := (List.getElem?_eq_some_iff.1 hj).1; simpa [bytesN] using this
  rw [Nat.zero_add, h.cell (List.getElem?_eq_getElem hjl)]
  simp only [bytesN, List.getElem?_map, List.getElem?_eq_getElem hjl, Option.map_some, Option.some.injEq] at hj
  rw [← hj]
/-- The neighbours j - 1 and j exchanged. -/
def swapN (l : List Nat) (j : Nat) : List Nat := (l.set j (l.getD (j - 1) 0)).set (j - 1) (l.getD j 0)
theorem swapN_get {l : List Nat} {j : Nat} (hj : 1 ≤ j) (hl : j < l.length) (p : Nat) : (swapN l j).getD p 0 = if p = j then l.getD (j - 1) 0 else if p = j - 1 then l.getD j 0 else l.getD p 0 := by
  unfold swapN
  simp only [List.getD_eq_getElem?_getD, List.getElem?_set, List.length_set]
  by_cases h1 : p = j
  · subst h1
    rw [if_neg (by omega), if_pos rfl, if_pos hl, if_pos rfl]
    rfl
  · by_cases h2 : p = j - 1
    · subst h2
      rw [if_pos rfl, if_pos (by omega), if_neg h1, if_pos rfl]
      rfl
    · rw [if_neg (by omega), if_neg (by omega), if_neg h1, if_neg h2]
theorem swapN_perm : ∀ {l : List Nat} {j : Nat}, 1 ≤ j → j < l.length → (swapN l j).Perm l
  | [], j, _, h => by simp at h
  | [a], j, h1, h => by simp at h; omega
  | a :: b :: l, 1, _, _ => List.Perm.swap a b l
  | a :: b :: l, j + 2, _, h => by
    have ih := swapN_perm (l := b :: l) (j := j + 1) (by omega) (by simpa using h)
    exact ih.cons a
theorem swapN_len (l : List Nat) (j : Nat) : (swapN l j).length = l.length := by unfold swapN; rw [List.length_set, List.length_set]
theorem less_any (x y : Nat) (w : World) : Calls Try.prog 42 #[.int .u8 (x : Int), .int .u8 (y : Int)] w fun e w' => e = .returned (.bool (decide (x < y))) ∧ w = w' := by
  by_cases h : x < y
  · have t0 : decide ((x : Int) < (y : Int)) = true := decide_eq_true (by omega)
    go_enter Try.func42, Try.ntmps42
    go_wp2_with (first | (go_at_call 52; go_in))
    go_ret
    exact ⟨by first | rfl | simp [h], rfl⟩
  · have t0 : decide ((x : Int) < (y : Int)) = false := decide_eq_false (by omega)
    go_enter Try.func42, Try.ntmps42
    go_wp2_with (first | (go_at_call 52; go_in))
    go_ret
    exact ⟨by first | rfl | (simp; omega), rfl⟩
def SortedTo (l : List Nat) (i : Nat) : Prop := ∀ p q, p < q → q < i → l.getD p 0 ≤ l.getD q 0
def InvJ (l : List Nat) (i j : Nat) : Prop := ∀ p q, p < q → q ≤ i → q ≠ j → l.getD p 0 ≤ l.getD q 0
theorem inv_start {l : List Nat} {i : Nat} (h : SortedTo l i) : InvJ l i i := fun p q h1 h2 h3 => h p q h1 (by omega)
theorem inv_swap {l : List Nat} {i j : Nat} (h : InvJ l i j) (hj : 1 ≤ j) (hji : j ≤ i) (hl : i < l.length) (hlt : l.getD j 0 < l.getD (j - 1) 0) : InvJ (swapN l j) i (j - 1) := fun p q h1 h2 h3 => by
  rw [swapN_get hj (by omega), swapN_get hj (by omega)]
  by_cases q1 : q = j
  · subst q1
    rw [if_pos rfl, if_neg (by omega : ¬ p = q)]
    by_cases p1 : p = q - 1
    · rw [if_pos p1]; omega
    · rw [if_neg p1]
      exact h p (q - 1) (by omega) (by omega) (by omega)
  · rw [if_neg q1, if_neg h3]
    by_cases p1 : p = j
    · rw [if_pos p1]
      exact h (j - 1) q (by omega) h2 q1
    · rw [if_neg p1]
      by_cases p2 : p = j - 1
      · rw [if_pos p2]
        exact h j q (by omega) h2 q1
      · rw [if_neg p2]
        exact h p q h1 h2 q1
theorem inv_end {l : List Nat} {i j : Nat} (h : InvJ l i j) (hji : j ≤ i) (he : j = 0 ∨ ¬ l.getD j 0 < l.getD (j - 1) 0) : SortedTo l (i + 1) := fun p q h1 h2 => by
  by_cases hq : q = j
  · subst hq
    rcases he with he | he
    · omega
    · by_cases hp : p = q - 1
      · rw [hp]; omega
      · have := h p (q - 1) (by omega) (by omega) (by omega)
        omega
  · exact h p q h1 (by omega) hq
theorem sorted_all {l : List Nat} (h : SortedTo l l.length) : l.Pairwise (· ≤ ·) := by
  refine List.pairwise_iff_getElem.2 fun p q hp hq hpq => ?_
  have := h p q hpq hq
  rwa [List.getD_eq_getElem?_getD, List.getD_eq_getElem?_getD, List.getElem?_eq_getElem hp, List.getElem?_eq_getElem hq] at this
theorem getD_some {l : List Nat} {p : Nat} (h : p < l.length) : l[p]? = some (l.getD p 0) := by
  rw [List.getD_eq_getElem?_getD, List.getElem?_eq_getElem h]; rfl
set_option maxHeartbeats 4000000 in
set_option maxRecDepth 100000 in
theorem isort_any (l : List Nat) (n : Nat) (hn : l.length = n) (hn1 : 1 ≤ n) (hn12 : n ≤ 12) (w0 w : World) (g c : Nat) (hc : n ≤ c) (hr : RowB w g c l) (hg : w0.heap.size ≤ g) (hx : Ext w0 w) :
    Calls Try.prog 36 #[.slice (some ⟨g, 0, none⟩) n c, .int .i64 0, .int .i64 (n : Int)] w fun e w' => e = .returned (.tuple #[]) ∧ ∃ l', l'.Perm l ∧ l'.Pairwise (· ≤ ·) ∧ RowB w' g c l' ∧ Ext w0 w' := by
  have HR := Lib.hid hr
  have HX := Lib.hid hx
  have HG := Lib.hid hg
  have HN := Lib.hid hn
  have HN1 := Lib.hid hn1
  clear hr hx hg hn hn1
  go_enter Try.func36, Try.ntmps36
  go_wp2_with fail
  go_loopw [6] (fun v wr => ∃ (i : Nat) (l1 : List Nat), 1 ≤ i ∧ i ≤ n ∧ v = .int .i64 (i : Int) ∧ l1.Perm l ∧ SortedTo l1 i ∧ RowB wr g c l1 ∧ Ext w0 wr) (fun v _ => n - (intOf v).toNat)
  case atStart => exact ⟨1, l, Nat.le_refl _, HN1.out, rfl, List.Perm.refl _, fun p q h1 h2 => by omega, HR.out, HX.out⟩
  case round =>
    obtain ⟨i, l1, hi1, hi2, rfl, hp, hs, hrr, hxx⟩ := hrel
    have HP := Lib.hid hp
    have HS := Lib.hid hs
    have HRR := Lib.hid hrr
    have HXX := Lib.hid hxx
    by_cases hin : i < n
    · have t0 : decide ((i : Int) < (n : Int)) = true := decide_eq_true (by omega)
      have t0n : decide (i < n) = true := decide_eq_true hin
      have HI := Lib.hid hin
      have HI1 := Lib.hid hi1
      have i9 : (i : Int) ≤ 12 := by omega
      clear hp hs hrr hxx hi2 hi1 hin
      go_wp2_with fail
      go_loopw [7] (fun v wr => ∃ (j : Nat) (l2 : List Nat), j ≤ i ∧ v = .int .i64 (j : Int) ∧ l2.Perm l ∧ InvJ l2 i j ∧ RowB wr g c l2 ∧ Ext w0 wr) (fun v _ => (intOf v).toNat)
      case atStart => exact ⟨i, l1, Nat.le_refl _, rfl, HP.out, inv_start HS.out, HRR.out, HXX.out⟩
      case round =>
        obtain ⟨j, l2, hj, rfl, hp2, hv2, hr2, hx2⟩ := hrel
        have hl2 : l2.length = n := by rw [hp2.length_eq]; exact HN.out
        have hin := HI.out
        by_cases h0 : j = 0
        · subst h0
          have HE := Lib.hid (And.intro hp2 (And.intro (inv_end hv2 hj (.inl rfl)) (And.intro hr2 hx2)))
          clear hp2 hv2 hr2 hx2 hl2 hin hj
          go_wp2_with (go_quiet (fail))
          go_roundw
          case rel => exact ⟨i + 1, l2, by omega, HI.out, by go_num, HE.out.1, HE.out.2.1, HE.out.2.2.1.drewN _, ext_drewN HE.out.2.2.2 _⟩
          case measure => have := HI.out; simp [intOf]; omega
        · obtain ⟨k, rfl⟩ : ∃ k, j = k + 1 := ⟨j - 1, by omega⟩
          have hcj := hr2.cell (getD_some (l := l2) (p := k + 1) (by omega))
          have hck := hr2.cell (getD_some (l := l2) (p := k) (by omega))
          have HLS := Lib.hid (fun W => (less_any (l2.getD (k + 1) 0) (l2.getD k 0) W).mono fun e w' h => (show e = Ending.returned (.bool (decide (l2.getD (k + 1) 0 < l2.getD k 0))) ∧ w' = W from ⟨h.1, h.2.symm⟩))
          have k0 : (0 : Int) < ((k + 1 : Nat) : Int) := by omega
          have k1 : decide ((0 : Int) < ((k + 1 : Nat) : Int)) = true := decide_eq_true k0
          have k1n : decide (0 < k + 1) = true := decide_eq_true (by omega)
          have k5 : (0 : Int) ≤ ((k + 1 : Nat) : Int) - 1 := by omega
          have k2 : IntKind.i64.wrap (((k + 1 : Nat) : Int) - 1) = (k : Int) := by rw [IntKind.wrap_i64]; omega
          have k3 : ((k + 1 : Nat) : Int) < (n : Int) := by omega
          have k4 : (k : Int) < (n : Int) := by omega
          have HK := Lib.hid (show k + 1 < n by omega)
          have HKI := Lib.hid hj
          by_cases hlt : l2.getD (k + 1) 0 < l2.getD k 0
          · rw [decide_eq_true hlt] at HLS
            have HE := Lib.hid (And.intro ((swapN_perm (l := l2) (j := k + 1) (by omega) (by omega)).trans hp2) (inv_swap hv2 (by omega) hj (by omega) hlt))
            have HR2 := Lib.hid hr2
            have HX2 := Lib.hid hx2
            have HL2 := Lib.hid hl2
            clear hp2 hv2 hr2 hx2 hl2 hin hj h0 hlt
            generalize hy1 : l2.getD (k + 1) 0 = y1 at *
            generalize hy0 : l2.getD k 0 = y0 at *
            have HY1 := Lib.hid hy1
            have HY0 := Lib.hid hy0
            clear hy1 hy0
            obtain ⟨j, hj⟩ : ∃ j, j = k + 1 := ⟨_, rfl⟩
            have HJ := Lib.hid hj
            rw [← hj] at hcj k0 k1 k1n k2 k3 k5 ⊢
            clear hj
            go_upto_region 4 with fail
            go_quiet ((go_at_call 42; exact Calls.quiet_of_same (HLS.out _)))
            have hr3 := HR2.out.drewN nq
            have hx3 := ext_drewN HX2.out nq
            have HR3 := Lib.hid hr3
            have HX3 := Lib.hid hx3
            clear hr3 hx3 hcj hck
            generalize wr.drewN nq = w3 at *
            go_upto_region 6 with fail
            have kn : k + 1 < l2.length := by have := HK.out; have := HL2.out; omega
            have hcj := HR3.out.cell (getD_some (l := l2) (p := k + 1) kn)
            have hck := HR3.out.cell (getD_some (l := l2) (p := k) (by omega))
            rw [HY1.out, ← HJ.out] at hcj
            rw [HY0.out] at hck
            have ss : RowB w3.drew g c l2 := HR3.out
            have xs : Ext w0 w3.drew := Below.drew HX3.out
            have ffj : w3.drew.frozen? ⟨g, j, none⟩ = false := ss.frozen j
            have k9 := ss.set (i := j) (by rw [HJ.out]; exact kn) y0
            have hgk : (l2.set j y0)[k]? = some y0 := by rw [List.getElem?_set, if_neg (by have := HJ.out; omega), getD_some (by omega : k < l2.length), HY0.out]
            have x9 := ext_set xs (p := ⟨g, j, none⟩) HG.out (.int .u8 (y0 : Int))
            have k10 := k9.set (i := k) (by rw [List.length_set]; omega) y1
            have x10 := ext_set x9 (p := ⟨g, k, none⟩) HG.out (.int .u8 (y1 : Int))
            have HRF := Lib.hid (show RowB ((w3.drew.setCell ⟨g, j, none⟩ (.int .u8 (y0 : Int))).setCell ⟨g, k, none⟩ (.int .u8 (y1 : Int))) g c (swapN l2 (k + 1)) by
              unfold swapN
              rw [Nat.add_sub_cancel, HY0.out, HY1.out, ← HJ.out]
              exact k10)
            have HXF := Lib.hid x10
            clear kn
            replace hcj : w3.drew.cell? ⟨g, j, none⟩ = some (.int .u8 (y1 : Int)) := hcj
            replace hck : w3.drew.cell? ⟨g, k, none⟩ = some (.int .u8 (y0 : Int)) := hck
            have mixed : Try.prog.follows Departure.mixedOrders = true := by kernel_rfl
            have keepK := hide (fun W (h : (∃ lx, RowB W g c lx ∧ Ext w0 W)) => (show (fun W => (∃ lx, RowB W g c lx ∧ Ext w0 W)) W from h))
            have yy := (⟨_, ss, xs⟩ : ∃ lx, RowB w3.drew g c lx ∧ Ext w0 w3.drew)
            refine region_K (fun W => (∃ lx, RowB W g c lx ∧ Ext w0 W)) (fun W => W.cell? ⟨g, j, none⟩ = some (.int .u8 (y1 : Int)) ∧ W.cell? ⟨g, k, none⟩ = some (.int .u8 (y0 : Int))) [15, 17] (by kernel_rfl) ?_
            have hS0 := And.intro hcj hck
            have hT0 := keepK.out _ yy
            refine anyK_take 0 (oi := ?oo1) ?ho1 (by kernel_rfl) (by kernel_rfl) (by kernel_rfl) (by kernel_rfl) ?hq1 ?hw1 hT0 (fun _ => hS0) (v := ?vv1) ?hy1 ?hk1
            case ho1 => (simp only [List.getElem?_toArray, List.getElem?_cons_succ, List.getElem?_cons_zero]; rfl)
            case hq1 => exact fun _ _ _ h => h
            case hw1 => rfl
            case hy1 =>
              intro W hW
              go_simp
              first | done | with_reducible rfl
            case hk1 =>
            try simp only [Act.put, List.setIfInBounds_toArray, List.set_cons_zero, List.set_cons_succ]
            refine anyK_take 1 (oi := ?oo2) ?ho2 (by kernel_rfl) (by kernel_rfl) (by kernel_rfl) (by kernel_rfl) ?hq2 ?hw2 hT0 (fun _ => hS0) (v := ?vv2) ?hy2 ?hk2
            case ho2 => (simp only [List.getElem?_toArray, List.getElem?_cons_succ, List.getElem?_cons_zero]; rfl)
            case hq2 => exact fun _ _ _ h => h
            case hw2 => rfl
            case hy2 =>
              intro W hW
              go_simp
              first | done | with_reducible rfl
            case hk2 =>
            try simp only [Act.put, List.setIfInBounds_toArray, List.set_cons_zero, List.set_cons_succ]
            refine anyK_take 2 (oi := ?oo3) ?ho3 (by kernel_rfl) (by kernel_rfl) (by kernel_rfl) (by kernel_rfl) ?hq3 ?hw3 hT0 (fun _ => hS0) (v := ?vv3) ?hy3 ?hk3
            case ho3 => (simp only [List.getElem?_toArray, List.getElem?_cons_succ, List.getElem?_cons_zero]; rfl)
            case hq3 => exact fun _ _ _ h => h
            case hw3 => rfl
            case hy3 =>
              intro W hW
              go_simp
              first | done | with_reducible rfl
            case hk3 =>
            try simp only [Act.put, List.setIfInBounds_toArray, List.set_cons_zero, List.set_cons_succ]
            refine anyK_take 3 (oi := ?oo4) ?ho4 (by kernel_rfl) (by kernel_rfl) (by kernel_rfl) (by kernel_rfl) ?hq4 ?hw4 hT0 (fun _ => hS0) (v := ?vv4) ?hy4 ?hk4
            case ho4 => (simp only [List.getElem?_toArray, List.getElem?_cons_succ, List.getElem?_cons_zero]; rfl)
            case hq4 => exact fun _ _ _ h => h
            case hw4 => rfl
            case hy4 =>
              intro W hW
              go_simp
              first | done | with_reducible rfl
            case hk4 =>
            try simp only [Act.put, List.setIfInBounds_toArray, List.set_cons_zero, List.set_cons_succ]
            refine anyK_take 4 (oi := ?oo5) ?ho5 (by kernel_rfl) (by kernel_rfl) (by kernel_rfl) (by kernel_rfl) ?hq5 ?hw5 hT0 (fun _ => hS0) (v := ?vv5) ?hy5 ?hk5
            case ho5 => (simp only [List.getElem?_toArray, List.getElem?_cons_succ, List.getElem?_cons_zero]; rfl)
            case hq5 => exact fun _ _ _ h => h
            case hw5 => rfl
            case hy5 =>
              intro W hW
              go_simp
              first | done | with_reducible rfl
            case hk5 =>
            try simp only [Act.put, List.setIfInBounds_toArray, List.set_cons_zero, List.set_cons_succ]
            refine anyK_take 5 (oi := ?oo6) ?ho6 (by kernel_rfl) (by kernel_rfl) (by kernel_rfl) (by kernel_rfl) ?hq6 ?hw6 hT0 (fun _ => hS0) (v := ?vv6) ?hy6 ?hk6
            case ho6 => (simp only [List.getElem?_toArray, List.getElem?_cons_succ, List.getElem?_cons_zero]; rfl)
            case hq6 => exact fun _ _ _ h => h
            case hw6 => rfl
            case hy6 =>
              intro W hW
              go_simp
              first | done | with_reducible rfl
            case hk6 =>
            try simp only [Act.put, List.setIfInBounds_toArray, List.set_cons_zero, List.set_cons_succ]
            refine anyK_take 6 (oi := ?oo7) ?ho7 (by kernel_rfl) (by kernel_rfl) (by kernel_rfl) (by kernel_rfl) ?hq7 ?hw7 hT0 (fun _ => hS0) (v := ?vv7) ?hy7 ?hk7
            case ho7 => (simp only [List.getElem?_toArray, List.getElem?_cons_succ, List.getElem?_cons_zero]; rfl)
            case hq7 => exact fun _ _ _ h => h
            case hw7 => rfl
            case hy7 =>
              intro W hW
              go_simp
              first | done | with_reducible rfl
            case hk7 =>
            try simp only [Act.put, List.setIfInBounds_toArray, List.set_cons_zero, List.set_cons_succ]
            refine anyK_take 7 (oi := ?oo8) ?ho8 (by kernel_rfl) (by kernel_rfl) (by kernel_rfl) (by kernel_rfl) ?hq8 ?hw8 hT0 (fun _ => hS0) (v := ?vv8) ?hy8 ?hk8
            case ho8 => (simp only [List.getElem?_toArray, List.getElem?_cons_succ, List.getElem?_cons_zero]; rfl)
            case hq8 => exact fun _ _ _ h => h
            case hw8 => rfl
            case hy8 =>
              intro W hW
              go_simp
              first | done | with_reducible rfl
            case hk8 =>
            try simp only [Act.put, List.setIfInBounds_toArray, List.set_cons_zero, List.set_cons_succ]
            refine anyK_take 8 (oi := ?oo9) ?ho9 (by kernel_rfl) (by kernel_rfl) (by kernel_rfl) (by kernel_rfl) ?hq9 ?hw9 hT0 (fun _ => hS0) (v := ?vv9) ?hy9 ?hk9
            case ho9 => (simp only [List.getElem?_toArray, List.getElem?_cons_succ, List.getElem?_cons_zero]; rfl)
            case hq9 => exact fun _ _ _ h => h
            case hw9 => rfl
            case hy9 =>
              intro W hW
              go_simp
              first | done | with_reducible rfl
            case hk9 =>
            try simp only [Act.put, List.setIfInBounds_toArray, List.set_cons_zero, List.set_cons_succ]
            refine anyK_load 9 (oi := ?oo10) ?ho10 (by kernel_rfl) (by kernel_rfl) (by kernel_rfl) (by kernel_rfl) (by kernel_rfl) (by kernel_rfl) ?hq10 ?hw10 hT0 hS0 (v := ?vv10) ?hy10 ?hk10
            case ho10 => (simp only [List.getElem?_toArray, List.getElem?_cons_succ, List.getElem?_cons_zero]; rfl)
            case hq10 => exact fun _ _ _ h => h
            case hw10 => rfl
            case hy10 =>
              intro W hW1 hW
              obtain ⟨y0, y1⟩ := hW
              go_simp
              first | done | with_reducible rfl
            case hk10 =>
            try simp only [Act.put, List.setIfInBounds_toArray, List.set_cons_zero, List.set_cons_succ]
            refine anyK_take 10 (oi := ?oo11) ?ho11 (by kernel_rfl) (by kernel_rfl) (by kernel_rfl) (by kernel_rfl) ?hq11 ?hw11 hT0 (fun _ => hS0) (v := ?vv11) ?hy11 ?hk11
            case ho11 => (simp only [List.getElem?_toArray, List.getElem?_cons_succ, List.getElem?_cons_zero]; rfl)
            case hq11 => exact fun _ _ _ h => h
            case hw11 => rfl
            case hy11 =>
              intro W hW
              go_simp
              first | done | with_reducible rfl
            case hk11 =>
            try simp only [Act.put, List.setIfInBounds_toArray, List.set_cons_zero, List.set_cons_succ]
            refine anyK_take 11 (oi := ?oo12) ?ho12 (by kernel_rfl) (by kernel_rfl) (by kernel_rfl) (by kernel_rfl) ?hq12 ?hw12 hT0 (fun _ => hS0) (v := ?vv12) ?hy12 ?hk12
            case ho12 => (simp only [List.getElem?_toArray, List.getElem?_cons_succ, List.getElem?_cons_zero]; rfl)
            case hq12 => exact fun _ _ _ h => h
            case hw12 => rfl
            case hy12 =>
              intro W hW
              go_simp
              first | done | with_reducible rfl
            case hk12 =>
            try simp only [Act.put, List.setIfInBounds_toArray, List.set_cons_zero, List.set_cons_succ]
            refine anyK_take 12 (oi := ?oo13) ?ho13 (by kernel_rfl) (by kernel_rfl) (by kernel_rfl) (by kernel_rfl) ?hq13 ?hw13 hT0 (fun _ => hS0) (v := ?vv13) ?hy13 ?hk13
            case ho13 => (simp only [List.getElem?_toArray, List.getElem?_cons_succ, List.getElem?_cons_zero]; rfl)
            case hq13 => exact fun _ _ _ h => h
            case hw13 => rfl
            case hy13 =>
              intro W hW
              go_simp
              first | done | with_reducible rfl
            case hk13 =>
            try simp only [Act.put, List.setIfInBounds_toArray, List.set_cons_zero, List.set_cons_succ]
            refine anyK_load 13 (oi := ?oo14) ?ho14 (by kernel_rfl) (by kernel_rfl) (by kernel_rfl) (by kernel_rfl) (by kernel_rfl) (by kernel_rfl) ?hq14 ?hw14 hT0 hS0 (v := ?vv14) ?hy14 ?hk14
            case ho14 => (simp only [List.getElem?_toArray, List.getElem?_cons_succ, List.getElem?_cons_zero]; rfl)
            case hq14 => exact fun _ _ _ h => h
            case hw14 => rfl
            case hy14 =>
              intro W hW1 hW
              obtain ⟨y0, y1⟩ := hW
              go_simp
              first | done | with_reducible rfl
            case hk14 =>
            try simp only [Act.put, List.setIfInBounds_toArray, List.set_cons_zero, List.set_cons_succ]
            refine anyK_take 14 (oi := ?oo15) ?ho15 (by kernel_rfl) (by kernel_rfl) (by kernel_rfl) (by kernel_rfl) ?hq15 ?hw15 hT0 (fun _ => hS0) (v := ?vv15) ?hy15 ?hk15
            case ho15 => (simp only [List.getElem?_toArray, List.getElem?_cons_succ, List.getElem?_cons_zero]; rfl)
            case hq15 => exact fun _ _ _ h => h
            case hw15 => rfl
            case hy15 =>
              intro W hW
              go_simp
              first | done | with_reducible rfl
            case hk15 =>
            try simp only [Act.put, List.setIfInBounds_toArray, List.set_cons_zero, List.set_cons_succ]
            refine anyK_on1 15 (by kernel_rfl) ?_
            refine anyK_one 15 (o := ?oo16) ?ho16 ?hk16
            case ho16 => (simp only [List.getElem?_toArray, List.getElem?_cons_succ, List.getElem?_cons_zero]; rfl)
            case hk16 =>
            intro K hK
            have q5 := hcj
            have z5 := ffj
            replace yy := (⟨_, k9, x9⟩ : ∃ lx, RowB (w3.drew.setCell ⟨g, j, none⟩ (.int .u8 (y0 : Int))) g c lx ∧ Ext w0 (w3.drew.setCell ⟨g, j, none⟩ (.int .u8 (y0 : Int))))
            go_simp
            clear q5 z5
            have hT1 := keepK.out _ yy
            refine hK.out _ _ hT1 (fun h => by cases h) ?_
            clear hK K
            try simp only [Act.put, List.setIfInBounds_toArray, List.set_cons_zero, List.set_cons_succ]
            refine anyK_take 16 (oi := ?oo17) ?ho17 (by kernel_rfl) (by kernel_rfl) (by kernel_rfl) (by kernel_rfl) ?hq17 ?hw17 hT1 (fun h => by cases h) (v := ?vv17) ?hy17 ?hk17
            case ho17 => (simp only [List.getElem?_toArray, List.getElem?_cons_succ, List.getElem?_cons_zero]; rfl)
            case hq17 => exact fun _ _ _ h => h
            case hw17 => rfl
            case hy17 =>
              intro W hW
              go_simp
              first | done | with_reducible rfl
            case hk17 =>
            try simp only [Act.put, List.setIfInBounds_toArray, List.set_cons_zero, List.set_cons_succ]
            refine anyK_on1 17 (by kernel_rfl) ?_
            refine anyK_one 17 (o := ?oo18) ?ho18 ?hk18
            case ho18 => (simp only [List.getElem?_toArray, List.getElem?_cons_succ, List.getElem?_cons_zero]; rfl)
            case hk18 =>
            intro K hK
            have q5 : (w3.setCell ⟨g, j, none⟩ (.int .u8 (y0 : Int))).drew.cell? ⟨g, k, none⟩ = some (.int .u8 (y0 : Int)) := k9.cell (j := k) (x := y0) hgk
            have z5 : (w3.setCell ⟨g, j, none⟩ (.int .u8 (y0 : Int))).drew.frozen? ⟨g, k, none⟩ = false := k9.frozen k
            replace yy := (⟨_, k10, x10⟩ : ∃ lx, RowB ((w3.drew.setCell ⟨g, j, none⟩ (.int .u8 (y0 : Int))).setCell ⟨g, k, none⟩ (.int .u8 (y1 : Int))) g c lx ∧ Ext w0 ((w3.drew.setCell ⟨g, j, none⟩ (.int .u8 (y0 : Int))).setCell ⟨g, k, none⟩ (.int .u8 (y1 : Int))))
            go_simp
            clear q5 z5
            have hT2 := keepK.out _ yy
            refine hK.out _ _ hT2 (fun h => by cases h) ?_
            clear hK K
            try simp only [Act.put, List.setIfInBounds_toArray, List.set_cons_zero, List.set_cons_succ]
            refine anyK_done (by kernel_rfl) ?_ _
            clear keepK hT0 hT1 hT2
            try clear keepS hS0 hS1
            clear hcj hck ffj k9 k10 x9 x10 ss xs yy hgk
            go_wp2
            go_roundw
            case rel => exact ⟨k, swapN l2 (k + 1), by have := HKI.out; omega, rfl, HE.out.1, by have := HE.out.2; simpa using this, HRF.out, HXF.out⟩
            case measure => have := HJ.out; simp [intOf]; omega
          · rw [decide_eq_false hlt] at HLS
            have HE := Lib.hid (And.intro hp2 (And.intro (inv_end hv2 hj (.inr (by rw [Nat.add_sub_cancel]; exact hlt))) (And.intro hr2 hx2)))
            clear hp2 hv2 hr2 hx2 hl2 hin hj h0 hlt
            generalize l2.getD (k + 1) 0 = y1 at *
            generalize l2.getD k 0 = y0 at *
            obtain ⟨j, hj⟩ : ∃ j, j = k + 1 := ⟨_, rfl⟩
            rw [← hj] at hcj k0 k1 k1n k2 k3 k5 ⊢
            clear hj
            go_upto_region 4 with fail
            go_quiet ((go_at_call 42; exact Calls.quiet_of_same (HLS.out _)))
            go_wp2
            go_roundw
            case rel => exact ⟨i + 1, l2, by omega, HI.out, by go_num, HE.out.1, HE.out.2.1, HE.out.2.2.1.drewN _, ext_drewN HE.out.2.2.2 _⟩
            case measure => have := HI.out; simp [intOf]; omega
    · obtain rfl : i = n := by omega
      have t0 : decide ((i : Int) < (i : Int)) = false := decide_eq_false (by omega)
      have t0n : decide (i < i) = false := decide_eq_false (by omega)
      have HE := Lib.hid (sorted_all (l := l1) (by rw [hp.length_eq, HN.out]; exact hs))
      clear hp hs hrr hxx hi2 hi1 hin
      go_wp2
      refine bodyPost_end (v := .tuple #[]) (by first | rfl | simp [results, Try.results36, go_sem]) rfl ?_
      exact ⟨rfl, l1, HP.out, HE.out, HRR.out, HXX.out⟩
set_option maxRecDepth 100000 in
theorem len64_any (x : Nat) (hx : x ≤ 12) (w : World) : Calls Try.prog 46 #[.int .u64 (x : Int)] w fun e w' => (∃ z : Int, e = .returned (.int .i64 z)) ∧ w = w' := by
  have t0 : decide ((4294967296 : Int) ≤ (x : Int)) = false := decide_eq_false (by omega)
  have t1 : decide ((65536 : Int) ≤ (x : Int)) = false := decide_eq_false (by omega)
  have t2 : decide ((256 : Int) ≤ (x : Int)) = false := decide_eq_false (by omega)
  have h : x = 0 ∨ x = 1 ∨ x = 2 ∨ x = 3 ∨ x = 4 ∨ x = 5 ∨ x = 6 ∨ x = 7 ∨ x = 8 ∨ x = 9 ∨ x = 10 ∨ x = 11 ∨ x = 12 := by omega
  clear t0 t1 t2 hx
  rcases h with rfl | rfl | rfl | rfl | rfl | rfl | rfl | rfl | rfl | rfl | rfl | rfl | rfl
  all_goals
    go_enter Try.func46, Try.ntmps46
    go_wp2
    go_ret
    exact ⟨⟨_, rfl⟩, rfl⟩
theorem len_any (x : Nat) (hx : x ≤ 12) (w : World) : Calls Try.prog 30 #[.int .u64 (x : Int)] w fun e w' => (∃ z : Int, e = .returned (.int .i64 z)) ∧ w = w' := by
  have HL := Lib.hid (len64_any x hx w)
  clear hx
  go_enter Try.func30, Try.ntmps30
  go_wp2_with fail
  refine HL.out.mono ?_
  rintro e w2 ⟨⟨z, rfl⟩, rfl⟩
  go_wp2
  go_ret
  exact ⟨⟨z, rfl⟩, rfl⟩
end Go.Proofs.Ythgbdonjheengaa
