/- Walks: Wins over heaps; slices.Contains over []int. -/
import Derived.Test.YthgbdonjheengaaNimX
namespace Go.Proofs.Ythgbdonjheengaa
open Go.RowKit Go.Maps
set_option linter.unusedVariables false
def WinsI (m : Int) (n : Nat) (w : World) (e : Ending) (w' : World) : Prop :=
  Ext w w' ∧ ((∃ t : Nat, t ∈ nxH m n ∧ grH m t = 0 ∧ e = .returned (.tuple #[.int .i64 (t : Int), .int .i64 0])) ∨ ((∀ t ∈ nxH m n, grH m t ≠ 0) ∧ e = .returned (.tuple #[.int .i64 0, .int .i64 8])))
set_option maxHeartbeats 4000000 in
set_option maxRecDepth 100000 in
theorem wins_any (m : Int) (most n : Nat) (hn : n < most) (hm : most ≤ 20000) (w : World) : Calls Try.prog 16 #[heapG m, .int .i64 (n : Int), .int .i64 (most : Int)] w (WinsI m n w) := by
  have HV := Lib.hid (startI_any m most (by omega) hm (fun x => x ≤ n) (heapP m (by omega)) n (Nat.le_refl _) w)
  have HNX := Lib.hid (fun W => heap_next m n (by omega) W)
  have HOV := Lib.hid (fun h => over_heap (n := n) (most := most) h)
  have HNM := Lib.hid (And.intro hn hm)
  have HNL := Lib.hid (show (nxH m n).length ≤ n by rw [nxH_take]; simp [cntH]; split <;> omega)
  clear hn hm
  go_enter Try.func16, Try.ntmps16
  go_wp2_with fail
  refine HV.out.mono ?_
  rintro e w1 ⟨x1, bv, ⟨B, F, rfl, hF, hnF, c2⟩ | ⟨rfl, ho⟩⟩
  · have X1 := Lib.hid x1
    have HF := Lib.hid (And.intro hF hnF)
    have HC2 := Lib.hid c2
    clear x1 hF hnF c2 HV
    go_wp2_with fail
    refine (HNX.out _).mono ?_
    rintro e w2 ⟨v2, rfl, own2, x2⟩
    obtain ⟨A2, d2, rfl, k2, -, -, -⟩ := own2.cells
    have X2 := Lib.hid (ext_trans X1.out x2)
    have c2 := x2.cell HC2.out
    have HLK := Lib.hid (fun t ht => (HF.out.1.1.ext x2).look (t := 66) keyI_good Try.underlying66 (s := t) (HF.out.1.2.2.1 n HF.out.2 t ht))
    have HK2 := Lib.hid k2
    obtain ⟨N, hN⟩ : ∃ N, N = (nxH m n).length := ⟨_, rfl⟩
    have HN := Lib.hid hN
    rw [← hN] at HNL ⊢
    clear own2 x2 k2 hN HC2 HNX
    go_wp2_with fail
    go_loop [30] (fun i => ∃ k : Nat, k ≤ N ∧ i = .int .i64 (k : Int) ∧ ∀ (j t : Nat), j < k → (nxH m n)[j]? = some t → grH m t ≠ 0) (fun i => N - (intOf i).toNat)
    case atStart => exact ⟨0, Nat.zero_le _, rfl, fun j t h => absurd h (Nat.not_lt_zero j)⟩
    case round =>
      obtain ⟨k, hk, rfl, hno⟩ := hrel
      have HNO := Lib.hid hno
      have n2 := HNM.out
      have n3 := HNL.out
      by_cases hkN : k < N
      · obtain ⟨t, ht⟩ : ∃ t, (nxH m n)[k]? = some t := ⟨_, List.getElem?_eq_getElem (by rw [← HN.out]; exact hkN)⟩
        obtain ⟨b, o, rfl, hc⟩ := HK2.out k (.int .i64 (t : Int)) (by simp [intsN, ht])
        have r1 := HLK.out t (List.mem_of_getElem? ht)
        rw [show keyI.kv t = .int .i64 (t : Int) from rfl] at r1
        have HT := Lib.hid ht
        have HKN := Lib.hid hkN
        have i1 : (k : Int) < (N : Int) := by omega
        by_cases hz : grH m t = 0
        · have HR : Hid (∃ s : Nat, s ∈ nxH m n ∧ grH m s = 0 ∧ Ending.returned (.tuple #[.int .i64 (t : Int), .int .i64 0]) = .returned (.tuple #[.int .i64 (s : Int), .int .i64 0])) := hide ⟨t, List.mem_of_getElem? ht, hz, rfl⟩
          rw [hz] at r1
          clear ht hk hkN hno hz n2 n3
          go_wp2
          go_ret2
          exact ⟨X2.out, .inl HR.out⟩
        · have t1 : ((grH m t : Int) == 0) = false := beq_eq_false_iff_ne.2 (by omega)
          have HNX := Lib.hid (show ∀ (j s : Nat), j < k + 1 → (nxH m n)[j]? = some s → grH m s ≠ 0 from fun j s hj hs => by
            rcases Nat.lt_succ_iff_lt_or_eq.1 hj with h | rfl
            · exact hno j s h hs
            · rw [ht] at hs; cases hs; exact hz)
          have k2 : (k : Int) ≤ 20000 := by omega
          clear ht hk hkN hno hz n2 n3
          generalize grH m t = gt at *
          go_wp2
          go_round
          case rel => exact ⟨k + 1, HKN.out, by go_num, HNX.out⟩
          case measure => have := HKN.out; simp [intOf]; omega
      · obtain rfl : k = N := by omega
        have t0 : decide ((k : Int) < (k : Int)) = false := decide_eq_false (by omega)
        clear hk hkN hno n2 n3
        go_wp2
        go_ret2
        exact ⟨X2.out, .inr ⟨fun t ht => by
          obtain ⟨j, hj⟩ := List.getElem?_of_mem ht
          exact HNO.out j t (by rw [HN.out]; exact (List.getElem?_eq_some_iff.1 hj).1) hj, rfl⟩⟩
  · have := HOV.out ho
    have := HNM.out
    omega
set_option maxHeartbeats 1000000 in
set_option maxRecDepth 100000 in
theorem idx_in (l : List Nat) (s : Nat) (hs : s ∈ l) (hl : l.length ≤ 1000000) (A : Option Addr) (c : Nat) (w : World) (hA : CellsAt w A (intsN l)) : Calls Try.prog 27 #[.slice A l.length c, .int .i64 (s : Int)] w fun e w' => (∃ i : Nat, e = .returned (.int .i64 (i : Int))) ∧ w = w' := by
  obtain ⟨j0, hj0⟩ := List.getElem?_of_mem hs
  have HJ := Lib.hid hj0
  have HA := Lib.hid hA
  have HJL := Lib.hid (List.getElem?_eq_some_iff.1 hj0).1
  obtain ⟨n, hN⟩ : ∃ n, n = l.length := ⟨_, rfl⟩
  have HN := Lib.hid hN
  rw [← hN] at hl ⊢
  clear hs hj0 hA hN
  go_enter Try.func27, Try.ntmps27
  go_wp2_with fail
  go_loop [8] (fun i => ∃ k : Nat, k ≤ j0 ∧ i = .int .i64 (k : Int)) (fun i => n - (intOf i).toNat)
  case atStart => exact ⟨0, Nat.zero_le _, rfl⟩
  case round =>
    obtain ⟨k, hk, rfl⟩ := hrel
    have hkn : k < n := by have := HJL.out; rw [HN.out]; omega
    obtain ⟨y, hy⟩ : ∃ y, l[k]? = some y := ⟨_, List.getElem?_eq_getElem (by rw [← HN.out]; exact hkn)⟩
    obtain ⟨b, o, rfl, hc⟩ := HA.out k (.int .i64 (y : Int)) (by simp [intsN, hy])
    have i1 : (k : Int) < (n : Int) := by omega
    have HKN := Lib.hid hkn
    by_cases hys : y = s
    · subst hys
      have t1 : ((y : Int) == (y : Int)) = true := beq_self_eq_true _
      clear hy hk hkn
      go_wp2
      go_ret
      exact ⟨⟨k, rfl⟩, rfl⟩
    · have t1 : ((s : Int) == (y : Int)) = false := beq_eq_false_iff_ne.2 (by omega)
      have HKJ := Lib.hid (show k < j0 from Nat.lt_of_le_of_ne hk fun e => by subst e; rw [HJ.out] at hy; cases hy; exact hys rfl)
      clear hy hk hkn hys
      go_wp2
      go_round
      case rel => exact ⟨k + 1, HKJ.out, by go_num⟩
      case measure => have := HKN.out; simp [intOf]; omega
theorem has_in (l : List Nat) (s : Nat) (hs : s ∈ l) (hl : l.length ≤ 1000000) (A : Option Addr) (c : Nat) (w : World) (hA : CellsAt w A (intsN l)) : Calls Try.prog 17 #[.slice A l.length c, .int .i64 (s : Int)] w fun e w' => e = .returned (.bool true) ∧ w = w' := by
  have HI := Lib.hid (idx_in l s hs hl A c w hA)
  clear hs hl hA
  generalize l.length = n at *
  go_enter Try.func17, Try.ntmps17
  go_wp2_with fail
  refine HI.out.mono ?_
  rintro e w1 ⟨⟨i, rfl⟩, rfl⟩
  go_wp2
  go_ret
  exact ⟨by first | rfl | simp, rfl⟩
end Go.Proofs.Ythgbdonjheengaa
