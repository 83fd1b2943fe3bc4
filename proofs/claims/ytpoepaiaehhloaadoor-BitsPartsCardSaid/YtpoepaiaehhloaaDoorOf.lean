/- Walk: bits.Of over the squares of a set. -/
import Derived.Test.YtpoepaiaehhloaaDoorMem2
import Derived.Test.YtpoepaiaehhloaaDoorList
import Derived.Test.YtpoepaiaehhloaaDoorShift
namespace Go.Proofs.YtpoepaiaehhloaaDoor
open Go.RowKit Go.Shelf
set_option linter.unusedVariables false
def zsq (b : Nat) : List Int := (sqs b).map fun (s : Nat) => (s : Int)
theorem zsq_len (b : Nat) : (zsq b).length = (sqs b).length := by simp [zsq]
theorem vals_zsq (b : Nat) : vals (sqs b) = (zsq b).map (Value.int .i64) := by
  unfold vals zsq
  rw [List.map_map]
  rfl
theorem list_ints (b : Nat) (hb : b < 18446744073709551616) (w : World) (hT : Tab w) : Calls Tryd.prog 11 #[.int .u64 (b : Int)] w fun e w' => ∃ A c, e = .returned (.slice A (sqs b).length c) ∧ IntsAt w' A (zsq b) ∧ (sqs b).length ≤ c ∧ (A = none → (sqs b).length = 0) ∧ Below w.heap.size w w' := by
  refine (list_any b hb w hT).mono ?_
  rintro e w' ⟨v, rfl, hr, hB⟩
  obtain ⟨A, c, rfl, hn, hc⟩ := own_shape hr
  rw [vals_zsq] at hc
  exact ⟨A, c, rfl, cells_ints hc, own_cap hr, hn, hB⟩
def orT (l : List Nat) : Nat := l.foldl (fun o s => o ||| 2 ^ s) 0
theorem orT_add (l : List Nat) (s : Nat) : orT (l ++ [s]) = orT l ||| 2 ^ s := by
  unfold orT
  rw [List.foldl_append]
  rfl
theorem foldT_bit (t : Nat) : ∀ (l : List Nat) (o : Nat), (l.foldl (fun o s => o ||| 2 ^ s) o).testBit t = true ↔ (o.testBit t = true ∨ t ∈ l)
  | [], o => by simp
  | a :: l, o => by
    rw [List.foldl_cons, foldT_bit t l, Nat.testBit_or, Nat.testBit_two_pow]
    simp only [Bool.or_eq_true, decide_eq_true_eq, List.mem_cons, or_assoc]
    constructor
    · rintro (h | h | h)
      · exact .inl h
      · exact .inr (.inl h.symm)
      · exact .inr (.inr h)
    · rintro (h | h | h)
      · exact .inl h
      · exact .inr (.inl h.symm)
      · exact .inr (.inr h)
theorem orT_bit {l : List Nat} {t : Nat} : (orT l).testBit t = true ↔ t ∈ l := by
  unfold orT
  rw [foldT_bit]
  simp
theorem orT_sqs {b : Nat} (hb : b < 18446744073709551616) : orT (sqs b) = b := by
  refine Nat.eq_of_testBit_eq fun t => Bool.eq_iff_iff.2 ?_
  rw [orT_bit, mem_sqs]
  constructor
  · exact fun h => h.2
  · intro h
    refine ⟨Nat.lt_of_not_le fun hc => ?_, h⟩
    have e : (2 : Nat) ^ 64 = 18446744073709551616 := rfl
    have h1 : b < 2 ^ t := Nat.lt_of_lt_of_le (by rw [← e] at hb; exact hb) (Nat.pow_le_pow_right (by omega) hc)
    rw [Nat.testBit_lt_two_pow h1] at h
    cases h
theorem orT_lt {l : List Nat} (h : ∀ s ∈ l, s < 64) : orT l < 18446744073709551616 := by
  have e : (2 : Nat) ^ 64 = 18446744073709551616 := rfl
  rw [← e]
  refine Nat.lt_of_not_le fun hc => ?_
  obtain ⟨i, hi, hb⟩ := Nat.exists_ge_and_testBit_of_ge_two_pow hc
  have := h i (orT_bit.1 hb)
  omega
theorem shr_free {o s : Nat} (ho : o < 18446744073709551616) (h : o.testBit s = false) : (bits .and .u64 ((o : Int) / 2 ^ s) 1 == 1) = false := by
  have e : (o : Int) / 2 ^ s = ((o / 2 ^ s : Nat) : Int) := by simp
  have hl : o / 2 ^ s < 18446744073709551616 := Nat.lt_of_le_of_lt (Nat.div_le_self _ _) ho
  rw [e, show (1 : Int) = ((1 : Nat) : Int) from rfl, u64_and_nat _ _ hl (by omega), Nat.and_one_is_mod]
  rw [Nat.testBit_eq_decide_div_mod_eq] at h
  have h2 := of_decide_eq_false h
  simp
  omega
theorem or_free {o s : Nat} (ho : o < 18446744073709551616) (hs : s < 64) : bits .or .u64 (o : Int) (IntKind.u64.wrap (2 ^ s)) = ((o ||| 2 ^ s : Nat) : Int) := by
  have h := or_u64 ho hs
  rwa [Int.one_mul] at h
set_option maxHeartbeats 4000000 in
theorem of_any (b : Nat) (hb : b < 18446744073709551616) (A : Option Addr) (c : Nat) (w : World) (hA : IntsAt w A (zsq b)) : Calls Tryd.prog 16 #[.slice A (sqs b).length c] w fun e w' => e = .returned (.tuple #[.int .u64 (b : Int), .int .i64 0]) ∧ w = w' := by
  have hall : ∀ i, i < (sqs b).length → ∃ s g o : Nat, s < 64 ∧ A = some ⟨g, o, none⟩ ∧ w.cell? ⟨g, o + i, none⟩ = some (.int .i64 (s : Int)) ∧ (sqs b).take (i + 1) = (sqs b).take i ++ [s] ∧ s ∉ (sqs b).take i := fun i hi => by
    obtain ⟨g, o, h1, h2⟩ := hA i (by rw [zsq_len]; exact hi)
    have hm := mem_sqs.1 (List.getElem_mem hi)
    refine ⟨(sqs b)[i], g, o, hm.1, h1, ?_, ?_, fun hc => ?_⟩
    · rw [h2]
      simp [zsq, List.getD, hi]
    · rw [List.take_add_one, List.getElem?_eq_getElem hi]
      rfl
    · obtain ⟨j, hj, he⟩ := List.mem_take_iff_getElem.1 hc
      have hlt : j < i := by omega
      exact (List.pairwise_iff_getElem.1 (sqs_nodup b) j i (by omega) hi hlt) he
  have hend := orT_sqs hb
  have hlt : ∀ i, orT ((sqs b).take i) < 18446744073709551616 := fun i => orT_lt fun s hs => (mem_sqs.1 (List.mem_of_mem_take hs)).1
  have hn := pop_le b
  rw [pop_sqs] at hn
  have HALL := Lib.hid hall
  have HEND := Lib.hid hend
  have HLT := Lib.hid hlt
  clear hall hend hlt hA hb
  generalize sqs b = l at *
  obtain ⟨n, hln⟩ : ∃ n, n = l.length := ⟨_, rfl⟩
  have HLN := Lib.hid hln
  rw [← hln] at hn ⊢
  rw [← hln] at HALL
  clear hln
  go_enter Tryd.func16, Tryd.ntmps16
  go_wp2
  go_loopw [4, 9] (fun o i wr => ∃ k : Nat, k ≤ n ∧ o = .int .u64 ((orT (l.take k) : Nat) : Int) ∧ i = .int .i64 (k : Int) ∧ wr = w) (fun o i wr => n - (intOf i).toNat)
  case atStart => exact ⟨0, Nat.zero_le _, by simp [orT], rfl, rfl⟩
  case round =>
    obtain ⟨k, hk, rfl, rfl, rfl⟩ := hrel
    by_cases hkn : k < n
    · obtain ⟨s, g, o, hs, rfl, hcell, htk, hni⟩ := HALL.out k hkn
      have t0 : decide ((k : Int) < (n : Int)) = true := decide_eq_true (by omega)
      have t0' : decide (k < n) = true := decide_eq_true hkn
      have t1 : decide ((s : Int) < 0) = false := decide_eq_false (by omega)
      have t2 : decide ((63 : Int) < (s : Int)) = false := decide_eq_false (by omega)
      have t2' : decide (63 < s) = false := decide_eq_false (by omega)
      have hfree : (orT (l.take k)).testBit s = false := by
        cases hb : (orT (l.take k)).testBit s
        · rfl
        · exact absurd (orT_bit.1 hb) hni
      have r0 := shr_free (HLT.out k) hfree
      have r1 := or_free (HLT.out k) hs
      rw [← orT_add, ← htk] at r1
      have HK := Lib.hid hkn
      obtain ⟨o1, ho1⟩ : ∃ o1, o1 = orT (l.take (k + 1)) := ⟨_, rfl⟩
      rw [← ho1] at r1
      have HO1 := Lib.hid ho1
      obtain ⟨o0, ho0⟩ : ∃ o0, o0 = orT (l.take k) := ⟨_, rfl⟩
      rw [← ho0] at r0 r1 ⊢
      clear hfree hni htk hkn ho1 ho0
      go_wp2
      go_roundw
      case rel => exact ⟨k + 1, HK.out, by rw [HO1.out], by simp, trivial⟩
      case measure => have := HK.out; simp [intOf]; omega
    · obtain rfl : k = n := by omega
      have t0 : decide ((k : Int) < (k : Int)) = false := decide_eq_false (by omega)
      have e : orT (l.take k) = b := by rw [HLN.out, List.take_length]; exact HEND.out
      rw [e]
      clear e hk hkn
      go_wp2
      go_ret2
      exact ⟨rfl, rfl⟩
end Go.Proofs.YtpoepaiaehhloaaDoor
