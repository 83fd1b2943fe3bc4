/- Walks: symm.Orbit, symm.All, some over integers. -/
import Derived.Test.YtmkckpiehffccaaOwnZ
import Derived.Test.YtmkckpiehffccaaSymmW3
namespace Go.Proofs.Ytmkckpiehffccaa
open Go.ChangeShapes Go.WideShapes Go.ChangeAt Go.RowKit Go.Shelf
set_option linter.unusedVariables false
def OrbPost (w : World) (l : List Int) (e : Ending) (w' : World) : Prop := ∃ v, e = .returned (.tuple #[v, .int .i64 0]) ∧ OwnZ w w' v l ∧ Ext w w'
theorem range_map_succ (f : Nat → Int) (k : Nat) : (List.range (k + 1)).map f = (List.range k).map f ++ [f k] := by
  rw [List.range_succ, List.map_append]; rfl
set_option maxHeartbeats 2000000 in
set_option maxRecDepth 100000 in
theorem All_yes' (a b : Int) (w : World) (h : okSide a b) : Calls Try.prog 17 #[.int .i64 a, .int .i64 b] w (OrbPost w ((List.range (cnt a b).toNat).map fun (k : Nat) => (k : Int))) := by
  have hc := cnt_bd a b
  have HCH := hide (fun W => Check_yes a b W h)
  have HCT := hide (fun W => count_any a b W)
  obtain ⟨n, hn⟩ := Int.eq_ofNat_of_zero_le (show 0 ≤ cnt a b by omega)
  have hn' : cnt a b = (n : Int) := hn
  rw [hn'] at HCT hc
  rw [hn', Int.toNat_natCast]
  clear hn hn' h
  unfold OrbPost
  go_enter Try.func17, Try.ntmps17
  go_wp2_with fail
  refine (HCH.out _).mono ?_
  rintro e w' ⟨rfl, rfl⟩
  go_wp2_with fail
  refine (HCT.out _).mono ?_
  rintro e w' ⟨rfl, rfl⟩
  go_wp2
  go_loopw [7, 18] (fun o i wr => ∃ k : Nat, k ≤ n ∧ i = .int .i64 k ∧ OwnZ w wr o ((List.range k).map fun (k : Nat) => (k : Int)) ∧ Ext w wr) (fun _ i _ => n - (intOf i).toNat)
  case atStart => exact ⟨0, Nat.zero_le _, rfl, OwnZ.nil _ _, Below.refl _ _⟩
  case round =>
    obtain ⟨k, hk, rfl, hO, hx⟩ := hrel
    have OO := hide hO
    have XX := hide hx
    obtain ⟨oA, oc, rfl, -⟩ := hO
    have HLN := hide (show ((List.range k).map fun (k : Nat) => (k : Int)).length = k by simp)
    have HSU := hide (range_map_succ (fun (k : Nat) => (k : Int)) k)
    clear hx
    by_cases hlt : k < n
    · generalize (List.range k).map (fun (k : Nat) => (k : Int)) = row at *
      have i1 : (k : Int) < (n : Int) := by omega
      go_wp2_with (at_builtin; refine wp_append_z (.tmp 21) (.tmp 23) rfl rfl w wr (.slice oA row.length oc) row (k : Int) rfl OO.out rfl XX.out (by have := HLN.out; omega) ?_; intro v4 w4 own4 x4 g4)
      obtain ⟨A4, n4, c4, rfl⟩ : ∃ A n c, v4 = .slice A n c := by obtain ⟨A, c, e, -⟩ := own4; exact ⟨_, _, _, e⟩
      have O4 := hide own4
      have X4 := hide x4
      clear own4 x4 g4
      go_wp2
      go_roundw
      case rel => exact ⟨k + 1, by omega, by go_num, by rw [HSU.out]; exact O4.out, X4.out⟩
      case measure => simp [intOf]; omega
    · obtain rfl : k = n := by omega
      go_wp2
      go_ret2
      exact ⟨_, rfl, OO.out, XX.out⟩
theorem All_no' (a b : Int) (w : World) (h : ¬ okSide a b) : Calls Try.prog 17 #[.int .i64 a, .int .i64 b] w fun e w' => e = .returned (.tuple #[.slice none 0 0, .int .i64 4]) ∧ Ext w w' := by
  have HCH := hide (fun W => Check_no a b W h)
  go_enter Try.func17, Try.ntmps17
  go_wp2_with fail
  refine (HCH.out _).mono ?_
  rintro e w' ⟨rfl, rfl⟩
  go_wp2
  go_ret2
  exact ⟨rfl, Below.refl _ _⟩
theorem Orbit_no (a b q : Int) (w : World) (h : ¬ (okSide a b ∧ 0 ≤ q ∧ q < a * b)) : Calls Try.prog 16 #[.int .i64 a, .int .i64 b, .int .i64 q] w fun e w' => e = .returned (.tuple #[.slice none 0 0, .int .i64 4]) ∧ Ext w w' := by
  by_cases hs : okSide a b
  · have HCH := hide (fun W => Check_yes a b W hs)
    have har := area_bd a b hs
    have hw : wrap64 (a * b) = a * b := by unfold wrap64; omega
    have hq : q < 0 ∨ (0 ≤ q ∧ a * b ≤ q) := by
      by_cases hq0 : 0 ≤ q
      · refine .inr ⟨hq0, ?_⟩
        by_cases h1 : q < a * b
        · exact absurd ⟨hs, hq0, h1⟩ h
        · omega
      · exact .inl (by omega)
    clear hs h
    rcases hq with hq | ⟨hq0, hq⟩
    · have t0 : decide (q < 0) = true := decide_eq_true hq
      go_enter Try.func16, Try.ntmps16
      go_wp2_with fail
      refine (HCH.out _).mono ?_
      rintro e w' ⟨rfl, rfl⟩
      go_wp2
      go_ret2
      exact ⟨rfl, Below.refl _ _⟩
    · have t0 : decide (q < 0) = false := decide_eq_false (by omega)
      have t1 : decide (a * b ≤ q) = true := decide_eq_true hq
      go_enter Try.func16, Try.ntmps16
      go_wp2_with fail
      refine (HCH.out _).mono ?_
      rintro e w' ⟨rfl, rfl⟩
      go_wp2
      go_ret2
      exact ⟨rfl, Below.refl _ _⟩
  · have HCH := hide (fun W => Check_no a b W hs)
    go_enter Try.func16, Try.ntmps16
    go_wp2_with fail
    refine (HCH.out _).mono ?_
    rintro e w' ⟨rfl, rfl⟩
    go_wp2
    go_ret2
    exact ⟨rfl, Below.refl _ _⟩
set_option maxHeartbeats 4000000 in
set_option maxRecDepth 100000 in
theorem Orbit_yes (a b q : Int) (w : World) (h : okSide a b) (h0 : 0 ≤ q) (h1 : q < a * b) : Calls Try.prog 16 #[.int .i64 a, .int .i64 b, .int .i64 q] w (OrbPost w (orbS a b q)) := by
  have hc := cnt_bd a b
  have HCH := hide (fun W => Check_yes a b W h)
  have HCT := hide (fun W => count_any a b W)
  have HTO := hide (fun (k : Nat) (hk : (k : Int) < cnt a b) W => to_any a b k q W h (by omega) hk h0 h1)
  have har := area_bd a b h
  have hw : wrap64 (a * b) = a * b := by unfold wrap64; omega
  have t0 : decide (q < 0) = false := decide_eq_false (by omega)
  have t1 : decide (a * b ≤ q) = false := decide_eq_false (by omega)
  have HOL := hide (show orbS a b q = Lib.compact (sortI (orbL a b q)) from (compact_sorted _).symm)
  have HLL : Hid (orbL a b q = (List.range (cnt a b).toNat).map fun (k : Nat) => toL a b (k : Int) q) := hide rfl
  obtain ⟨n, hn⟩ := Int.eq_ofNat_of_zero_le (show 0 ≤ cnt a b by omega)
  have hn' : cnt a b = (n : Int) := hn
  rw [hn'] at HCT hc HTO
  have HLL2 : Hid (orbL a b q = (List.range n).map fun (k : Nat) => toL a b (k : Int) q) := hide (by rw [HLL.out, hn', Int.toNat_natCast])
  clear hn hn' HLL har h h0 h1
  unfold OrbPost
  go_enter Try.func16, Try.ntmps16
  go_wp2_with fail
  refine (HCH.out _).mono ?_
  rintro e w' ⟨rfl, rfl⟩
  go_wp2_with fail
  refine (HCT.out _).mono ?_
  rintro e w' ⟨rfl, rfl⟩
  clear hw t0 t1
  go_wp2
  go_loopw [9, 29] (fun o i wr => ∃ k : Nat, k ≤ n ∧ i = .int .i64 k ∧ OwnZ w wr o ((List.range k).map fun (k : Nat) => toL a b (k : Int) q) ∧ Ext w wr) (fun _ i _ => n - (intOf i).toNat)
  case atStart => exact ⟨0, Nat.zero_le _, rfl, OwnZ.nil _ _, Below.refl _ _⟩
  case round =>
    obtain ⟨k, hk, rfl, hO, hx⟩ := hrel
    have OO := hide hO
    have XX := hide hx
    obtain ⟨oA, oc, rfl, -⟩ := hO
    have HLN := hide (show ((List.range k).map fun (k : Nat) => toL a b (k : Int) q).length = k by simp)
    have HSU := hide (range_map_succ (fun (k : Nat) => toL a b (k : Int) q) k)
    clear hx
    by_cases hlt : k < n
    · generalize (List.range k).map (fun (k : Nat) => toL a b (k : Int) q) = row at *
      have i1 : (k : Int) < (n : Int) := by omega
      have HT1 := hide (HTO.out k i1)
      generalize toL a b (k : Int) q = tk at *
      clear HTO
      go_wp2_with fail
      refine (HT1.out _).mono ?_
      rintro e w3 ⟨rfl, d, rfl⟩
      have O3 := hide (OO.out.ext (ext_drewN (Below.refl _ _) d))
      have X3 := hide (ext_drewN XX.out d)
      generalize wr.drewN d = w3 at *
      go_wp2_with (at_builtin; refine wp_append_z (.tmp 32) (.tmp 38) rfl rfl w w3 (.slice oA row.length oc) row tk rfl O3.out rfl X3.out (by have := HLN.out; omega) ?_; intro v4 w4 own4 x4 g4)
      obtain ⟨A4, n4, c4, rfl⟩ : ∃ A n c, v4 = .slice A n c := by obtain ⟨A, c, e, -⟩ := own4; exact ⟨_, _, _, e⟩
      have O4 := hide own4
      have X4 := hide x4
      clear own4 x4 g4
      go_wp2
      go_roundw
      case rel => exact ⟨k + 1, by omega, by go_num, by rw [HSU.out]; exact O4.out, X4.out⟩
      case measure => simp [intOf]; omega
    · obtain rfl : k = n := by omega
      have HOL2 := hide (HOL.out.trans (congrArg (fun l => Lib.compact (sortI l)) HLL2.out))
      clear HSU HTO HLL2 HOL
      generalize (List.range k).map (fun (k : Nat) => toL a b (k : Int) q) = row at *
      have HOL : Hid (orbS a b q = Lib.compact (sortI row)) := HOL2
      have hr0 : row ≠ [] := fun e => by have := HLN.out; rw [e] at this; simp at this; omega
      have HSO := hide (sort_ints OO.out XX.out hr0 (by have := HLN.out; omega))
      clear hr0
      go_wp2_with fail
      refine HSO.out.mono ?_
      rintro e w5 ⟨rfl, o5, x5⟩
      have hr0 : sortI row ≠ [] := fun e => by have := HLN.out; have := sortI_len row; rw [e] at this; simp at this; omega
      have HCO := hide (compact_ints o5 x5 hr0 (by rw [sortI_len]; have := HLN.out; omega))
      rw [← HOL.out] at HCO
      have hlen := sortI_len row
      have HLE := hide hlen
      clear hr0 o5 x5 HSO hlen
      go_wp2_with fail
      first
      | refine HCO.out.mono ?_
      | (rw [← HLE.out]; refine HCO.out.mono ?_)
      rintro e w6 ⟨v6, rfl, o6, x6⟩
      have O6 := hide o6
      have X6 := hide x6
      obtain ⟨A6, c6, rfl, -⟩ := o6
      clear x6 HCO
      go_wp2
      go_ret2
      exact ⟨_, rfl, O6.out, X6.out⟩
end Go.Proofs.Ytmkckpiehffccaa
