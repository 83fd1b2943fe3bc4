/- Walk: ranks.order. -/
import Derived.Test.YtdoibgmmijhlfaaDealX
import Derived.Test.YtdoibgmmijhlfaaDealE
namespace Go.Proofs.Ytdoibgmmijhlfaa
open Go.ChangeShapes Go.WideShapes Go.ChangeAt Go.RowKit Go.Shelf
set_option linter.unusedVariables false
set_option linter.unusedSimpArgs false
/-- The thirteen counts. -/
def cntC (l : List Int) : List Value := (List.range 13).map fun r => .int .i64 (cntR l r : Int)
theorem cntC_len (l : List Int) : (cntC l).length = 13 := by simp [cntC]
theorem cntC_get (l : List Int) {r : Nat} (hr : r < 13) : (cntC l)[r]? = some (.int .i64 (cntR l r : Int)) := by simp [cntC, hr]
theorem cntC_set (l : List Int) (c : Int) (q : Nat) (hq : c % 13 = (q : Int)) (hq13 : q < 13) : (cntC l).set q (.int .i64 ((cntR l q : Int) + 1)) = cntC (l ++ [c]) := by
  apply List.ext_getElem?
  intro i
  by_cases hi : i < 13
  · rw [cntC_get _ hi, cntR_snoc, List.getElem?_set]
    by_cases e : q = i
    · subst e
      rw [if_pos rfl, if_pos (by rw [cntC_len]; exact hq13), if_pos hq]
      simp
    · rw [if_neg e, cntC_get _ hi, if_neg (by omega)]
      simp
  · rw [List.getElem?_eq_none (by rw [List.length_set, cntC_len]; omega), List.getElem?_eq_none (by rw [cntC_len]; omega)]
theorem cntC_nil : (cntC []).toArray = #[.int .i64 0, .int .i64 0, .int .i64 0, .int .i64 0, .int .i64 0, .int .i64 0, .int .i64 0, .int .i64 0, .int .i64 0, .int .i64 0, .int .i64 0, .int .i64 0, .int .i64 0] := rfl
theorem cntC_lit (l : List Int) : (cntC l).toArray = #[.int .i64 (cntR l 0 : Int), .int .i64 (cntR l 1 : Int), .int .i64 (cntR l 2 : Int), .int .i64 (cntR l 3 : Int), .int .i64 (cntR l 4 : Int), .int .i64 (cntR l 5 : Int), .int .i64 (cntR l 6 : Int), .int .i64 (cntR l 7 : Int), .int .i64 (cntR l 8 : Int), .int .i64 (cntR l 9 : Int), .int .i64 (cntR l 10 : Int), .int .i64 (cntR l 11 : Int), .int .i64 (cntR l 12 : Int)] := rfl
theorem index13 (l : List Int) (k : Nat) (hk : k < 13) (W : World) : (Instr.index 180 (.agg #[.int .i64 (cntR l 0 : Int), .int .i64 (cntR l 1 : Int), .int .i64 (cntR l 2 : Int), .int .i64 (cntR l 3 : Int), .int .i64 (cntR l 4 : Int), .int .i64 (cntR l 5 : Int), .int .i64 (cntR l 6 : Int), .int .i64 (cntR l 7 : Int), .int .i64 (cntR l 8 : Int), .int .i64 (cntR l 9 : Int), .int .i64 (cntR l 10 : Int), .int .i64 (cntR l 11 : Int), .int .i64 (cntR l 12 : Int)]) (.int .i64 (k : Int))).run Try.prog W = .ok (.int .i64 (cntR l k : Int)) W := by
  rcases (by omega : k = 0 ∨ k = 1 ∨ k = 2 ∨ k = 3 ∨ k = 4 ∨ k = 5 ∨ k = 6 ∨ k = 7 ∨ k = 8 ∨ k = 9 ∨ k = 10 ∨ k = 11 ∨ k = 12) with rfl | rfl | rfl | rfl | rfl | rfl | rfl | rfl | rfl | rfl | rfl | rfl | rfl <;> kernel_rfl
set_option maxHeartbeats 4000000 in
set_option maxRecDepth 100000 in
theorem Order_any (A : Option Addr) (n c : Nat) (lh : List Int) (w : World) (hn : lh.length = n) (h5 : n ≤ 100) (hz : IntsAt w A lh) (h0 : ∀ z ∈ lh, 0 ≤ z ∧ z < 52) :
    Calls Try.prog 83 #[.slice A n c] w fun e w' => ∃ v u, e = .returned (.tuple #[v, u]) ∧ OwnZ w w' v (ordR lh) ∧ OwnZ w w' u (oftR lh) ∧ Ext w w' := by
  subst hn
  have HZ := hide hz
  have H0 := hide h0
  clear hz h0
  go_enter Try.func83, Try.ntmps83
  go_upto_region 2 with fail
  obtain ⟨gc, hgc⟩ : ∃ gc, gc = w.heap.size := ⟨_, rfl⟩
  have HB0 := hide (Blk.new w 180 (cntC []).toArray)
  have HX0 := hide (ext_alloc (Below.refl w.heap.size w) (.cells (cntC []).toArray 180))
  rw [cntC_nil] at HX0
  have HW0 : Hid ((w.alloc (.cells (cntC []).toArray 180)) = (w.alloc (.cells #[.int .i64 0, .int .i64 0, .int .i64 0, .int .i64 0, .int .i64 0, .int .i64 0, .int .i64 0, .int .i64 0, .int .i64 0, .int .i64 0, .int .i64 0, .int .i64 0, .int .i64 0] 180))) := hide (by rw [cntC_nil])
  rw [HW0.out] at HB0
  clear HW0
  generalize w.alloc (.cells #[.int .i64 0, .int .i64 0, .int .i64 0, .int .i64 0, .int .i64 0, .int .i64 0, .int .i64 0, .int .i64 0, .int .i64 0, .int .i64 0, .int .i64 0, .int .i64 0, .int .i64 0] 180) = w1 at *
  rw [← hgc] at HB0 ⊢
  have HG := hide (Nat.le_of_eq hgc.symm)
  clear hgc
  go_wp2
  go_loopw [6, 15] (fun _ i wr => ∃ k : Nat, k ≤ lh.length ∧ i = .int .i64 k ∧ Blk wr gc 180 (cntC (lh.take k)).toArray ∧ Ext w wr) (fun _ i _ => lh.length - (intOf i).toNat)
  case atStart => exact ⟨0, by omega, rfl, HB0.out, HX0.out⟩
  case round =>
    obtain ⟨k, hk, rfl, hB, hX⟩ := hrel
    by_cases hlt : k < lh.length
    · obtain ⟨b, o, rfl, hc⟩ := (HZ.out.ext hX) k hlt
      obtain ⟨r0, r1⟩ := H0.out _ (getD_mem hlt)
      have HT : Hid (lh.take (k + 1) = lh.take k ++ [lh.getD k 0]) := hide (by
        rw [List.take_succ_eq_append_getElem hlt]
        simp [List.getD_eq_getElem?_getD, hlt])
      generalize lh.getD k 0 = cc at *
      obtain ⟨q, hq⟩ : ∃ q : Nat, (cc % 13 : Int) = (q : Int) := ⟨(cc % 13).toNat, by have := Int.emod_nonneg cc (show (13 : Int) ≠ 0 by omega); omega⟩
      have hq13 : q < 13 := by have := Int.emod_lt_of_pos cc (show (0 : Int) < 13 by omega); omega
      have htm : cc.tmod 13 = (q : Int) := by rw [Int.tmod_eq_emod_of_nonneg r0]; exact hq
      have HCS := hide (cntC_set (lh.take k) cc q hq hq13)
      have hbd := cntR_le (lh.take k) q
      have hbl : (lh.take k).length ≤ 100 := by rw [List.length_take]; omega
      have hcq : wr.cell? ⟨gc, q, none⟩ = some (.int .i64 (cntR (lh.take k) q : Int)) := by rw [hB.cell, List.getElem?_toArray]; exact cntC_get _ hq13
      have hfz := hB.frozen q
      have HBS := hide (hB.set_ q (.int .i64 ((cntR (lh.take k) q : Int) + 1)))
      rw [List.setIfInBounds_toArray, HCS.out, ← HT.out] at HBS
      have HXS := hide (ext_set hX (p := ⟨gc, q, none⟩) HG.out (.int .i64 ((cntR (lh.take k) q : Int) + 1)))
      have q0 : (0 : Int) ≤ (q : Int) := by omega
      have q1 : (q : Int) < 13 := by omega
      have i0 : (0 : Int) ≤ (k : Int) := by omega
      have i1 : (k : Int) < (lh.length : Int) := by omega
      have HK := hide hlt
      have hct : cntR (lh.take k) q ≤ 100 := by omega
      clear hB hX hlt hk hq HCS HT hbd hbl r0 r1
      generalize cntR (lh.take k) q = ct at *
      have hw1 : IntKind.i64.wrap ((ct : Int) + 1) = (ct : Int) + 1 := by rw [IntKind.wrap_i64]; omega
      go_wp2
      go_roundw
      case rel => exact ⟨k + 1, HK.out, by go_num, HBS.out, HXS.out⟩
      case measure => have := HK.out; simp only [intOf, wrap64]; omega
    · obtain rfl : k = lh.length := by omega
      rw [List.take_length, cntC_lit] at hB
      have HB := hide hB
      have HX := hide hX
      have f := hB.cell
      have hix := index13 lh
      clear hB hX hk hlt
      generalize wr = w2 at *
      have HGL : Hid (gc < w2.heap.size) := hide HB.out.lt
      go_wp2
      go_loopw [7, 9, 10, 27] (fun v _ _ i ws => ∃ k : Nat, k ≤ 13 ∧ i = .int .i64 k ∧ OwnZ w2 ws v (rawR lh k) ∧ Ext w2 ws) (fun _ _ _ i _ => 13 - (intOf i).toNat)
      case atStart => exact ⟨0, by omega, rfl, OwnZ.nil w2 w2, Below.refl _ _⟩
      case round =>
        obtain ⟨k, hk, rfl, hO, hX⟩ := hrel
        clear f
        by_cases hlt : k < 13
        · have hixk := hix k hlt
          clear hix
          have HO := hide hO
          have HXX := hide hX
          have HS := hide (rawR_succ lh k)
          have HK := hide hlt
          have HLN := hide (rawR_len lh k)
          have i1 : (k : Int) < 13 := by omega
          clear hO hX hk hlt
          generalize cntR lh k = ct at *
          by_cases h0 : 0 < ct
          · have t0 : decide ((0 : Int) < (ct : Int)) = true := by simp; omega
            rw [if_pos h0] at HS
            go_wp2_with (at_builtin; refine wp_append_z (.tmp 33) (.tmp 35) rfl rfl w2 wr _ (rawR lh k) k rfl HO.out rfl HXX.out (by have := HLN.out; have := HK.out; omega) ?_)
            intro v4 w4 hO4 hx4 hg4
            rw [← HS.out] at hO4
            have HO4 := hide hO4
            have HX4 := hide hx4
            clear hO4 hx4 hg4
            go_wp2
            go_roundw
            case rel => exact ⟨k + 1, HK.out, by go_num, HO4.out, HX4.out⟩
            case measure => have := HK.out; simp only [intOf, wrap64]; omega
          · rw [if_neg h0, List.append_nil] at HS
            obtain rfl : ct = 0 := by omega
            clear h0
            go_wp2
            go_roundw
            case rel => exact ⟨k + 1, HK.out, by go_num, by rw [HS.out]; exact HO.out, HXX.out⟩
            case measure => have := HK.out; simp only [intOf, wrap64]; omega
        · obtain rfl : k = 13 := by omega
          have HSR := hide (sort_ranks lh hO hX gc 180 (cntC lh).toArray (by rw [cntC_lit]; exact HB.out.ext hX) HGL.out (fun r hr => by rw [List.getElem?_toArray]; exact cntC_get lh hr))
          clear hO hX hk hlt hix
          go_wp2_with fail
          refine HSR.out.mono ?_
          rintro e w5 ⟨rfl, o5, x5⟩
          obtain ⟨A5, c5, rfl, o5⟩ := o5
          have HO5 := hide (show OwnZ w2 w5 (.slice A5 (ordR lh).length c5) (ordR lh) from ⟨A5, c5, rfl, o5⟩)
          have HI5 := hide (cells_ints (own_cells o5).1)
          have HX5 := hide x5
          have HB5 := hide (HB.out.ext x5)
          have hl13 := ordR_len lh
          have HOM := hide (fun k (hk : k < (ordR lh).length) => ordR_mem (getD_mem hk))
          have HOT : Hid (oftR lh = (ordR lh).map fun r => (cntR lh r.toNat : Int)) := hide rfl
          clear o5 x5 HSR
          generalize hod : ordR lh = od at *
          have HOD := hide hod
          clear hod
          go_wp2
          go_loopw [8, 12, 43] (fun v _ i ws => ∃ k : Nat, k ≤ od.length ∧ i = .int .i64 k ∧ OwnZ w5 ws v ((oftR lh).take k) ∧ Ext w5 ws) (fun _ _ i _ => od.length - (intOf i).toNat)
          case atStart => exact ⟨0, by omega, rfl, OwnZ.nil w5 w5, Below.refl _ _⟩
          case round =>
            obtain ⟨k, hk, rfl, hO, hX⟩ := hrel
            by_cases hlt : k < od.length
            · obtain ⟨b, o, rfl, hc⟩ := (HI5.out.ext hX) k hlt
              obtain ⟨r, hr, hr13, hr0⟩ := HOM.out k hlt
              rw [hr] at hc
              have hcr : wr.cell? ⟨gc, r, none⟩ = some (.int .i64 (cntR lh r : Int)) := by
                have hB := HB5.out.ext hX
                rw [← cntC_lit] at hB
                rw [hB.cell, List.getElem?_toArray]
                exact cntC_get _ hr13
              have HT : Hid ((oftR lh).take (k + 1) = (oftR lh).take k ++ [(cntR lh r : Int)]) := hide (by
                rw [HOT.out, ← List.map_take, ← List.map_take, List.take_succ_eq_append_getElem hlt, List.map_append]
                congr 1
                have e : od[k] = (r : Int) := by rw [← hr]; simp [List.getD_eq_getElem?_getD, hlt]
                simp [e])
              have HLT : Hid (((oftR lh).take k).length ≤ 13) := hide (by rw [List.length_take]; omega)
              have HO := hide hO
              have HXX := hide hX
              have HK := hide hlt
              have r0 : (0 : Int) ≤ (r : Int) := by omega
              have r1 : (r : Int) < 13 := by omega
              have i0 : (0 : Int) ≤ (k : Int) := by omega
              have i1 : (k : Int) < (od.length : Int) := by omega
              clear hO hX hk hlt hr hr13 hr0
              generalize cntR lh r = ct at *
              go_wp2_with (at_builtin; go_must (refine wp_append_z (.tmp 47) (.tmp 51) rfl rfl w5 wr _ ((oftR lh).take k) (ct : Int) rfl HO.out rfl HXX.out (by have := HLT.out; omega) ?_))
              intro v4 w4 hO4 hx4 hg4
              rw [← HT.out] at hO4
              have HO4 := hide hO4
              have HX4 := hide hx4
              clear hO4 hx4 hg4 hc hcr
              go_wp2
              go_roundw
              case rel => exact ⟨k + 1, HK.out, by go_num, HO4.out, HX4.out⟩
              case measure => have := HK.out; simp only [intOf, wrap64]; omega
            · obtain rfl : k = od.length := by omega
              rw [List.take_of_length_le (by rw [HOT.out, List.length_map]; omega)] at hO
              have HO := hide hO
              have HXX := hide hX
              clear hO hX hk hlt
              go_wp2
              go_ret2
              have hs2 := HX.out.size
              have hs5 := HX5.out.size
              refine ⟨_, _, rfl, ?_⟩
              rw [HOD.out]
              exact ⟨⟨A5, c5, rfl, by
                obtain ⟨A6, c6, e6, o6⟩ := HO5.out.ext HXX.out
                simp only [Value.slice.injEq, true_and] at e6
                obtain ⟨rfl, rfl⟩ := e6
                exact own_mono o6 hs2⟩, by
                obtain ⟨A6, c6, e6, o6⟩ := HO.out
                exact ⟨A6, c6, e6, own_mono o6 (by omega)⟩, ext_trans HX.out (ext_trans HX5.out HXX.out)⟩
end Go.Proofs.Ytdoibgmmijhlfaa
