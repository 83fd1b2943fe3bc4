/- Walk: the deal's table: Deck. -/
import Derived.Test.YtdoibgmmijhlfaaDealV
import Derived.Test.YtdoibgmmijhlfaaDealC
namespace Go.Proofs.Ytdoibgmmijhlfaa
open Go.ChangeShapes Go.WideShapes Go.ChangeAt Go.RowKit Go.Shelf
set_option linter.unusedVariables false
set_option linter.unusedSimpArgs false
/-- The cells of the slices of draws of the first players. -/
def dvC (ps : List PlM) : List Value := ps.map (·.dv)
theorem dvC_one {w0 W : World} {ps : List PlM} (h : ∀ p ∈ ps, OwnZ w0 W p.dv p.dz) : ∀ u ∈ dvC ps, u.oneCell' = true := by
  intro u hu
  obtain ⟨p, hp, rfl⟩ := List.mem_map.1 hu
  obtain ⟨A, c, e, -⟩ := h p hp
  rw [e]
  rfl
theorem rows_of {w0 W : World} {ps : List PlM} {A : Option Addr} {c : Nat} (h : ∀ p ∈ ps, OwnZ w0 W p.dv p.dz) (hc : CellsAt W A (dvC ps)) : RowsAt W (.slice A ps.length c) (ps.map (·.dz)) := by
  refine ⟨A, c, by rw [List.length_map], fun k hk => ?_⟩
  have hk' : k < ps.length := by simpa using hk
  obtain ⟨B, d, e, hz⟩ := (h ps[k] (List.getElem_mem hk')).ints
  obtain ⟨b, o, e2, hcell⟩ := hc k (ps[k]).dv (by simp [dvC, hk'])
  have eg : (ps.map (·.dz)).getD k [] = (ps[k]).dz := by simp [List.getD_eq_getElem?_getD, hk']
  exact ⟨b, o, B, d, e2, by rw [hcell, e, eg], by rw [eg]; exact hz⟩
set_option maxHeartbeats 4000000 in
set_option maxRecDepth 100000 in
theorem Deck_ok {w0 W : World} {BT g : Nat} {ps : List PlM} (h : TabAt w0 W BT g ps) (hall : ∀ q ∈ ps, q.so = true) (hop : ∀ q ∈ ps, q.op = true) (hf : ∀ q ∈ ps, FitsL 52 q.dz) :
    Calls Try.prog 27 #[.pointer (some ⟨BT, 0, none⟩)] W fun e w' => ∃ A c zs, e = .returned (.tuple #[.slice A 52 c, .int .i64 0]) ∧ IntsAt w' A zs ∧ zs.Perm (freshL 52) ∧ 52 ≤ c ∧ c ≤ maxLen ∧ Ext W w' := by
  obtain ⟨i0, hi, hz0, hz1, hz2⟩ := info_parts rowInfoD
  have HST := hide (Stage_any h)
  rw [stage_two hall hop] at HST
  have H := hide h
  have HO := hide (fun W' (x : Ext W W') => (fun p hp => (h.2.2.1 p hp (hop p hp)).ext x : ∀ p ∈ ps, OwnZ w0 W' p.dv p.dz))
  have h6 := h.2.2.2.2.2.2
  have HF := hide hf
  have f := h.1.cell
  clear h hall hop hf
  go_enter Try.func27, Try.ntmps27
  go_wp2_with fail
  refine HST.out.mono ?_
  rintro e w1 ⟨rfl, x1⟩
  have X1 := hide x1
  have f := (H.out.1.ext x1).cell
  clear x1 HST
  go_wp2
  go_loopw [4, 6, 19] (fun v _ i wr => ∃ (k : Nat) (Av : Option Addr) (cv : Nat), k ≤ ps.length ∧ i = .int .i64 k ∧ v = .slice Av k cv ∧ wr.ownsRow w1.heap.size 23 1 (.slice Av k cv) k (dvC (ps.take k)) ∧ Ext w1 wr) (fun _ _ i _ => ps.length - (intOf i).toNat)
  case atStart => exact ⟨0, none, 0, by omega, rfl, rfl, World.ownsRow_nil _ _ _ _, Below.refl _ _⟩
  case round =>
    obtain ⟨k, Av, cv, hk, rfl, rfl, hown, hx⟩ := hrel
    by_cases hlt : k < ps.length
    · obtain ⟨p, hp⟩ : ∃ p, ps[k]? = some p := ⟨ps[k], List.getElem?_eq_getElem _⟩
      have X2 := hide (ext_trans X1.out hx)
      obtain ⟨c0, c1, c2, c3⟩ := blk_pl (H.out.2.1.ext X2.out) hp
      obtain ⟨A5, c5, hdv, -⟩ := HO.out W (Below.refl _ _) p (List.mem_of_getElem? hp)
      obtain ⟨n5, hn5⟩ : ∃ n5, n5 = p.dz.length := ⟨_, rfl⟩
      rw [← hn5] at hdv
      rw [hdv] at c3
      obtain ⟨xa, ka⟩ := blks1 wr #[.bool p.so, .bool p.op, .int .u64 p.sl, .slice A5 n5 c5] 113
      have HOW := hide hown
      have HXX := hide hx
      have XA := hide xa
      have KA := hide ka
      have HT : Hid (dvC (ps.take (k + 1)) = dvC (ps.take k) ++ [.slice A5 n5 c5]) := hide (by
        rw [← hdv]
        unfold dvC
        rw [List.take_succ_eq_append_getElem hlt, List.map_append]
        rw [List.getElem?_eq_getElem hlt] at hp
        injection hp with hp
        rw [hp]
        rfl)
      have i0' : (0 : Int) ≤ (k : Int) := by omega
      have i1 : (k : Int) < (ps.length : Int) := by omega
      have HK := hide hlt
      clear f hown hx xa ka hlt hk hp hdv hn5
      go_upto_region 7 with fail
      clear c0 c1 c2 c3
      generalize wr.alloc _ = w5 at *
      obtain ⟨BP, hBP⟩ : ∃ BP, BP = wr.heap.size := ⟨_, rfl⟩
      rw [← hBP] at KA ⊢
      have q5 := KA.out.cell
      have X5 := hide (ext_trans HXX.out XA.out)
      have HO5 := hide (own_ext HOW.out XA.out)
      clear hBP HOW HXX XA
      go_wp2_with (at_builtin; go_must (refine wpList_append_cells _ rfl (.tmp 23) (.tmp 26) 52 rfl w1.heap.size 23 i0 (.slice none 0 0) 1 24 Try.underlying52 hi hz0 hz1 hz2 rfl (by decide) (.slice Av k cv) k (dvC (ps.take k)) rfl ?own _ 1 1 [.slice A5 n5 c5] rfl rfl ?cells (by simp [Value.oneCell']) (by simp only [maxLen]; have := HK.out; omega) (by have := HK.out; omega) ?size (fun e => by cases e) ?_))
      case own => exact own_ext HO5.out (ext_alloc (Below.refl _ _) _)
      case cells => exact cellsAt_new _ _ [.slice A5 n5 c5]
      case size => have := X5.out.size; simp; omega
      intro v6 w6 hown6 hgrow6
      obtain ⟨A6, c6, rfl, -, -⟩ := own_shape hown6
      have X6 := hide (ext_grown (ext_alloc X5.out (.cells #[.slice A5 n5 c5] 23)) hgrow6 (own_row HO5.out))
      have HO6 := hide hown6
      clear hown6 hgrow6 HO5 X5 q5 KA
      go_wp2
      go_roundw
      case rel => exact ⟨k + 1, A6, c6, HK.out, by go_num, rfl, by rw [HT.out]; exact HO6.out, X6.out⟩
      case measure => have := HK.out; simp only [intOf, wrap64]; omega
    · obtain rfl : k = ps.length := by omega
      rw [List.take_length] at hown
      have X2 := hide (ext_trans X1.out hx)
      have HRW := hide (rows_of (HO.out wr X2.out) (own_cells hown).1 (c := cv))
      have HCB := hide (Combine_any 52 (ps.map (·.dz)) (.slice Av ps.length cv) wr HRW.out (by omega) (by omega) (by rw [List.length_map]; exact h6) (fun d hd => by
        obtain ⟨q, hq, rfl⟩ := List.mem_map.1 hd
        exact HF.out q hq))
      have f2 := (H.out.1.ext X2.out).cell
      have HFC : Hid (FitsL 52 (combM 52 (ps.map (·.dz)))) := hide (by unfold combM; exact combM_fits (by omega) _ _ (fits_zero (by omega)))
      clear f hown hx hk hlt HRW
      generalize combM 52 (ps.map (·.dz)) = cm at *
      go_wp2_with fail
      refine HCB.out.mono ?_
      rintro e w3 ⟨gc, rfl, hrow, x3⟩
      have X3 := hide (ext_trans X2.out x3)
      have HR3 := hide hrow.ints
      have f3 := (H.out.1.ext X3.out).cell
      clear f2 hrow x3 HCB
      go_wp2_with fail
      refine (Fresh_any w3).mono ?_
      rintro e w4 ⟨v4, rfl, o4, x4⟩
      obtain ⟨g4, c4, cur, rfl, -, -, -, hc4, -, -, hcm4⟩ := o4.holds (by intro e; have := congrArg List.length e; rw [freshL_len] at this; simp at this)
      have X4 := hide (ext_trans X3.out x4)
      have HI4 := hide o4.blk
      obtain ⟨A7, c7, e7, hz7⟩ := o4.ints
      simp only [Value.slice.injEq, true_and] at e7
      obtain ⟨rfl, rfl⟩ := e7
      rw [freshL_len] at hc4
      have HSH := hide (Shuffle_any _ _ 52 c4 cm.length cm.length (freshL 52) cm w4 (freshL_len 52) hc4 hcm4 hz7 okD_fresh (by intro e; have := congrArg List.length e; rw [freshL_len] at this; simp at this) rfl (HR3.out.ext x4) HFC.out)
      rw [freshL_len]
      clear f3 o4 x4 hc4 hcm4 hz7 HI4
      go_wp2_with fail
      refine HSH.out.mono ?_
      rintro e w5 ⟨v5, zs, rfl, o5, hp5, x5⟩
      have hl5 : zs.length = 52 := by rw [hp5.length_eq, freshL_len]
      obtain ⟨g5, c5, cur5, rfl, -, -, -, hc5, -, -, hcm5⟩ := o5.holds (by intro e; rw [e] at hl5; simp at hl5)
      obtain ⟨A7, c7, e7, hz7⟩ := o5.ints
      simp only [Value.slice.injEq, true_and] at e7
      obtain ⟨rfl, rfl⟩ := e7
      have HE := hide (And.intro hz7 (And.intro hp5 (And.intro (by rw [hl5] at hc5; exact hc5 : 52 ≤ c5) (And.intro hcm5 (ext_trans X4.out x5)))))
      rw [hl5]
      clear o5 hp5 x5 hc5 hcm5 hz7
      go_wp2
      go_ret2
      exact ⟨_, _, zs, rfl, HE.out⟩
end Go.Proofs.Ytdoibgmmijhlfaa
