/- Walk: the law NimsumSplits. -/
import Derived.Test.YthgbdonjheengaaNimR
import Derived.Test.YthgbdonjheengaaLNimSums
import Derived.Test.YthgbdonjheengaaRowIn
namespace Go.Proofs.Ythgbdonjheengaa
open Go.RowKit Go.Maps
set_option linter.unusedVariables false
set_option linter.unusedSimpArgs false
theorem run_minN (W : World) (ats : Array TypeId) (ty : TypeId) (k n : Nat) : (Builtin.min_ ats ty #[.int .i64 (k : Int), .int .i64 (n : Int)]).run Try.prog W = .ok (.int .i64 ((min k n : Nat) : Int)) W := by
  by_cases h : n < k
  · simp [Builtin.min_, Builtin.min2, h]; omega
  · simp [Builtin.min_, Builtin.min2, h]; omega
theorem RowB.ext {w w' : World} {g c : Nat} {l : List Nat} (h : RowB w g c l) (x : Ext w w') : RowB w' g c l := by
  obtain ⟨cur, hb, h2⟩ := h
  exact ⟨cur, hb.ext x, h2⟩
theorem own_rowB {w0 w : World} {v : Value} {l : List Nat} (h : OwnR 5 1 w0 w v l.length (bytesN l)) (h1 : 1 ≤ l.length) : ∃ g c, v = .slice (some ⟨g, 0, none⟩) l.length c ∧ l.length ≤ c ∧ RowB w g c l ∧ w0.heap.size ≤ g := by
  obtain ⟨A, c, rfl, hl, ho⟩ := h
  rcases ho with ⟨_, e⟩ | ⟨g, cap, cur, ev, hb, hh, hc, _, hs, ht⟩
  · omega
  · injection ev with e1 _ e3
    subst e1 e3
    refine ⟨g, c, rfl, hc, ⟨cur, hh, by omega, hc, fun j x hj => ?_⟩, hb⟩
    have hjl := (List.getElem?_eq_some_iff.1 hj).1
    have h3 : (cur.toList.take (l.length * 1))[j]? = (bytesN l)[j]? := by rw [ht]
    rw [List.getElem?_take_of_lt (by omega)] at h3
    rw [← Array.getElem?_toList, h3]
    simp only [bytesN, List.getElem?_map, hj, Option.map_some]
theorem xS_snoc (L : List Nat) (h : Nat) : xS (L ++ [h]) = xS L ^^^ gS h := by
  rw [xS_perm (List.perm_append_comm (l₁ := L) (l₂ := [h]))]
  show gS h ^^^ xS L = _
  rw [Nat.xor_comm]
theorem wt_six : ∀ {L : List Nat}, (∀ x ∈ L, x ≤ 6) → wtS L ≤ 6 * L.length
  | [], _ => by simp [wtS]
  | x :: L, h => by
    have ih := wt_six (L := L) fun y hy => h y (List.mem_cons_of_mem _ hy)
    have hx := h x List.mem_cons_self
    unfold wtS at ih ⊢
    rw [List.map_cons, List.sum_cons, List.length_cons]
    omega
theorem grL_xS {L : List Nat} (h : wtS L ≤ 64) : grL L = xS L := gr_split _ L (Nat.le_refl _) h
theorem xS_le {L : List Nat} (h : wtS L ≤ 64) : xS L ≤ 64 := by rw [← grL_xS h]; exact grL_le h
theorem take_setN {L : List Nat} {k : Nat} (y : Nat) (hk : k < L.length) : (L.set k y).take (k + 1) = L.take k ++ [y] := by
  rw [List.take_add_one, List.getElem?_set, if_pos rfl, if_pos hk, List.take_set, List.set_eq_of_length_le (by simp; omega)]
  rfl
theorem one_at {w : World} {g c k y : Nat} {L : List Nat} (h : RowB w g c L) (hk : L[k]? = some y) : CellsAt w (some ⟨g, k, none⟩) (bytesN [y]) := by
  intro i v hi
  refine ⟨g, k, rfl, ?_⟩
  match i, hi with
  | 0, hi =>
    rw [Nat.add_zero, h.cell hk]
    exact hi
  | i + 1, hi => simp [bytesN] at hi
set_option maxHeartbeats 4000000 in
set_option maxRecDepth 100000 in
theorem splits_walk (l0 : List Nat) (m n c ab ao : Nat) (hm : min n 3 = m) (h1 : 1 ≤ m) (hl0 : l0.length = m) (hsm : ∀ x ∈ l0, x < 256) (hnc : n ≤ c) (w : World) (hA : CellsAt w (some ⟨ab, ao, none⟩) (bytesN l0)) :
    Calls Try.prog 7 #[.slice (some ⟨ab, ao, none⟩) n c] w fun e w' => e = .returned (.bool true) ∧ Ext w w' := by
  have m3 : m ≤ 3 := by omega
  have HCL := Lib.hid (fun W (x : Ext w W) => cloneBytes_any (some ⟨ab, ao, none⟩) m c l0 W hl0 (by omega) (by intro h; cases h) (hA.ext x))
  have hmin : ∀ (W : World) (ats : Array TypeId) (ty : TypeId), (Builtin.min_ ats ty #[.int .i64 (n : Int), .int .i64 3]).run Try.prog W = .ok (.int .i64 (m : Int)) W := fun W ats ty => by
    have h := run_minN W ats ty n 3
    rwa [hm] at h
  have hmc : m ≤ c := by omega
  have hmn : m ≤ n := by omega
  have HM3 := Lib.hid m3
  have HM1 := Lib.hid h1
  have HL0 := Lib.hid hl0
  have HSM := Lib.hid hsm
  rw [hl0] at HCL
  clear hA hsm hm m3 h1 hl0 hnc
  go_enter Try.func7, Try.ntmps7
  go_wp2_with fail
  refine (summed_any _).mono ?_
  rintro e w2 ⟨rfl, x⟩
  have X := Lib.hid x
  clear x
  go_wp2_with fail
  refine (HCL.out _ X.out).mono ?_
  rintro e w3 ⟨v, rfl, ho, x⟩
  rw [← HL0.out] at ho
  obtain ⟨g, cc, rfl, hcc, hr, hg⟩ := own_rowB ho (by rw [HL0.out]; exact HM1.out)
  rw [HL0.out]
  have HX := Lib.hid (ext_trans X.out x)
  have HG := Lib.hid (Nat.le_trans X.out.size hg)
  have HR := Lib.hid hr
  have hcc2 : m ≤ cc := by rw [← HL0.out]; exact hcc
  clear x ho hcc hr hg X HCL hmin hmc hmn
  go_wp2_with fail
  go_loopw [3, 19] (fun want i wr => ∃ (k : Nat) (L : List Nat), k ≤ m ∧ i = .int .i64 (k : Int) ∧ want = .int .i64 (xS (L.take k) : Int) ∧ L.length = m ∧ (∀ x ∈ L, x < 256) ∧ (∀ x ∈ L.take k, x ≤ 6) ∧ RowB wr g cc L ∧ Ext w wr) (fun _ i _ => m - (intOf i).toNat)
  case atStart => exact ⟨0, l0, Nat.zero_le _, rfl, rfl, HL0.out, HSM.out, by simp, HR.out, HX.out⟩
  case round =>
    obtain ⟨k, L, hk, rfl, rfl, hL, hb, h6, hr, hx⟩ := hrel
    have HL := Lib.hid hL
    have HB := Lib.hid hb
    have H6 := Lib.hid h6
    have HX := Lib.hid hx
    have HR := Lib.hid hr
    by_cases hkm : k < m
    · obtain ⟨y, hy⟩ : ∃ y, L[k]? = some y := ⟨_, List.getElem?_eq_getElem (by rw [hL]; exact hkm)⟩
      have HY := Lib.hid hy
      have HK := Lib.hid hkm
      have t0 : decide ((k : Int) < (m : Int)) = true := decide_eq_true (by omega)
      have t0n : decide (k < m) = true := decide_eq_true hkm
      have k3 := HM3.out
      have k4 : (k : Int) ≤ 3 := by omega
      have k5 : (k : Int) < (m : Int) := by omega
      have hcy := hr.cell hy
      have hff := hr.frozen k
      have HW6 := Lib.hid (fun (z : Nat) (hz : z ≤ 6) => (show wtS [z] ≤ 6 from wt_six (L := [z]) (fun x hx => by obtain rfl := List.mem_singleton.1 hx; exact hz)))
      have HXL := Lib.hid (xS_le (L := L.take k) (by have := wt_six h6; rw [List.length_take] at this; omega))
      clear hr hx h6 hb hL hk hy
      generalize hxs : xS (L.take k) = xs at *
      have HXS := Lib.hid hxs
      clear hxs
      have HYM := Lib.hid (show y % 7 ≤ 6 by omega)
      have HBY := Lib.hid (show y % 7 < 256 by omega)
      have e7 : ((y % 7 : Nat) : Int) = (y : Int) % 7 := by omega
      have r7 : Int.tmod (y : Int) 7 = (y : Int) % 7 := by rw [Int.tmod_eq_emod_of_nonneg (by omega)]
      go_upto_region 9 with fail
      have r9 := HR.out.set (i := k) (by rw [HL.out]; exact HK.out) (y % 7)
      have x9 := ext_set HX.out (p := ⟨g, k, none⟩) HG.out (.int .u8 ((y % 7 : Nat) : Int))
      rw [e7] at r9 x9
      have HL9 := Lib.hid (show (L.set k (y % 7)).length = m by rw [List.length_set]; exact HL.out)
      have HT9 := Lib.hid (take_setN (L := L) (k := k) (y % 7) (by rw [HL.out]; exact HK.out))
      have HS9 := Lib.hid (show (L.set k (y % 7))[k]? = some (y % 7) by rw [List.getElem?_set, if_pos rfl, if_pos (by rw [HL.out]; exact HK.out)])
      have HB9 := Lib.hid (show ∀ x ∈ L.set k (y % 7), x < 256 from fun x hx => by
        rcases List.mem_or_eq_of_mem_set hx with hx | rfl
        · exact HB.out x hx
        · exact HBY.out)
      have H69 := Lib.hid (show ∀ x ∈ L.take k ++ [y % 7], x ≤ 6 from fun x hx => by
        rcases List.mem_append.1 hx with hx | hx
        · exact H6.out x hx
        · obtain rfl := List.mem_singleton.1 hx
          exact HYM.out)
      have HX9 := Lib.hid (xS_snoc (L.take k) (y % 7))
      rw [HXS.out] at HX9
      clear hcy hff HR HX HL HB H6 HY HXS
      generalize wr.setCell ⟨g, k, none⟩ (.int .u8 ((y : Int) % 7)) = w9 at *
      clear e7 r7
      generalize y % 7 = z at *
      generalize L.set k z = L9 at *
      have R9 := Lib.hid r9
      have X9 := Lib.hid x9
      have hcv := to_str [z] (fun x hx => by obtain rfl := List.mem_singleton.1 hx; exact HBY.out) (some ⟨g, k, none⟩) (cc - k) w9 (one_at r9 HS9.out) (by intro h; cases h)
      clear r9 x9
      have HV := Lib.hid (fun W => split_val [z] 1000 (by simp) (by have := HW6.out z HYM.out; omega) (by decide) (.inr (by have := HW6.out z HYM.out; omega)) W)
      have HGZ := Lib.hid (show grL [z] ≤ 64 from grL_le (by have := HW6.out z HYM.out; omega))
      simp only [List.length_singleton] at hcv
      go_wp2_with fail
      refine (HV.out _).mono ?_
      rintro e w10 ⟨rfl, x⟩
      have R10 := Lib.hid (R9.out.ext x)
      have X10 := Lib.hid (ext_trans X9.out x)
      clear x R9 X9 hcv HV
      have HGS := Lib.hid (show grL [z] = gS z from rfl)
      generalize hgz : grL [z] = gz at *
      have HS := Lib.hid (fun W (b : Nat) (h : Blk W b 3 #[.int .i64 (xs : Int), .int .i64 (gz : Int)]) => sum_any [xs, gz] (by simp) (fun x hx => by
        have := HXL.out
        have := HGZ.out
        rcases List.mem_cons.1 hx with rfl | hx
        · omega
        · obtain rfl := List.mem_singleton.1 hx; omega) (some ⟨b, 0, none⟩) 2 W (blk_zs h))
      rw [show xorN [xs, gz] = xs ^^^ gz by rw [xorN_cons, xorN_cons]; show xs ^^^ (gz ^^^ 0) = _; rw [Nat.xor_zero]] at HS
      obtain ⟨xa, k2⟩ := blks1 w10 #[.int .i64 (xs : Int), .int .i64 (gz : Int)] 3
      have R11 := Lib.hid (R10.out.ext xa)
      have X11 := Lib.hid (ext_trans X10.out xa)
      clear R10 X10 xa hgz
      go_wp2_with fail
      generalize (w10.alloc (.cells #[.int .i64 (xs : Int), .int .i64 (gz : Int)] 3)) = w11 at *
      generalize w10.heap.size = B2 at *
      refine (HS.out _ _ k2).mono ?_
      rintro e w12 ⟨rfl, rfl⟩
      clear k2 HS
      go_wp2
      go_roundw
      case rel => exact ⟨k + 1, L9, HK.out, by go_num, by rw [HT9.out, HX9.out, HGS.out], HL9.out, HB9.out, by rw [HT9.out]; exact H69.out, R11.out, X11.out⟩
      case measure => have := HK.out; simp [intOf]; omega
    · obtain rfl : k = m := by omega
      have t0 : decide ((k : Int) < (k : Int)) = false := decide_eq_false (by omega)
      have t0n : decide (k < k) = false := decide_eq_false (by omega)
      have htk : L.take k = L := List.take_of_length_le (by omega)
      rw [htk] at h6 ⊢
      have HSO := Lib.hid (fun W (h : RowB W g cc L) (x : Ext w W) => sort_any L k HL.out HM1.out (by have := HM3.out; omega) w W g cc hcc2 h HG.out x)
      have H6 := Lib.hid h6
      clear hr hx h6 hb hL hk
      go_wp2_with fail
      refine (HSO.out _ HR.out HX.out).mono ?_
      rintro e w5 ⟨rfl, L9, hp, hs, r9, x9⟩
      have h69 : ∀ x ∈ L9, x ≤ 6 := fun x hx => H6.out x (hp.mem_iff.1 hx)
      have hl9 : L9.length = k := by rw [hp.length_eq]; exact HL.out
      have hw9 : wtS L9 ≤ 18 := by have := wt_six h69; have := HM3.out; omega
      have HE := Lib.hid (show grL L9 = xS L by rw [grL_xS (by omega)]; exact xS_perm hp)
      have hcv := to_str L9 (fun x hx => by have := h69 x hx; omega) (some ⟨g, 0, none⟩) cc w5 r9.cells (by intro h; cases h)
      rw [hl9] at hcv
      have HV := Lib.hid (fun W => split_val L9 20000 hs (by omega) (by decide) (.inl (by decide)) W)
      rw [HE.out] at HV
      have X9 := Lib.hid x9
      clear h69 hw9 hs r9 x9 hp hl9 HSO htk
      go_wp2_with fail
      refine (HV.out _).mono ?_
      rintro e w10 ⟨rfl, x⟩
      have XX := Lib.hid (ext_trans X9.out x)
      clear x X9 hcv HV HE
      generalize xS L = xs at *
      have t9 : ((xs : Int) == (xs : Int)) = true := beq_self_eq_true _
      go_wp2
      go_ret
      exact ⟨by first | rfl | simp, XX.out⟩
set_option maxHeartbeats 4000000 in
set_option maxRecDepth 100000 in
theorem splits_empty (A : Option Addr) (c : Nat) (w : World) :
    Calls Try.prog 7 #[.slice A 0 c] w fun e w' => e = .returned (.bool true) ∧ Ext w w' := by
  have HCL := Lib.hid (fun W => cloneBytes_any A 0 c [] W rfl (by omega) (fun _ => rfl) (fun i v h => by simp [bytesN] at h))
  have hmin : ∀ (W : World) (ats : Array TypeId) (ty : TypeId), (Builtin.min_ ats ty #[.int .i64 0, .int .i64 3]).run Try.prog W = .ok (.int .i64 0) W := fun W ats ty => run_minN W ats ty 0 3
  go_enter Try.func7, Try.ntmps7
  go_wp2_with fail
  refine (summed_any _).mono ?_
  rintro e w2 ⟨rfl, x⟩
  have X := Lib.hid x
  clear x
  go_wp2_with fail
  refine (HCL.out _).mono ?_
  rintro e w3 ⟨v, rfl, ⟨A9, c9, rfl, ho⟩, x⟩
  have HX := Lib.hid (ext_trans X.out x)
  clear x ho X HCL hmin
  go_wp2_with fail
  go_loopw [3, 19] (fun want i wr => i = .int .i64 0 ∧ want = .int .i64 0 ∧ Ext w wr) (fun _ _ _ => 0)
  case atStart => exact ⟨rfl, rfl, HX.out⟩
  case round =>
    obtain ⟨rfl, rfl, hx⟩ := hrel
    have X9 := Lib.hid hx
    clear hx
    go_wp2_with fail
    refine (sort0_any A9 c9 _).mono ?_
    rintro e w5 ⟨rfl, rfl⟩
    have hcv := to_str [] (fun x hx => by simp at hx) A9 c9 wr (fun i v h => by simp [bytesN] at h) (fun _ => rfl)
    have HV := Lib.hid (fun W => split_val [] 20000 (by simp) (by decide) (by decide) (.inl (by decide)) W)
    rw [show grL [] = 0 by decide +kernel] at HV
    simp only [List.length_nil] at hcv
    go_wp2_with fail
    refine (HV.out _).mono ?_
    rintro e w10 ⟨rfl, x⟩
    have XX := Lib.hid (ext_trans X9.out x)
    clear x X9 hcv HV
    go_wp2
    go_ret
    exact ⟨by first | rfl | simp, XX.out⟩
/-- A row of bytes that came in. -/
def IsRowB (w : World) (a : Option Addr) (n c : Nat) : Prop := n = 0 ∨ ∃ b o l, a = some ⟨b, o, none⟩ ∧ n ≤ c ∧ l.length = n ∧ (∀ x ∈ l, x < 256) ∧ CellsAt w (some ⟨b, o, none⟩) (bytesN l)
theorem nimsumSplits_law (A : Option Addr) (n c : Nat) (w : World) (h : IsRowB w A n c) : Calls Try.prog 7 #[.slice A n c] w fun e w' => e = .returned (.bool true) ∧ Ext w w' := by
  rcases h with rfl | ⟨b, o, l, rfl, hc, hl, hx, hA⟩
  · exact splits_empty A c w
  · by_cases h0 : n = 0
    · subst h0; exact splits_empty _ c w
    · exact splits_walk (l.take 3) (min n 3) n c b o rfl (by omega) (by rw [List.length_take]; omega) (fun x h => hx x (List.mem_of_mem_take h)) hc w (fun i v hi => hA i v (by
        unfold bytesN at hi ⊢
        rw [List.map_take, List.getElem?_take] at hi
        split at hi
        · exact hi
        · cases hi))
theorem isRowB_of {w : World} {a : Addr} {n c : Nat} {zs : List Int} (hc : n ≤ c) (hz : n ≤ zs.length) (hcell : ∀ i, i < zs.length → w.cell? (a.add i) = some (.int .u8 (zs.getD i 0))) (hw : ∀ z ∈ zs, (Lit.int .u8 z).wf = true) : IsRowB w (some a) n c := by
  by_cases h0 : n = 0
  · exact .inl h0
  have hx := spot_none (hcell 0 (by omega))
  have hadd : a.add 0 = a := rfl
  rw [hadd] at hx
  have hr : ∀ i, i < zs.length → 0 ≤ zs.getD i 0 ∧ zs.getD i 0 < 256 := fun i hi => by
    have h1 := hw (zs.getD i 0) (by rw [List.getD_eq_getElem?_getD, List.getElem?_eq_getElem hi]; exact List.getElem_mem hi)
    have h2 := Bool.and_eq_true_iff.1 h1
    have h3 := of_decide_eq_true h2.1
    have h4 := of_decide_eq_true h2.2
    have e3 : IntKind.u8.min = 0 := by decide
    have e4 : IntKind.u8.max = 255 := by decide
    rw [e3] at h3
    rw [e4] at h4
    omega
  refine .inr ⟨a.block, a.off, (zs.take n).map Int.toNat, by rw [← hx], hc, by simp; omega, fun x hx => ?_, fun i v hi => ⟨a.block, a.off, rfl, ?_⟩⟩
  · obtain ⟨z, hz, rfl⟩ := List.mem_map.1 hx
    obtain ⟨i, hi, rfl⟩ := List.getElem_of_mem (List.mem_of_mem_take hz)
    have := hr i hi
    rw [List.getD_eq_getElem?_getD, List.getElem?_eq_getElem hi] at this
    simp at this
    omega
  · have hin : i < n := by
      have := (List.getElem?_eq_some_iff.1 hi).1
      simp [bytesN] at this
      omega
    have h1 := hcell i (by omega)
    rw [hx, add_lit] at h1
    rw [h1, ← hi]
    have := hr i (by omega)
    simp [bytesN, hin, List.getElem?_take_of_lt, List.getElem?_eq_getElem (show i < zs.length by omega), List.getD_eq_getElem?_getD] at this ⊢
    omega
end Go.Proofs.Ythgbdonjheengaa
