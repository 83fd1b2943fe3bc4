/- Walk: place.readRow. -/
import Derived.Test.YtdoibgmmijhlfaaDoorGTxtE
import Derived.BigFrame
namespace Go.Proofs.YtdoibgmmijhlfaaDoor
open Go.RowKit
set_option linter.unusedVariables false
set_option linter.unusedSimpArgs false
theorem run_minZ (W : World) (ats : Array TypeId) (ty : TypeId) (a b : Int) : (Builtin.min_ ats ty #[.int .i64 a, .int .i64 b]).run Tryd.prog W = .ok (.int .i64 (min a b)) W := by
  have e : min a b = if b < a then b else a := by split <;> omega
  rw [e]
  simp [Builtin.min_, Builtin.min2]
theorem intInfoZ : (Tryd.prog.info? 3).map (fun i => (i.zero, i.size, i.bytes)) = some (some (.int .i64 0), 1, 8) := by kernel_rfl
set_option maxHeartbeats 4000000 in
set_option maxRecDepth 100000 in
theorem readRow_any (R : RulesM) (v : Value) (s : BL) (w : World) (hR : RulesAt w v R) (h6 : R.pieces.length ≤ 6) (hW0 : 1 ≤ R.width) (hW8 : R.width ≤ 8) (hs : s.length ≤ 8192) (hw : LibW w) :
    Calls Tryd.prog 26 #[v, .string (strU s)] w fun e w' => (∃ A c, e = .returned (.slice A (readRowR R.pieces R.width.toNat (s.length + 1) [] s).length c) ∧ (readRowR R.pieces R.width.toNat (s.length + 1) [] s).length ≤ c ∧ (readRowR R.pieces R.width.toNat (s.length + 1) [] s).length ≤ 17 ∧ (A = none → (readRowR R.pieces R.width.toNat (s.length + 1) [] s).length = 0) ∧ IntsAt w' A (readRowR R.pieces R.width.toNat (s.length + 1) [] s)) ∧ Ext w w' := by
  have HPI := Lib.hid (fun W (x : Ext w W) (b : UInt8) => piece_any R v b W (hR.ext x) h6)
  have HNU := Lib.hid (fun W (x : Ext w W) (r : BL) (hr : r.length ≤ 8192) => number_any r hr W (hw.ext x))
  obtain ⟨pA, pc, sA, sc, eA, ec, rfl, hp, -⟩ := hR
  obtain ⟨ps, hps⟩ : ∃ ps, ps = R.pieces := ⟨_, rfl⟩
  rw [← hps] at HPI h6 ⊢
  obtain ⟨n, hn⟩ : ∃ n, ps.length = n := ⟨_, rfl⟩
  rw [hn] at HPI h6 ⊢
  have HN := Lib.hid hn
  obtain ⟨wd, hwd⟩ : ∃ wd : Nat, R.width = (wd : Int) := ⟨R.width.toNat, by omega⟩
  rw [hwd] at hW0 hW8 HPI ⊢
  rw [Int.toNat_natCast]
  generalize hRES : readRowR ps wd (s.length + 1) [] s = RES
  have HRES := Lib.hid hRES
  have HS := Lib.hid hs
  obtain ⟨xa, k1⟩ := blks1 w #[.string R.name, .int .i64 (wd : Int), .int .i64 R.height, .slice pA n pc, .slice sA R.start.length sc, .bool R.falls, .bool R.keeps, .slice eA R.ends.length ec, .int .i64 R.blocked, .int .i64 R.quiet, .int .i64 R.rept] 26
  have hmin : ∀ W ats ty a b, (Builtin.min_ ats ty #[.int .i64 a, .int .i64 b]).run Tryd.prog W = .ok (.int .i64 (min a b)) W := run_minZ
  clear hRES hs hp hw hn hps
  go_enter Tryd.func26, Tryd.ntmps26
  go_upto_region 1 with fail
  generalize hwA : w.alloc _ = wA at *
  have hsz : wA.heap.size = w.heap.size + 1 := by rw [← hwA]; simp
  clear hwA
  go_wp2_with fail
  obtain ⟨B, hB⟩ : ∃ B, B = w.heap.size := ⟨_, rfl⟩
  rw [← hB] at k1 ⊢
  have HBW := Lib.hid hB
  have K0 := Lib.hid k1
  have XA := Lib.hid xa
  clear hB k1 xa hsz
  go_loopw [1, 5] (fun sv ov wr => ∃ (s' : BL) (L' : List Int), sv = .string (strU s') ∧ s'.length ≤ s.length ∧ L'.length ≤ 17 ∧ readRowR ps wd (s'.length + 1) L' s' = RES ∧ OwnR 3 1 wA wr ov L'.length (L'.map (Value.int .i64)) ∧ Ext wA wr) (fun sv _ _ => strLen sv)
  case atStart => exact ⟨s, [], rfl, Nat.le_refl _, by simp, HRES.out, OwnR.nil _ _ _ _, Below.refl _ _⟩
  case round =>
    obtain ⟨s', L', rfl, h1, h2, h3, hO, hx⟩ := hrel
    have HX := Lib.hid hx
    have HXW := Lib.hid (ext_trans XA.out hx)
    have HB0 := Lib.hid (K0.out.ext hx)
    have hc1 : wr.cell? ⟨B, 1, none⟩ = some (.int .i64 (wd : Int)) := HB0.out.cell 1
    have hos := hO.cells
    obtain ⟨oA, oc, rfl, hoc, hol, hon, -⟩ := hos
    have HO := Lib.hid hO
    have HOC := Lib.hid (And.intro (cells_ints hoc) (And.intro hol hon))
    have HL2 := Lib.hid h2
    have H1 := Lib.hid h1
    rw [readRow_succ] at h3
    clear hO hx h1 hoc hol hon
    cases s' with
    | nil =>
      have e1 := empty_is
      rw [if_pos (.inl rfl)] at h3
      have e2 : RES = L' := h3.symm
      clear h3 h2
      go_wp2
      go_ret
      subst e2
      exact ⟨⟨_, _, rfl, HOC.out.2.1, HL2.out, HOC.out.2.2, HOC.out.1⟩, HXW.out⟩
    | cons b r =>
      have e1 := empty_not b r
      by_cases hlw : wd < L'.length
      · rw [if_pos (.inr hlw)] at h3
        have e2 : RES = L' := h3.symm
        have t1 : decide ((L'.length : Int) ≤ (wd : Int)) = false := decide_eq_false (by omega)
        have t1n : decide (L'.length ≤ wd) = false := decide_eq_false (by omega)
        clear h3 h2 hlw
        go_wp2
        go_ret
        subst e2
        exact ⟨⟨_, _, rfl, HOC.out.2.1, HL2.out, HOC.out.2.2, HOC.out.1⟩, HXW.out⟩
      · rw [if_neg (fun h => h.elim (fun h => by cases h) hlw)] at h3
        have t1 : decide ((L'.length : Int) ≤ (wd : Int)) = true := decide_eq_true (by omega)
        have t1n : decide (L'.length ≤ wd) = true := decide_eq_true (by omega)
        have HLW := Lib.hid (show L'.length ≤ wd by omega)
        have H3 := Lib.hid h3
        have HNL := Lib.hid (numR_len (b :: r))
        have HNM := Lib.hid (@numR_less (b :: r))
        clear h3 h2 hlw
        go_wp2_with fail
        refine (HNU.out _ HXW.out (b :: r) (by have h1 := H1.out; have h2 := HS.out; omega)).mono ?_
        rintro e w5 ⟨rfl, x5⟩
        have HX5 := Lib.hid (ext_trans HX.out x5)
        have HXW5 := Lib.hid (ext_trans HXW.out x5)
        have HO5 := Lib.hid (HO.out.ext x5)
        have HOC5 := Lib.hid (And.intro (HOC.out.1.ext x5) HOC.out.2)
        have HB5 := Lib.hid (HB0.out.ext x5)
        have hc1 := HB5.out.cell
        clear x5 HX HXW HO HOC HB0
        generalize hM : (numR (b :: r)).1 = M at *
        generalize hT : (numR (b :: r)).2 = T at *
        clear hM hT
        by_cases hM0 : 0 ≤ M
        · have tM : decide (0 ≤ M) = true := decide_eq_true hM0
          have H4 := Lib.hid (show readRowR ps wd (b :: r).length (L' ++ List.replicate (min M ((wd : Int) + 1)).toNat 0) T = RES by have h := H3.out; rw [if_pos hM0] at h; exact h)
          have HTL := Lib.hid (HNM.out hM0)
          obtain ⟨k, hk⟩ : ∃ k : Nat, min M ((wd : Int) + 1) = (k : Int) := ⟨(min M ((wd : Int) + 1)).toNat, by omega⟩
          rw [hk, Int.toNat_natCast] at H4
          have hmk : ∀ W ats ty, (Builtin.min_ ats ty #[.int .i64 M, .int .i64 ((wd : Int) + 1)]).run Tryd.prog W = .ok (.int .i64 (k : Int)) W := fun W ats ty => by rw [run_minZ, hk]
          have HK := Lib.hid (show k ≤ 9 by omega)
          clear hmin hk
          go_wp2_with (at_builtin; refine wp_append_zeros (.tmp 27) (.tmp 32) rfl rfl wA w5 (.slice oA L'.length oc) L'.length k _ rfl HO5.out rfl (by have := HLW.out; have := HK.out; omega) HX5.out ?_; intro v6 w6 own6 x6 g6)
          have HO6 := Lib.hid own6
          have HX6 := Lib.hid x6
          clear own6 x6 g6 hc1
          go_wp2
          go_roundw
          case rel => exact ⟨T, L' ++ List.replicate k 0, rfl, by have := HTL.out; have := H1.out; omega, by have := HLW.out; have := HK.out; rw [List.length_append, List.length_replicate]; omega, by rw [row_fuel ps wd _ (b :: r).length _ _ (Nat.le_refl _) HTL.out]; exact H4.out, by have h := HO6.out; rw [List.length_append, List.length_replicate, List.map_append, List.map_replicate]; exact h, HX6.out⟩
          case measure => have := HTL.out; simp only [strLen, strU_size]; omega
        · have tM : decide (0 ≤ M) = false := decide_eq_false hM0
          have H4 := Lib.hid (show (if pieceK ps (if 97 ≤ b.toNat then b - 32 else b) < 0 then [] else readRowR ps wd (b :: r).length (L' ++ [2 * pieceK ps (if 97 ≤ b.toNat then b - 32 else b) + (if 97 ≤ b.toNat then 2 else 1)]) r) = RES by have h := H3.out; rw [if_neg hM0] at h; exact h)
          have hsz := strU_size (b :: r)
          have hib : ∀ h : 0 < (strU (b :: r)).size, ((strU (b :: r))[0]'h).toNat = b.toNat := fun h => strU_get rfl h
          have hdr : (strU (b :: r)).extract 1 (strU (b :: r)).size = strU r := strU_drop (b :: r) 1
          have hm3 : 0 < (strU (b :: r)).size := by rw [hsz, List.length_cons]; omega
          have hm4 : 1 ≤ (strU (b :: r)).size := hm3
          have hm0 : (0 : Int) < ((strU (b :: r)).size : Int) := by omega
          have hm2 : (1 : Int) ≤ ((strU (b :: r)).size : Int) := by omega
          have HSZ2 := Lib.hid hsz
          clear hsz e1
          generalize strU (b :: r) = S at *
          by_cases h97 : 97 ≤ b.toNat
          · have t97 : decide ((97 : Int) ≤ (b.toNat : Int)) = true := decide_eq_true (by omega)
            rw [if_pos h97, if_pos h97] at H4
            have hbb := b.toNat_lt
            have hsub : (b - 32).toNat = b.toNat - 32 := by rw [UInt8.toNat_sub_of_le _ _ (by rw [UInt8.le_iff_toNat_le]; exact Nat.le_trans (by decide : (32 : UInt8).toNat ≤ 97) h97)]; rfl
            have u8 : IntKind.u8.wrap ((b.toNat : Int) - 32) = ((b - 32).toNat : Int) := by rw [IntKind.wrap_u8, hsub]; omega
            clear hsub h97 hbb
            go_wp2_with fail
            refine (HPI.out _ HXW5.out (b - 32)).mono ?_
            rintro e w6 ⟨rfl, x6⟩
            have HX6 := Lib.hid (ext_trans HX5.out x6)
            have HXW6 := Lib.hid (ext_trans HXW5.out x6)
            have HO6 := Lib.hid (HO5.out.ext x6)
            clear x6 HX5 HXW5 HO5 HOC5 HB5 hc1 hib
            have hrg := pieceK_rng ps (b - 32)
            rw [HN.out] at hrg
            generalize pieceK ps (b - 32) = K at *
            obtain ⟨hr0, hr1⟩ := hrg
            have hr1 : K < 6 := by omega
            by_cases hK : K < 0
            · have tK : decide (K < 0) = true := decide_eq_true hK
              rw [if_pos hK] at H4
              have e2 : RES = [] := H4.out.symm
              clear hK hr0 hr1
              go_wp2
              go_ret
              subst e2
              exact ⟨⟨none, 0, rfl, Nat.le_refl _, by simp, fun _ => rfl, fun i hi => by simp at hi⟩, HXW6.out⟩
            · have tK : decide (K < 0) = false := decide_eq_false hK
              rw [if_neg hK] at H4
              have hK0 : 0 ≤ K := by omega
              have sm1 : IntKind.i64.wrap (2 * K) = 2 * K := by rw [IntKind.wrap_i64]; omega
              have sm2 : IntKind.i64.wrap (2 * K + 2) = 2 * K + 2 := by rw [IntKind.wrap_i64]; omega
              clear hr0 hK
              go_wp2_with (at_builtin; refine wp_append_r (.tmp 46) (.tmp 51) rfl 23 rfl 3 1 8 (.int .i64 0) Tryd.underlying23 intInfoZ rfl (by decide) (by decide) wA w6 (.slice oA L'.length oc) L'.length _ [.int .i64 (2 * K + 2)] rfl HO6.out rfl rfl (by simp [Value.oneCell']) HX6.out (by have := HLW.out; omega) ?_; intro v7 w7 own7 x7 g7)
              have HO7 := Lib.hid own7
              have HX7 := Lib.hid x7
              clear own7 x7 g7
              go_wp2
              try rw [hdr]
              go_roundw
              case rel => exact ⟨r, L' ++ [2 * K + 2], rfl, by have := H1.out; rw [List.length_cons] at this; omega, by have := HLW.out; simp only [List.length_append, List.length_singleton]; omega, by rw [row_fuel ps wd _ (b :: r).length _ _ (Nat.le_refl _) (by rw [List.length_cons]; exact Nat.le_refl _)]; exact H4.out, by have h := HO7.out; simpa using h, HX7.out⟩
              case measure => simp only [strLen, strU_size, List.length_cons]; omega
          · have t97 : decide ((97 : Int) ≤ (b.toNat : Int)) = false := decide_eq_false (by omega)
            rw [if_neg h97, if_neg h97] at H4
            clear h97
            go_wp2_with fail
            refine (HPI.out _ HXW5.out b).mono ?_
            rintro e w6 ⟨rfl, x6⟩
            have HX6 := Lib.hid (ext_trans HX5.out x6)
            have HXW6 := Lib.hid (ext_trans HXW5.out x6)
            have HO6 := Lib.hid (HO5.out.ext x6)
            clear x6 HX5 HXW5 HO5 HOC5 HB5 hc1 hib
            have hrg := pieceK_rng ps b
            rw [HN.out] at hrg
            generalize pieceK ps b = K at *
            obtain ⟨hr0, hr1⟩ := hrg
            have hr1 : K < 6 := by omega
            by_cases hK : K < 0
            · have tK : decide (K < 0) = true := decide_eq_true hK
              rw [if_pos hK] at H4
              have e2 : RES = [] := H4.out.symm
              clear hK hr0 hr1
              go_wp2
              go_ret
              subst e2
              exact ⟨⟨none, 0, rfl, Nat.le_refl _, by simp, fun _ => rfl, fun i hi => by simp at hi⟩, HXW6.out⟩
            · have tK : decide (K < 0) = false := decide_eq_false hK
              rw [if_neg hK] at H4
              have hK0 : 0 ≤ K := by omega
              have sm1 : IntKind.i64.wrap (2 * K) = 2 * K := by rw [IntKind.wrap_i64]; omega
              have sm2 : IntKind.i64.wrap (2 * K + 1) = 2 * K + 1 := by rw [IntKind.wrap_i64]; omega
              clear hr0 hK
              go_wp2_with (at_builtin; refine wp_append_r (.tmp 46) (.tmp 51) rfl 23 rfl 3 1 8 (.int .i64 0) Tryd.underlying23 intInfoZ rfl (by decide) (by decide) wA w6 (.slice oA L'.length oc) L'.length _ [.int .i64 (2 * K + 1)] rfl HO6.out rfl rfl (by simp [Value.oneCell']) HX6.out (by have := HLW.out; omega) ?_; intro v7 w7 own7 x7 g7)
              have HO7 := Lib.hid own7
              have HX7 := Lib.hid x7
              clear own7 x7 g7
              go_wp2
              try rw [hdr]
              go_roundw
              case rel => exact ⟨r, L' ++ [2 * K + 1], rfl, by have := H1.out; rw [List.length_cons] at this; omega, by have := HLW.out; simp only [List.length_append, List.length_singleton]; omega, by rw [row_fuel ps wd _ (b :: r).length _ _ (Nat.le_refl _) (by rw [List.length_cons]; exact Nat.le_refl _)]; exact H4.out, by have h := HO7.out; simpa using h, HX7.out⟩
              case measure => simp only [strLen, strU_size, List.length_cons]; omega
end Go.Proofs.YtdoibgmmijhlfaaDoor
