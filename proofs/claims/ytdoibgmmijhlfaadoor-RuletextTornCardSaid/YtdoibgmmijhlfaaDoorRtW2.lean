/- Walk: reader.must, reader.number. -/
import Derived.Test.YtdoibgmmijhlfaaDoorRtW1
import Derived.Laws.MakeOwn
namespace Go.Proofs.YtdoibgmmijhlfaaDoor
open Go.RowKit
set_option linter.unusedVariables false
set_option linter.unusedSimpArgs false
/-- make([]string, n). -/
theorem makeStr (n : Nat) (h : n ≤ 1000) (w : World) : (Instr.makeSlice 45 (.int .i64 (n : Int)) (.int .i64 (n : Int))).run Tryd.prog w = .ok (.slice (some ⟨w.heap.size, 0, none⟩) n n) (w.alloc (.cells (strsC (List.replicate n [])).toArray 9)) := by
  obtain ⟨i, hi, hz, hs, hb⟩ := info_parts strInfoJ
  have hr := run_make (P := Tryd.prog) w 45 9 i (.string ⟨#[]⟩) Tryd.underlying45 hi hz .i64 .i64 (n : Int) (n : Int) (by omega) (Int.le_refl _) (by rw [hb]; omega) (by omega)
  rw [hr, hs]
  have e : madeCells (Value.string ⟨#[]⟩).cells (n * 1) = (strsC (List.replicate n [])).toArray := by
    apply Array.ext
    · simp [madeCells, strsC]
    · intro j h1 h2
      simp [madeCells, Value.cells, Nat.mod_one, strsC]
      rfl
  simp only [Int.toNat_natCast]
  rw [e]
/-- What reader.must promises. -/
def MustPost (word : BL) (n g : Nat) (c1 c2 c3 c4 c5 c6 c7 c8 c9 c10 c11 c12 : Value) (bad : Bool) (A0 : Option Addr) (L : List BL) (w : World) (e : Ending) (w' : World) : Prop :=
  ∃ l ls A c B d b', ((nextL word n L = some (l, ls) ∧ b' = bad) ∨ (nextL word n L = none ∧ l = List.replicate n [] ∧ ls = L ∧ b' = true)) ∧ l.length = n ∧ e = .returned (.slice A n c) ∧ LinesAt w' g A c l ∧ LinesAt w' g B d ls ∧ Blk w' g RT #[.slice B ls.length d, c1, c2, c3, c4, c5, c6, c7, c8, c9, c10, c11, c12, .bool b'] ∧ w.grownBy w' (some g) ∧ (∀ a, A = some a → w.heap.size ≤ a.block) ∧ ∀ b, B = some b → ∃ a, A0 = some a ∧ b.block = a.block
set_option maxHeartbeats 4000000 in
set_option maxRecDepth 100000 in
theorem must_any (word : BL) (n g : Nat) (c1 c2 c3 c4 c5 c6 c7 c8 c9 c10 c11 c12 : Value) (bad : Bool) (A : Option Addr) (c : Nat) (L : List BL) (w : World) (hw : LibW w) (hg : Blk w g RT #[.slice A L.length c, c1, c2, c3, c4, c5, c6, c7, c8, c9, c10, c11, c12, .bool bad]) (hL : LinesAt w g A c L) (hs : ∀ x ∈ L, x.length ≤ 8192) (hn : n ≤ 8) :
    Calls Tryd.prog 38 #[.pointer (some ⟨g, 0, none⟩), .string (strU word), .int .i64 (n : Int)] w (MustPost word n g c1 c2 c3 c4 c5 c6 c7 c8 c9 c10 c11 c12 bad A L w) := by
  have HNX := Lib.hid (next_any word n g c1 c2 c3 c4 c5 c6 c7 c8 c9 c10 c11 c12 (.bool bad) A c L w hw hg hL hs hn)
  have HG := Lib.hid hg
  have HL := Lib.hid hL
  have HMK := fun W => makeStr n (by omega) W
  clear hw hg hL hs
  go_enter Tryd.func38, Tryd.ntmps38
  go_wp2_with fail
  refine HNX.out.mono ?_
  rintro e w2 hres
  rcases hres with ⟨h1, rfl, x⟩ | ⟨l, ls, A2, k2, B2, d2, h1, h2, rfl, h3, h4, h5, h6⟩
  · have H1 := Lib.hid h1
    have HX := Lib.hid x
    have hg2 := HG.out.ext x
    have HGS := Lib.hid (blk_put (i := 13) (u := .bool true) hg2 (cs' := #[.slice A L.length c, c1, c2, c3, c4, c5, c6, c7, c8, c9, c10, c11, c12, .bool true]) rfl)
    have HGR := Lib.hid (grown_set (grown_of_ext x (some g)) 13 (.bool true))
    have HLS := Lib.hid (lines_set (i := 13) (HL.out.ext x) (.bool true))
    have hc := hg2.cell
    have hf := hg2.frozen
    clear h1 x hg2 HG HL HNX HMK
    go_upto_region 4 with fail
    clear hc hf
    generalize w2.setCell ⟨g, 13, none⟩ (.bool true) = w3 at *
    have HMK := makeStr n (by omega) w3
    have HFR := Lib.hid (fun a (ha : (some ⟨w3.heap.size, 0, none⟩ : Option Addr) = some a) => (show a.block ≠ g from by injection ha with ha; subst ha; exact Nat.ne_of_gt (Blk.lt HGS.out)))
    have HCN := Lib.hid (cellsAt_new w3 9 (strsC (List.replicate n ([] : BL))))
    go_wp2
    go_ret
    exact ⟨List.replicate n [], L, _, n, A, c, true, .inr ⟨H1.out, rfl, rfl, rfl⟩, by simp, rfl, ⟨HCN.out, by simp, fun h => (by cases h), HFR.out⟩, HLS.out.ext (ext_alloc (Below.refl _ _) _), HGS.out.alloc _, grown_trans HGR.out (World.grownBy_alloc _ _ _), fun a ha => (by cases ha; exact HGR.out.size), fun b hb => ⟨b, hb, rfl⟩⟩
  · have HH := Lib.hid (And.intro h1 (And.intro h2 (And.intro h3 (And.intro h4 (And.intro h5 h6)))))
    have HLW := Lib.hid (show ∀ b, B2 = some b → ∃ a, A = some a ∧ b.block = a.block from fun b hb => by
      cases hA : A with
      | none =>
        have h0 := HL.out.2.2.1 hA
        have hL0 : L = [] := List.length_eq_zero_iff.1 h0
        rw [hL0] at h1
        cases h1
      | some a => exact ⟨a, rfl, h6.2.2 a b hA hb⟩)
    clear h1 h2 h3 h4 h5 h6 HNX HG HL HMK
    go_wp2
    go_ret
    exact ⟨l, ls, A2, k2, B2, d2, bad, .inl ⟨HH.out.1, rfl⟩, HH.out.2.1, rfl, HH.out.2.2.1, HH.out.2.2.2.1, HH.out.2.2.2.2.1, HH.out.2.2.2.2.2.1, HH.out.2.2.2.2.2.2.1, HLW.out⟩
theorem atoi_val (d : BL) (hd : d.length ≤ 8192) (w : World) (hw : LibW w) : Calls Tryd.prog 64 #[.string (strU d)] w fun e w' => (∃ ev, e = .returned (.tuple #[.int .i64 (numV d), ev]) ∧ ((∃ v, Lib.atoiAll d = .ok v ∧ ev = .nilIface) ∨ ((∀ v, Lib.atoiAll d ≠ .ok v) ∧ ∃ p, ev = .iface 129 p))) ∧ Ext w w' := by
  have hsz := strU_size d
  have hdt := strU_data d
  unfold numV
  cases ha : Lib.atoiAll d with
  | ok v =>
    refine (Tryd.strconv_Atoi_ok (strU d) (by omega) v (by rw [hdt]; exact ha) w).mono ?_
    rintro e w' ⟨rfl, rfl | ⟨t, rfl⟩⟩
    · exact ⟨⟨_, rfl, .inl ⟨v, rfl, rfl⟩⟩, Below.refl _ _⟩
    · exact ⟨⟨_, rfl, .inl ⟨v, rfl, rfl⟩⟩, ext_bytes _ _ _⟩
  | range =>
    obtain ⟨ev, h1, h2⟩ := hw.rng
    refine (Tryd.strconv_Atoi_range (strU d) (by omega) (by rw [hdt]; exact ha) ev w h1 h2).mono ?_
    rintro e w' ⟨N, rfl, _, _, x⟩
    rw [hdt]
    exact ⟨⟨_, rfl, .inr ⟨(fun v h => by cases h), _, rfl⟩⟩, x⟩
  | _ =>
    obtain ⟨ev, h1, h2⟩ := hw.syn
    refine (Tryd.strconv_Atoi_bad (strU d) (by omega) (by rw [hdt, ha]; intro v h; cases h) (by rw [hdt, ha]; intro h; cases h) ev w h1 h2).mono ?_
    rintro e w' ⟨N, rfl, _, _, x⟩
    exact ⟨⟨_, rfl, .inr ⟨(fun v h => by cases h), _, rfl⟩⟩, x⟩
theorem itoa_all (n : Int) (h0 : -9223372036854775808 ≤ n) (h1 : n ≤ 9223372036854775807) (w : World) (hw : LibW w) : Calls Tryd.prog 31 #[.int .i64 n] w fun e w' => e = .returned (.string (strU (Lib.itoa n))) ∧ Ext w w' := by
  refine (Tryd.strconv_Itoa n h0 h1 w hw.tab).mono ?_
  rintro e w' ⟨rfl, k, os, rfl⟩
  exact ⟨rfl, ext_grow _ _ _⟩
set_option maxHeartbeats 4000000 in
set_option maxRecDepth 100000 in
theorem rnumber_any (g : Nat) (c0 c1 c2 c3 c4 c5 c6 c7 c8 c9 c10 c11 c12 : Value) (bad : Bool) (s : BL) (w : World) (hw : LibW w) (hg : Blk w g RT #[c0, c1, c2, c3, c4, c5, c6, c7, c8, c9, c10, c11, c12, .bool bad]) (hs : s.length ≤ 8192) :
    Calls Tryd.prog 40 #[.pointer (some ⟨g, 0, none⟩), .string (strU s)] w fun e w' => e = .returned (.int .i64 (numV s)) ∧ Blk w' g RT #[c0, c1, c2, c3, c4, c5, c6, c7, c8, c9, c10, c11, c12, .bool (bad || numBad s)] ∧ w.grownBy w' (some g) := by
  have HAT := Lib.hid (atoi_val s hs w hw)
  have HG := Lib.hid hg
  have HW := Lib.hid hw
  clear hw hg hs
  go_enter Tryd.func40, Tryd.ntmps40
  go_wp2_with fail
  refine HAT.out.mono ?_
  rintro e w2 ⟨⟨ev, rfl, hres⟩, x⟩
  have HX := Lib.hid x
  have hg2 := HG.out.ext x
  have HG2 := Lib.hid hg2
  have HGS := Lib.hid (fun W (y : Ext w W) => And.intro (blk_put (i := 13) (u := .bool true) (HG.out.ext y) (cs' := #[c0, c1, c2, c3, c4, c5, c6, c7, c8, c9, c10, c11, c12, .bool true]) rfl) (grown_set (grown_of_ext y (some g)) 13 (.bool true)))
  have hc := hg2.cell
  have hf := hg2.frozen
  rcases hres with ⟨v, h1, rfl⟩ | ⟨h1, p, rfl⟩
  · have hv : numV s = v := by unfold numV; rw [h1]
    have HB := Lib.hid (show numBad s = !decide (Lib.itoa v = s) by unfold numBad; rw [h1])
    have hr := atoi_rng h1
    have HV := Lib.hid hv
    rw [hv]
    have HIT := Lib.hid (itoa_all v hr.1 hr.2 w2 (HW.out.ext x))
    clear hv hr h1 x hc hf hg2
    go_wp2_with fail
    refine HIT.out.mono ?_
    rintro e w3 ⟨rfl, x3⟩
    have HX3 := Lib.hid (ext_trans HX.out x3)
    have hg3 := HG2.out.ext x3
    have HG3 := Lib.hid hg3
    have hc := hg3.cell
    have hf := hg3.frozen
    clear x3 hg3 HIT HAT HG HG2
    by_cases hs : Lib.itoa v = s
    · have e1 : ((strU (Lib.itoa v)).toList == (strU s).toList) = true := by rw [hs, beq_self_eq_true]
      have HBF := Lib.hid (show numBad s = false by rw [HB.out, hs]; simp)
      clear hs
      go_wp2
      go_ret
      exact ⟨by rw [HV.out]; rfl, by rw [HBF.out, Bool.or_false]; exact HG3.out, grown_of_ext HX3.out _⟩
    · have e1 : ((strU (Lib.itoa v)).toList == (strU s).toList) = false := by
        rw [Lib.toList_data, Lib.toList_data, strU_data, strU_data]
        simpa using hs
      have HBF := Lib.hid (show numBad s = true by rw [HB.out, decide_eq_false hs]; rfl)
      have HGS3 := Lib.hid (HGS.out w3 HX3.out)
      clear hs HGS
      go_wp2
      go_ret
      exact ⟨by rw [HV.out]; rfl, by rw [HBF.out, Bool.or_true]; exact HGS3.out.1, HGS3.out.2⟩
  · have HBF := Lib.hid (show numBad s = true by
      unfold numBad
      cases h2 : Lib.atoiAll s with
      | ok v => exact absurd h2 (h1 v)
      | _ => rfl)
    have HGS3 := Lib.hid (HGS.out w2 HX.out)
    clear h1 x HGS hg2 HAT HG HG2
    go_wp2
    go_ret
    exact ⟨rfl, by rw [HBF.out, Bool.or_true]; exact HGS3.out.1, HGS3.out.2⟩
end Go.Proofs.YtdoibgmmijhlfaaDoor
