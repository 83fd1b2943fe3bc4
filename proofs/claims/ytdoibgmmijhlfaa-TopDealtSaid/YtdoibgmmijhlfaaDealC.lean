/- Walk: deal.Combine. -/
import Derived.Test.YtdoibgmmijhlfaaDealB
import Derived.Test.YtdoibgmmijhlfaaConcatN
import Derived.Laws.MakeOwn
namespace Go.Proofs.Ytdoibgmmijhlfaa
open Go.ChangeShapes Go.WideShapes Go.ChangeAt Go.RowKit Go.Shelf
set_option linter.unusedVariables false
set_option linter.unusedSimpArgs false
/-- The row while the draws d are added: the first j are done. -/
def partC (n : Int) (out d : List Int) (j : Nat) : List Int := (stepC n out d).take j ++ out.drop j
theorem partC_len {n : Int} {out d : List Int} {j : Nat} (h : j ≤ out.length) : (partC n out d j).length = out.length := by
  unfold partC
  rw [List.length_append, List.length_take, stepC_len, List.length_drop]
  omega
theorem partC_zero (n : Int) (out d : List Int) : partC n out d 0 = out := by simp [partC]
theorem partC_all (n : Int) (out d : List Int) : partC n out d out.length = stepC n out d := by
  unfold partC
  rw [List.drop_length, List.append_nil, List.take_of_length_le (by rw [stepC_len]; exact Nat.le_refl _)]
theorem partC_get {n : Int} {out d : List Int} {j : Nat} (h : j < out.length) : (partC n out d j).getD j 0 = out.getD j 0 := by
  unfold partC
  have hl : ((stepC n out d).take j).length = j := by rw [List.length_take, stepC_len]; omega
  rw [List.getD_eq_getElem?_getD, List.getElem?_append_right (by omega), hl, Nat.sub_self, List.getElem?_drop, Nat.add_zero, ← List.getD_eq_getElem?_getD]
theorem partC_set {n : Int} {out d : List Int} {j : Nat} (h : j < out.length) : (partC n out d j).set j ((out.getD j 0 + d.getD j 0) % (n - j)) = partC n out d (j + 1) := by
  have hl : ((stepC n out d).take j).length = j := by rw [List.length_take, stepC_len]; omega
  have hj : j < (stepC n out d).length := by rw [stepC_len]; exact h
  have e1 : out.drop j = out.getD j 0 :: out.drop (j + 1) := by
    rw [List.drop_eq_getElem_cons h]
    simp [List.getD_eq_getElem?_getD, h]
  unfold partC
  rw [e1, List.set_append_right _ _ (by omega), hl, Nat.sub_self, List.set_cons_zero, List.take_succ_eq_append_getElem hj, List.append_assoc]
  congr 1
  have e2 : (stepC n out d)[j] = (out.getD j 0 + d.getD j 0) % (n - j) := by
    rw [← stepC_get h]
    simp [List.getD_eq_getElem?_getD, hj]
  rw [e2]
  rfl
/-- The state after the first k rows of draws. -/
def upC (n : Int) (L : List (List Int)) (k : Nat) : List Int := combM n (L.take k)
theorem upC_succ {n : Int} {L : List (List Int)} {k : Nat} (h : k < L.length) : upC n L (k + 1) = stepC n (upC n L k) (L.getD k []) := by
  unfold upC combM
  rw [List.take_succ_eq_append_getElem h, List.foldl_append]
  simp [List.getD_eq_getElem?_getD, h]
theorem upC_fits {n : Int} (hn : 0 ≤ n) (L : List (List Int)) (k : Nat) : FitsL n (upC n L k) := combM_fits hn _ _ (fits_zero hn)
theorem intInfoD : (Try.prog.info? 3).map (fun i => (i.zero, i.size, i.bytes)) = some (some (.int .i64 0), 1, 8) := by kernel_rfl
/-- make([]int, n). -/
theorem makeD (n : Nat) (h : n ≤ 1000) (w : World) : (Instr.makeSlice 23 (.int .i64 (n : Int)) (.int .i64 (n : Int))).run Try.prog w = .ok (.slice (some ⟨w.heap.size, 0, none⟩) n n) (w.alloc (.cells (Array.replicate n (Value.int .i64 0)) 3)) := by
  obtain ⟨i, hi, hz, hs, hb⟩ : ∃ i, Try.prog.info? 3 = some i ∧ i.zero = some (.int .i64 0) ∧ i.size = 1 ∧ i.bytes = 8 := by
    have h := intInfoD
    cases hi : Try.prog.info? 3 with
    | none => rw [hi] at h; cases h
    | some i =>
      rw [hi] at h
      simp only [Option.map_some, Option.some.injEq, Prod.mk.injEq] at h
      exact ⟨i, rfl, h.1, h.2.1, h.2.2⟩
  have hr := run_make (P := Try.prog) w 23 3 i (.int .i64 0) Try.underlying23 hi hz .i64 .i64 (n : Int) (n : Int) (by omega) (Int.le_refl _) (by rw [hb]; omega) (by omega)
  rw [hr, hs]
  have e : madeCells (Value.int .i64 0).cells (n * 1) = Array.replicate n (Value.int .i64 0) := by
    apply Array.ext
    · simp [madeCells]
    · intro j h1 h2
      simp [madeCells, Value.cells, Nat.mod_one]
  simp only [Int.toNat_natCast]
  rw [e]
theorem repD (n : Nat) : ((List.replicate n (0 : Int)).map (Value.int .i64)).toArray = Array.replicate n (Value.int .i64 0) := by simp
set_option maxHeartbeats 4000000 in
set_option maxRecDepth 100000 in
theorem Combine_any (n : Int) (L : List (List Int)) (v : Value) (w : World) (hv : RowsAt w v L) (hn0 : 0 ≤ n) (hn1 : n ≤ 52) (hl : L.length ≤ 6) (hfit : ∀ d ∈ L, FitsL n d) :
    Calls Try.prog 17 #[.int .i64 n, v] w fun e w' => ∃ g, e = .returned (.tuple #[.slice (some ⟨g, 0, none⟩) (combM n L).length (combM n L).length, .int .i64 0]) ∧ Row w' g 3 (combM n L) ∧ Ext w w' := by
  obtain ⟨A, c, rfl, h⟩ := hv
  have HR := hide h
  have HN := hide (And.intro hn0 (And.intro hn1 hl))
  have HF := hide (fun k (hk : k < L.length) => hfit (L.getD k []) (by rw [List.getD_eq_getElem?_getD, List.getElem?_eq_getElem hk]; exact List.getElem_mem hk))
  obtain ⟨q, hq⟩ : ∃ q : Int, max n 1 = q := ⟨_, rfl⟩
  have hmax : ∀ W ats ty, (Builtin.max_ ats ty #[.int .i64 n, .int .i64 1]).run Try.prog W = .ok (.int .i64 q) W := fun W ats ty => by rw [← hq]; exact run_max2 W ats ty n 1
  obtain ⟨m, hm⟩ : ∃ m : Nat, (m : Int) = q - 1 := ⟨(q - 1).toNat, by omega⟩
  have hq1 : IntKind.i64.wrap (q - 1) = (m : Int) := by rw [IntKind.wrap_i64]; omega
  have HM0 : Hid ((max n 1 - 1).toNat = m) := hide (by rw [hq]; omega)
  have HMM := hide (And.intro hq hm)
  have hmk := makeD m (by omega)
  have hL6 : (L.length : Int) ≤ 6 := by omega
  have t0 : decide (n < 0) = false := by simpa using hn0
  have t1 : decide (52 < n) = false := by simpa using hn1
  have t2 : decide ((6 : Int) < (L.length : Int)) = false := by simp; omega
  clear h hfit hn0 hn1 hl hq hm
  go_enter Try.func17, Try.ntmps17
  go_wp2
  go_loopw [7, 8, 25] (fun _ _ i wr => ∃ k : Nat, k ≤ L.length ∧ i = .int .i64 k ∧ w = wr) (fun _ _ i _ => L.length - (intOf i).toNat)
  case atStart => exact ⟨0, by omega, rfl, rfl⟩
  case round =>
    obtain ⟨k, hk, rfl, rfl⟩ := hrel
    by_cases hlt : k < L.length
    · obtain ⟨b, o, B, d, rfl, hc, hz⟩ := HR.out k hlt
      have HFT := hide (Fits_any n B (L.getD k []).length d (L.getD k []) w HN.out.1 (by have := HN.out.2.1; omega) rfl (by have h1 := (HF.out k hlt).1; have := HN.out.2.1; simp only [maxLen]; omega) hz)
      have HFK := hide (HF.out k hlt)
      have HM := hide (show k + 1 ≤ L.length from hlt)
      have i1 : (k : Int) < (L.length : Int) := by omega
      have i0 : (0 : Int) ≤ (k : Int) := by omega
      clear hz hlt hk
      generalize L.getD k [] = ds at *
      go_wp2_with fail
      refine HFT.out.mono ?_
      rintro e w1 ⟨hres, rfl⟩
      rcases hres with ⟨rfl, -⟩ | ⟨_, _, _, hno⟩
      · go_wp2
        go_roundw
        case rel => exact ⟨k + 1, HM.out, by go_num, by first | rfl | trivial⟩
        case measure => have := HM.out; simp [intOf]; omega
      · exact absurd HFK.out hno
    · obtain rfl : k = L.length := by omega
      clear hk hlt
      have HRw := hide (repD m ▸ Row.new w 3 (List.replicate m 0) : Row (w.alloc (.cells (Array.replicate m (Value.int .i64 0)) 3)) w.heap.size 3 (List.replicate m 0))
      have HX := hide (ext_alloc (Below.refl w.heap.size w) (.cells (Array.replicate m (Value.int .i64 0)) 3))
      go_upto_region 13 with fail
      generalize w.alloc _ = w2 at *
      obtain ⟨g, hg⟩ : ∃ g, g = w.heap.size := ⟨_, rfl⟩
      rw [← hg] at HRw ⊢
      have HG := hide (Nat.le_of_eq hg.symm)
      clear hg hmk hq1
      have HU0 : Hid (Row w2 g 3 (upC n L 0)) := hide (by
        have e : upC n L 0 = List.replicate m 0 := by
          show List.replicate (max n 1 - 1).toNat (0 : Int) = _
          rw [HM0.out]
        rw [e]
        exact HRw.out)
      clear HRw
      go_wp2
      go_loopw [11, 12, 13, 42, 48] (fun _ _ _ i _ ws => ∃ k : Nat, k ≤ L.length ∧ i = .int .i64 k ∧ Row ws g 3 (upC n L k) ∧ Ext w ws) (fun _ _ _ i _ _ => L.length - (intOf i).toNat)
      case atStart => exact ⟨0, by omega, rfl, HU0.out, HX.out⟩
      case round =>
        obtain ⟨k, hk, rfl, hrow, hx⟩ := hrel
        by_cases hlt : k < L.length
        · obtain ⟨b, o, B, d, rfl, hc, hz⟩ := HR.out k hlt
          have hc1 := (hx.cell hc)
          have HZ := hide hz
          have HFK := hide (HF.out k hlt)
          have HFO := hide (upC_fits HN.out.1 L k)
          have HSC := hide (upC_succ (n := n) hlt)
          have HM := hide (show k + 1 ≤ L.length from hlt)
          have HRW := hide hrow
          have HXX := hide hx
          have i1 : (k : Int) < (L.length : Int) := by omega
          have i0 : (0 : Int) ≤ (k : Int) := by omega
          have hdl : ((L.getD k []).length : Int) = (m : Int) := by have := HFK.out.1; have := HMM.out; omega
          clear hz hc hlt hk hrow hx
          generalize hds : L.getD k [] = ds at *
          generalize upC n L k = uo at *
          have hul : (uo.length : Int) = (m : Int) := by have := HFO.out.1; have := HMM.out; omega
          have HLE := hide (show ds.length = uo.length by omega)
          have HUL := hide hul
          clear hds hdl hul
          generalize wr = w5 at *
          go_wp2
          go_loopw [12, 13, 48] (fun _ _ j wt => ∃ q : Nat, q ≤ ds.length ∧ j = .int .i64 q ∧ Row wt g 3 (partC n uo ds q) ∧ Ext w wt) (fun _ _ j _ => ds.length - (intOf j).toNat)
          case atStart => exact ⟨0, by omega, rfl, by rw [partC_zero]; exact HRW.out, HXX.out⟩
          case round =>
            obtain ⟨j, hj, rfl, hrow, hx⟩ := hrel
            clear HRW HXX hc1
            by_cases hlj : j < ds.length
            · have hju : j < uo.length := by have := HLE.out; omega
              obtain ⟨b', o', rfl, hcell⟩ := (HZ.out.ext hx) j hlj
              have hrc := hrow.cell (i := j) (by rw [partC_len (by omega)]; exact hju)
              rw [partC_get hju] at hrc
              have hfz := hrow.frozen j
              obtain ⟨a0, a1⟩ := HFO.out.2 j hju
              obtain ⟨x0, x1⟩ := HFK.out.2 j hlj
              have HSET := hide (partC_set (n := n) (d := ds) hju)
              have HSR := hide (fun u => Row.set_ hrow j u)
              have HXS := hide (fun u => ext_set hx (p := ⟨g, j, none⟩) (HG.out) (.int .i64 u))
              have hnj : (j : Int) + 1 ≤ n := by omega
              have hn52 := HN.out.2.1
              have HJ := hide (show j + 1 ≤ ds.length from hlj)
              have jm : (j : Int) < (m : Int) := by have := HUL.out; omega
              have jd : (j : Int) < (ds.length : Int) := by omega
              have j0 : (0 : Int) ≤ (j : Int) := by omega
              generalize uo.getD j 0 = a at *
              generalize ds.getD j 0 = x at *
              have hs1 : IntKind.i64.wrap (a + x) = a + x := by rw [IntKind.wrap_i64]; omega
              have hs2 : IntKind.i64.wrap (n - (j : Int)) = n - (j : Int) := by rw [IntKind.wrap_i64]; omega
              have hz0 : ¬ (n - (j : Int) = 0) := by omega
              have jb : ds.length ≤ 60 := by have := HUL.out; have := HMM.out; have := HLE.out; omega
              have HT : Hid ((a + x).tmod (n - (j : Int)) = (a + x) % (n - (j : Int))) := hide (Int.tmod_eq_emod_of_nonneg (by omega))
              clear a0 a1 x0 x1 hnj hrow hx hlj hj hju hn52
              go_wp2
              go_roundw
              case rel => exact ⟨j + 1, HJ.out, by go_num, by rw [HT.out, ← HSET.out]; exact HSR.out _, HXS.out _⟩
              case measure => have := HJ.out; simp only [intOf, wrap64]; omega
            · obtain rfl : j = ds.length := by omega
              have HRW := hide hrow
              have HXX := hide hx
              clear hj hlj hrow hx
              go_wp2
              go_roundw
              case rel => exact ⟨k + 1, HM.out, by go_num, by rw [HSC.out, ← partC_all, ← HLE.out]; exact HRW.out, HXX.out⟩
              case measure => have := HM.out; simp [intOf]; omega
        · obtain rfl : k = L.length := by omega
          have HRW := hide hrow
          have HXX := hide hx
          have HUC : Hid (upC n L L.length = combM n L) := hide (by unfold upC; rw [List.take_length])
          have hlen : (combM n L).length = m := by rw [← HUC.out]; have := (upC_fits HN.out.1 L L.length).1; have := HMM.out; omega
          clear hk hlt hrow hx
          go_wp2
          go_ret2
          exact ⟨g, by rw [hlen]; rfl, by rw [← HUC.out]; exact HRW.out, HXX.out⟩
end Go.Proofs.Ytdoibgmmijhlfaa
