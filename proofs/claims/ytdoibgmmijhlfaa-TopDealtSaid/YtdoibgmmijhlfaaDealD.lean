/- Rows of integers of the call's own: a cell read, a cell written. Walk: cards.Shuffle. -/
import Derived.Test.YtdoibgmmijhlfaaDealB
import Derived.StillTailTactics
import Derived.Test.YtdoibgmmijhlfaaRegionK
import Derived.Test.YtdoibgmmijhlfaaConcat
namespace Go.Proofs.Ytdoibgmmijhlfaa
open Go.ChangeShapes Go.WideShapes Go.ChangeAt Go.RowKit Go.Shelf
set_option linter.unusedVariables false
set_option linter.unusedSimpArgs false
section
variable {w0 w : World} {g n c : Nat} {xs : List Int}
theorem OwnZ.some_blk {v : Value} (h : OwnZ w0 w v xs) (h0 : xs ≠ []) : ∃ g c, v = .slice (some ⟨g, 0, none⟩) xs.length c := by
  obtain ⟨g, c, cur, e, -⟩ := h.holds h0
  exact ⟨g, c, e⟩
theorem OwnZ.blk (h : OwnZ w0 w (.slice (some ⟨g, 0, none⟩) n c) xs) : n = xs.length ∧ w0.heap.size ≤ g ∧ xs.length ≤ c ∧ c ≤ maxLen ∧ ∃ cur, Blk w g 3 cur ∧ cur.size = c ∧ cur.toList.take xs.length = xs.map (Value.int .i64) := by
  obtain ⟨A, c', e, o⟩ := h
  simp only [Value.slice.injEq] at e
  obtain ⟨rfl, rfl, rfl⟩ := e
  rcases o.2 with ⟨e1, -⟩ | ⟨g', cap, cur, e1, hb, hg, hnc, hcm, hcs, ht⟩
  · simp at e1
  · simp only [Value.slice.injEq, Option.some.injEq, Addr.mk.injEq, and_true, true_and] at e1
    obtain ⟨rfl, rfl⟩ := e1
    exact ⟨rfl, hb, hnc, hcm, cur, hg, by simpa using hcs, by simpa using ht⟩
theorem OwnZ.of_blk {cur : Array Value} (hb : w0.heap.size ≤ g) (hn : xs.length ≤ c) (hm : c ≤ maxLen) (hg : Blk w g 3 cur) (hs : cur.size = c) (ht : cur.toList.take xs.length = xs.map (Value.int .i64)) : OwnZ w0 w (.slice (some ⟨g, 0, none⟩) xs.length c) xs :=
  ⟨_, c, rfl, ⟨by simp, .inr ⟨g, c, cur, rfl, hb, hg, hn, hm, by simpa using hs, by simpa using ht⟩⟩⟩
theorem OwnZ.cell (h : OwnZ w0 w (.slice (some ⟨g, 0, none⟩) n c) xs) {k : Nat} (hk : k < xs.length) : w.cell? ⟨g, k, none⟩ = some (.int .i64 (xs.getD k 0)) := by
  obtain ⟨-, -, -, -, cur, hg, hs, ht⟩ := h.blk
  rw [hg.cell]
  have e : (cur.toList.take xs.length)[k]? = (xs.map (Value.int .i64))[k]? := by rw [ht]
  rw [List.getElem?_take, if_pos hk, Array.getElem?_toList] at e
  rw [e]
  simp [List.getD_eq_getElem?_getD, hk]
theorem OwnZ.frozen (h : OwnZ w0 w (.slice (some ⟨g, 0, none⟩) n c) xs) (k : Nat) : w.frozen? ⟨g, k, none⟩ = false := by
  obtain ⟨-, -, -, -, cur, hg, hs, ht⟩ := h.blk
  exact hg.frozen k
theorem OwnZ.set (h : OwnZ w0 w (.slice (some ⟨g, 0, none⟩) n c) xs) {k : Nat} (hk : k < xs.length) (u : Int) : OwnZ w0 (w.setCell ⟨g, k, none⟩ (.int .i64 u)) (.slice (some ⟨g, 0, none⟩) n c) (xs.set k u) := by
  obtain ⟨rfl, hb, hn, hm, cur, hg, hs, ht⟩ := h.blk
  have := OwnZ.of_blk (xs := xs.set k u) (c := c) hb (by simpa using hn) hm (hg.set_ k (.int .i64 u)) (by simpa using hs) (by
    rw [List.length_set, Array.toList_setIfInBounds, List.take_set, ht, List.map_set])
  simpa using this
theorem OwnZ.low (h : OwnZ w0 w (.slice (some ⟨g, 0, none⟩) n c) xs) : w0.heap.size ≤ g := h.blk.2.1
end
set_option maxHeartbeats 4000000 in
set_option maxRecDepth 100000 in
theorem Shuffle_any (A B : Option Addr) (n c m d : Nat) (ds dr : List Int) (w : World) (hn : ds.length = n) (hnc : n ≤ c) (hcm : c ≤ maxLen) (hz : IntsAt w A ds) (hok : OkD ds) (h0 : ds ≠ []) (hm : dr.length = m) (hd : IntsAt w B dr) (hf : FitsL (n : Int) dr) :
    Calls Try.prog 54 #[.slice A n c, .slice B m d] w fun e w' => ∃ v zs, e = .returned (.tuple #[v, .int .i64 0]) ∧ OwnZ w w' v zs ∧ zs.Perm ds ∧ Ext w w' := by
  subst hn hm
  have hn52 := hok.1
  have hpos : 0 < ds.length := List.length_pos_iff.2 h0
  have hfl := hf.1
  have HCK := hide (Check_ok A ds.length c ds w rfl hnc hcm hz hok)
  have HFT := hide (Fits_any (ds.length : Int) B dr.length d dr w (by omega) (by omega) rfl (by simp only [maxLen]; omega) hd)
  have HCL := hide (cloneInts_any A ds.length c ds w rfl (by omega) (fun e => ints_none hz e) hz)
  have HF := hide hf
  have HD := hide hd
  have HN := hide (And.intro hn52 (And.intro hpos h0))
  have hml : (dr.length : Int) = (ds.length : Int) - 1 := by omega
  have HML := hide hml
  clear hok hz hf hfl hd h0 hnc hcm hml
  go_enter Try.func54, Try.ntmps54
  go_wp2_with fail
  refine HCK.out.mono ?_
  rintro e w1 ⟨rfl, rfl⟩
  go_wp2_with fail
  refine HFT.out.mono ?_
  rintro e w2 ⟨hres, rfl⟩
  rcases hres with ⟨rfl, -⟩ | ⟨_, _, _, hno⟩
  · go_wp2_with fail
    refine HCL.out.mono ?_
    rintro e w3 ⟨A3, c3, rfl, o3, x3⟩
    have o3' : OwnZ w2 w3 (.slice A3 ds.length c3) ds := ⟨_, _, rfl, o3⟩
    obtain ⟨g, c4, e4⟩ := o3'.some_blk HN.out.2.2
    simp only [Value.slice.injEq, true_and] at e4
    obtain ⟨rfl, rfl⟩ := e4
    have HO := hide o3'
    have HX := hide x3
    clear o3 o3' x3 HCK HFT HCL
    go_wp2
    go_loopw [9, 10, 11, 28] (fun _ _ _ i wr => ∃ (k : Nat) (zs : List Int), k ≤ dr.length ∧ i = .int .i64 k ∧ OwnZ w2 wr (.slice (some ⟨g, 0, none⟩) ds.length c3) zs ∧ Hid (zs.Perm ds) ∧ Ext w2 wr) (fun _ _ _ i _ => dr.length - (intOf i).toNat)
    case atStart => exact ⟨0, ds, by omega, rfl, HO.out, hide (List.Perm.refl _), HX.out⟩
    case round =>
      obtain ⟨k, zs, hk, rfl, hO, hP, hX⟩ := hrel
      have hzl : zs.length = ds.length := hP.out.length_eq
      by_cases hlt : k < dr.length
      · obtain ⟨b, o, rfl, hc⟩ := (HD.out.ext hX) k hlt
        obtain ⟨y0, y1⟩ := HF.out.2 k hlt
        have hml := HML.out
        have hn5 := HN.out.1
        obtain ⟨y, hy⟩ := Int.eq_ofNat_of_zero_le y0
        have hy' : dr.getD k 0 = (y : Int) := hy
        rw [hy'] at hc y1
        obtain ⟨i, hi⟩ : ∃ i : Nat, i + 1 + k = ds.length := ⟨ds.length - 1 - k, by omega⟩
        have w1 : IntKind.i64.wrap ((ds.length : Int) - 1) = (dr.length : Int) := by rw [IntKind.wrap_i64]; omega
        have w2' : IntKind.i64.wrap ((dr.length : Int) - (k : Int)) = (i : Int) := by rw [IntKind.wrap_i64]; omega
        have r1 := hO.cell (k := y) (by omega)
        have r2 := hO.cell (k := i) (by omega)
        have z1 := hO.frozen y
        have z2 := hO.frozen i
        have hyl : (y : Int) < (ds.length : Int) := by omega
        have hil : (i : Int) < (ds.length : Int) := by omega
        have hy00 : (0 : Int) ≤ (y : Int) := by omega
        have hi00 : (0 : Int) ≤ (i : Int) := by omega
        have k0 : (0 : Int) ≤ (k : Int) := by omega
        have k1 : (k : Int) < (dr.length : Int) := by omega
        have HM := hide hlt
        have HO2 := hide hO
        have HX2 := hide hX
        have HP2 := hide (And.intro hP.out (And.intro (show y < zs.length by omega) (show i < zs.length by omega)))
        clear hO hX hP hk hlt y0 y1 hy hy' hml hzl
        go_upto_region 12 with fail
        obtain ⟨va, hva⟩ : ∃ va, zs.getD y 0 = va := ⟨_, rfl⟩
        obtain ⟨vb, hvb⟩ : ∃ vb, zs.getD i 0 = vb := ⟨_, rfl⟩
        clear r1 r2 z1 z2
        have HVV := hide (And.intro hva hvb)
        have HC1 : Hid (wr.drew.cell? ⟨g, y, none⟩ = some (.int .i64 va)) := hide (by rw [← hva]; exact (HO2.out.ext (Below.drew (Below.refl _ _)) : OwnZ w2 wr.drew _ _).cell HP2.out.2.1)
        have HC2 : Hid (wr.drew.cell? ⟨g, i, none⟩ = some (.int .i64 vb)) := hide (by rw [← hvb]; exact (HO2.out.ext (Below.drew (Below.refl _ _)) : OwnZ w2 wr.drew _ _).cell HP2.out.2.2)
        have O6 := hide (((HO2.out.set HP2.out.2.2 va).ext (Below.drew (Below.refl _ _))) : OwnZ w2 (wr.setCell ⟨g, i, none⟩ (.int .i64 va)).drew _ _)
        have X6 := hide (ext_trans (ext_set HX2.out (p := ⟨g, i, none⟩) HO2.out.low (.int .i64 va)) (Below.drew (Below.refl _ _)) : Ext w2 (wr.setCell ⟨g, i, none⟩ (.int .i64 va)).drew)
        have O8 := hide (((HO2.out.set HP2.out.2.2 va).set (k := y) (by rw [List.length_set]; exact HP2.out.2.1) vb).ext (Below.drew (Below.refl _ _)) : OwnZ w2 ((wr.setCell ⟨g, i, none⟩ (.int .i64 va)).setCell ⟨g, y, none⟩ (.int .i64 vb)).drew _ _)
        have X8 := hide (ext_trans (ext_set (ext_set HX2.out (p := ⟨g, i, none⟩) HO2.out.low (.int .i64 va)) (p := ⟨g, y, none⟩) HO2.out.low (.int .i64 vb)) (Below.drew (Below.refl _ _)) : Ext w2 ((wr.setCell ⟨g, i, none⟩ (.int .i64 va)).setCell ⟨g, y, none⟩ (.int .i64 vb)).drew)
        clear hva hvb
        have keepK := hide (fun W (h : Ext w2 W) => (show (fun W => Ext w2 W) W from h))
        have yy := ext_trans HX2.out (Below.drew (Below.refl _ _))
        refine region_K (fun W => Ext w2 W) (fun W => W.cell? ⟨g, y, none⟩ = some (.int .i64 va) ∧ W.cell? ⟨g, i, none⟩ = some (.int .i64 vb)) [13, 15] (by kernel_rfl) ?_
        have hS0 := And.intro HC1.out HC2.out
        have hT0 := keepK.out _ yy
        refine anyK_take 0 (oi := ?oo1) ?ho1 (by kernel_rfl) (by kernel_rfl) (by kernel_rfl) (by kernel_rfl) ?hq1 ?hw1 hT0 (fun _ => hS0) (v := ?vv1) ?hy1 ?hk1
        case ho1 => (simp only [List.getElem?_toArray, List.getElem?_cons_succ, List.getElem?_cons_zero]; rfl)
        case hq1 => exact fun _ _ _ h => h
        case hw1 => rfl
        case hy1 =>
          intro W hW
          go_simp
          first | done | with_reducible rfl
        case hk1 =>
        try simp only [Act.put, List.setIfInBounds_toArray, List.set_cons_zero, List.set_cons_succ]
        refine anyK_take 1 (oi := ?oo2) ?ho2 (by kernel_rfl) (by kernel_rfl) (by kernel_rfl) (by kernel_rfl) ?hq2 ?hw2 hT0 (fun _ => hS0) (v := ?vv2) ?hy2 ?hk2
        case ho2 => (simp only [List.getElem?_toArray, List.getElem?_cons_succ, List.getElem?_cons_zero]; rfl)
        case hq2 => exact fun _ _ _ h => h
        case hw2 => rfl
        case hy2 =>
          intro W hW
          go_simp
          first | done | with_reducible rfl
        case hk2 =>
        try simp only [Act.put, List.setIfInBounds_toArray, List.set_cons_zero, List.set_cons_succ]
        refine anyK_take 2 (oi := ?oo3) ?ho3 (by kernel_rfl) (by kernel_rfl) (by kernel_rfl) (by kernel_rfl) ?hq3 ?hw3 hT0 (fun _ => hS0) (v := ?vv3) ?hy3 ?hk3
        case ho3 => (simp only [List.getElem?_toArray, List.getElem?_cons_succ, List.getElem?_cons_zero]; rfl)
        case hq3 => exact fun _ _ _ h => h
        case hw3 => rfl
        case hy3 =>
          intro W hW
          go_simp
          first | done | with_reducible rfl
        case hk3 =>
        try simp only [Act.put, List.setIfInBounds_toArray, List.set_cons_zero, List.set_cons_succ]
        refine anyK_take 3 (oi := ?oo4) ?ho4 (by kernel_rfl) (by kernel_rfl) (by kernel_rfl) (by kernel_rfl) ?hq4 ?hw4 hT0 (fun _ => hS0) (v := ?vv4) ?hy4 ?hk4
        case ho4 => (simp only [List.getElem?_toArray, List.getElem?_cons_succ, List.getElem?_cons_zero]; rfl)
        case hq4 => exact fun _ _ _ h => h
        case hw4 => rfl
        case hy4 =>
          intro W hW
          go_simp
          first | done | with_reducible rfl
        case hk4 =>
        try simp only [Act.put, List.setIfInBounds_toArray, List.set_cons_zero, List.set_cons_succ]
        refine anyK_take 4 (oi := ?oo5) ?ho5 (by kernel_rfl) (by kernel_rfl) (by kernel_rfl) (by kernel_rfl) ?hq5 ?hw5 hT0 (fun _ => hS0) (v := ?vv5) ?hy5 ?hk5
        case ho5 => (simp only [List.getElem?_toArray, List.getElem?_cons_succ, List.getElem?_cons_zero]; rfl)
        case hq5 => exact fun _ _ _ h => h
        case hw5 => rfl
        case hy5 =>
          intro W hW
          go_simp
          first | done | with_reducible rfl
        case hk5 =>
        try simp only [Act.put, List.setIfInBounds_toArray, List.set_cons_zero, List.set_cons_succ]
        refine anyK_take 5 (oi := ?oo6) ?ho6 (by kernel_rfl) (by kernel_rfl) (by kernel_rfl) (by kernel_rfl) ?hq6 ?hw6 hT0 (fun _ => hS0) (v := ?vv6) ?hy6 ?hk6
        case ho6 => (simp only [List.getElem?_toArray, List.getElem?_cons_succ, List.getElem?_cons_zero]; rfl)
        case hq6 => exact fun _ _ _ h => h
        case hw6 => rfl
        case hy6 =>
          intro W hW
          go_simp
          first | done | with_reducible rfl
        case hk6 =>
        try simp only [Act.put, List.setIfInBounds_toArray, List.set_cons_zero, List.set_cons_succ]
        refine anyK_take 6 (oi := ?oo7) ?ho7 (by kernel_rfl) (by kernel_rfl) (by kernel_rfl) (by kernel_rfl) ?hq7 ?hw7 hT0 (fun _ => hS0) (v := ?vv7) ?hy7 ?hk7
        case ho7 => (simp only [List.getElem?_toArray, List.getElem?_cons_succ, List.getElem?_cons_zero]; rfl)
        case hq7 => exact fun _ _ _ h => h
        case hw7 => rfl
        case hy7 =>
          intro W hW
          go_simp
          first | done | with_reducible rfl
        case hk7 =>
        try simp only [Act.put, List.setIfInBounds_toArray, List.set_cons_zero, List.set_cons_succ]
        refine anyK_load 7 (oi := ?oo8) ?ho8 (by kernel_rfl) (by kernel_rfl) (by kernel_rfl) (by kernel_rfl) (by kernel_rfl) (by kernel_rfl) ?hq8 ?hw8 hT0 hS0 (v := ?vv8) ?hy8 ?hk8
        case ho8 => (simp only [List.getElem?_toArray, List.getElem?_cons_succ, List.getElem?_cons_zero]; rfl)
        case hq8 => exact fun _ _ _ h => h
        case hw8 => rfl
        case hy8 =>
          intro W hW1 hW
          obtain ⟨y0, y1⟩ := hW
          go_simp
          first | done | with_reducible rfl
        case hk8 =>
        try simp only [Act.put, List.setIfInBounds_toArray, List.set_cons_zero, List.set_cons_succ]
        refine anyK_take 8 (oi := ?oo9) ?ho9 (by kernel_rfl) (by kernel_rfl) (by kernel_rfl) (by kernel_rfl) ?hq9 ?hw9 hT0 (fun _ => hS0) (v := ?vv9) ?hy9 ?hk9
        case ho9 => (simp only [List.getElem?_toArray, List.getElem?_cons_succ, List.getElem?_cons_zero]; rfl)
        case hq9 => exact fun _ _ _ h => h
        case hw9 => rfl
        case hy9 =>
          intro W hW
          go_simp
          first | done | with_reducible rfl
        case hk9 =>
        try simp only [Act.put, List.setIfInBounds_toArray, List.set_cons_zero, List.set_cons_succ]
        refine anyK_take 9 (oi := ?oo10) ?ho10 (by kernel_rfl) (by kernel_rfl) (by kernel_rfl) (by kernel_rfl) ?hq10 ?hw10 hT0 (fun _ => hS0) (v := ?vv10) ?hy10 ?hk10
        case ho10 => (simp only [List.getElem?_toArray, List.getElem?_cons_succ, List.getElem?_cons_zero]; rfl)
        case hq10 => exact fun _ _ _ h => h
        case hw10 => rfl
        case hy10 =>
          intro W hW
          go_simp
          first | done | with_reducible rfl
        case hk10 =>
        try simp only [Act.put, List.setIfInBounds_toArray, List.set_cons_zero, List.set_cons_succ]
        refine anyK_take 10 (oi := ?oo11) ?ho11 (by kernel_rfl) (by kernel_rfl) (by kernel_rfl) (by kernel_rfl) ?hq11 ?hw11 hT0 (fun _ => hS0) (v := ?vv11) ?hy11 ?hk11
        case ho11 => (simp only [List.getElem?_toArray, List.getElem?_cons_succ, List.getElem?_cons_zero]; rfl)
        case hq11 => exact fun _ _ _ h => h
        case hw11 => rfl
        case hy11 =>
          intro W hW
          go_simp
          first | done | with_reducible rfl
        case hk11 =>
        try simp only [Act.put, List.setIfInBounds_toArray, List.set_cons_zero, List.set_cons_succ]
        refine anyK_load 11 (oi := ?oo12) ?ho12 (by kernel_rfl) (by kernel_rfl) (by kernel_rfl) (by kernel_rfl) (by kernel_rfl) (by kernel_rfl) ?hq12 ?hw12 hT0 hS0 (v := ?vv12) ?hy12 ?hk12
        case ho12 => (simp only [List.getElem?_toArray, List.getElem?_cons_succ, List.getElem?_cons_zero]; rfl)
        case hq12 => exact fun _ _ _ h => h
        case hw12 => rfl
        case hy12 =>
          intro W hW1 hW
          obtain ⟨y0, y1⟩ := hW
          go_simp
          first | done | with_reducible rfl
        case hk12 =>
        try simp only [Act.put, List.setIfInBounds_toArray, List.set_cons_zero, List.set_cons_succ]
        refine anyK_take 12 (oi := ?oo13) ?ho13 (by kernel_rfl) (by kernel_rfl) (by kernel_rfl) (by kernel_rfl) ?hq13 ?hw13 hT0 (fun _ => hS0) (v := ?vv13) ?hy13 ?hk13
        case ho13 => (simp only [List.getElem?_toArray, List.getElem?_cons_succ, List.getElem?_cons_zero]; rfl)
        case hq13 => exact fun _ _ _ h => h
        case hw13 => rfl
        case hy13 =>
          intro W hW
          go_simp
          first | done | with_reducible rfl
        case hk13 =>
        try simp only [Act.put, List.setIfInBounds_toArray, List.set_cons_zero, List.set_cons_succ]
        refine anyK_on1 13 (by kernel_rfl) ?_
        refine anyK_one 13 (o := ?oo14) ?ho14 ?hk14
        case ho14 => (simp only [List.getElem?_toArray, List.getElem?_cons_succ, List.getElem?_cons_zero]; rfl)
        case hk14 =>
        intro K hK
        have q5 := HC2.out
        have z5 := HO2.out.frozen i
        replace yy := X6.out
        go_simp
        clear q5 z5
        have hT1 := keepK.out _ yy
        refine hK.out _ _ hT1 (fun h => by cases h) ?_
        clear hK K
        try simp only [Act.put, List.setIfInBounds_toArray, List.set_cons_zero, List.set_cons_succ]
        refine anyK_take 14 (oi := ?oo15) ?ho15 (by kernel_rfl) (by kernel_rfl) (by kernel_rfl) (by kernel_rfl) ?hq15 ?hw15 hT1 (fun h => by cases h) (v := ?vv15) ?hy15 ?hk15
        case ho15 => (simp only [List.getElem?_toArray, List.getElem?_cons_succ, List.getElem?_cons_zero]; rfl)
        case hq15 => exact fun _ _ _ h => h
        case hw15 => rfl
        case hy15 =>
          intro W hW
          go_simp
          first | done | with_reducible rfl
        case hk15 =>
        try simp only [Act.put, List.setIfInBounds_toArray, List.set_cons_zero, List.set_cons_succ]
        refine anyK_on1 15 (by kernel_rfl) ?_
        refine anyK_one 15 (o := ?oo16) ?ho16 ?hk16
        case ho16 => (simp only [List.getElem?_toArray, List.getElem?_cons_succ, List.getElem?_cons_zero]; rfl)
        case hk16 =>
        intro K hK
        have q7 := O6.out.cell (k := y) (by rw [List.length_set]; exact HP2.out.2.1)
        have z7 := O6.out.frozen y
        replace yy := X8.out
        go_simp
        clear q7 z7
        have hT2 := keepK.out _ yy
        refine hK.out _ _ hT2 (fun h => by cases h) ?_
        clear hK K
        try simp only [Act.put, List.setIfInBounds_toArray, List.set_cons_zero, List.set_cons_succ]
        refine anyK_done (by kernel_rfl) ?_ _
        clear keepK hT0 hT1 hT2
        try clear keepS hS0 hS1
        have HPM := hide ((swapL_perm HP2.out.2.2 HP2.out.2.1).trans HP2.out.1)
        have HSW : Hid (swapL zs i y = (zs.set i va).set y vb) := hide (by unfold swapL; rw [HVV.out.1, HVV.out.2])
        clear HO2 HX2 HP2 O6 X6 HC1 HC2
        generalize ((wr.setCell ⟨g, i, none⟩ (.int .i64 va)).setCell ⟨g, y, none⟩ (.int .i64 vb)).drew = w9 at *
        go_wp2
        go_roundw
        case rel => exact ⟨k + 1, swapL zs i y, HM.out, by go_num, by rw [HSW.out]; exact O8.out, HPM, X8.out⟩
        case measure => have := HM.out; simp only [intOf, wrap64]; omega
      · obtain rfl : k = dr.length := by omega
        have HO2 := hide hO
        have HX2 := hide hX
        clear hO hX hk hlt
        go_wp2
        go_ret2
        exact ⟨_, zs, rfl, HO2.out, hP.out, HX2.out⟩
  · exact absurd HF.out hno
end Go.Proofs.Ytdoibgmmijhlfaa
