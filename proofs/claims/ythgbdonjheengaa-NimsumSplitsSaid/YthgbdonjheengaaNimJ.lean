/- Walk: insert: a byte into a list of bytes, in order. -/
import Derived.Test.YthgbdonjheengaaNimI
import Derived.Deep.RegionWith
import Derived.Deep.Cut
import Derived.Test.YthgbdonjheengaaRegionK
namespace Go.Proofs.Ythgbdonjheengaa
open Go.ChangeShapes Go.WideShapes Go.ChangeAt Go.RowKit Go.Shelf Go.Lib Go.Proofs
set_option linter.unusedVariables false
set_option linter.unusedSimpArgs false
theorem placed_get {cs : List Value} {i : Nat} {x : Value} (hi : i ≤ cs.length) {j : Nat} {v : Value} (h : (cs.take i ++ x :: cs.drop i)[j]? = some v) :
    (j < i ∧ (cs.take i)[j]? = some v) ∨ (j = i ∧ v = x) ∨ (i < j ∧ (cs.drop i)[j - (i + 1)]? = some v) := by
  have hl : (cs.take i).length = i := by rw [List.length_take]; omega
  rcases Nat.lt_trichotomy j i with hj | rfl | hj
  · rw [List.getElem?_append_left (by omega)] at h
    exact .inl ⟨hj, h⟩
  · rw [List.getElem?_append_right (by omega), hl, Nat.sub_self] at h
    exact .inr (.inl ⟨rfl, (Option.some.inj h).symm⟩)
  · rw [List.getElem?_append_right (by omega), hl, show j - i = (j - (i + 1)) + 1 by omega, List.getElem?_cons_succ] at h
    exact .inr (.inr ⟨hj, h⟩)
theorem set_low {W : World} {g o j : Nat} {vs : List Value} (h : j < o ∨ o + vs.length ≤ j) : (W.setCells g o vs).cell? ⟨g, j, none⟩ = W.cell? ⟨g, j, none⟩ := World.cell?_setCells_out g vs o W ⟨g, j, none⟩ (fun _ _ => h)
theorem set_in {W : World} {g o j : Nat} {vs : List Value} {v : Value} {t : TypeId} {cur : Array Value} (hb : Blk W g t cur) (hs : o + vs.length ≤ cur.size) (hj : o ≤ j) (hv : vs[j - o]? = some v) : (W.setCells g o vs).cell? ⟨g, j, none⟩ = some v := by
  obtain ⟨hl, e⟩ := List.getElem?_eq_some_iff.1 hv
  have := World.cell?_setCells_in g vs o W (fun k hk => by rw [hb.cell, Array.getElem?_eq_getElem (by omega)]; rfl) (j - o) hl
  rw [show o + (j - o) = j by omega] at this
  rw [this, e]
theorem bytes_ins (l : List Nat) (i x : Nat) : (bytesN l).take i ++ Value.int .u8 (x : Int) :: (bytesN l).drop i = bytesN (l.take i ++ x :: l.drop i) := by
  unfold bytesN
  rw [List.map_append, List.map_take, List.map_cons, List.map_drop]
set_option maxHeartbeats 4000000 in
set_option maxRecDepth 100000 in
theorem insert1_any (w0 W : World) (v : Value) (l : List Nat) (i x vb : Nat) (hown : OwnR 5 1 w0 W v l.length (bytesN l)) (hi : i ≤ l.length) (hl : l.length ≤ 100000) (hvb : Blk W vb 5 #[.int .u8 (x : Int)]) (hne : v.ownBlock ≠ some vb) (hext : Ext w0 W) :
    Calls Try.prog 74 #[v, .int .i64 (i : Int), .slice (some ⟨vb, 0, none⟩) 1 1] W fun e w' => ∃ v', e = .returned v' ∧ OwnR 5 1 w0 w' v' (l.length + 1) (bytesN (l.take i ++ x :: l.drop i)) ∧ Ext w0 w' := by
  by_cases hin : i = l.length
  · subst hin
    rw [List.take_length, List.drop_length]
    obtain ⟨A, c, rfl, ho⟩ := hown
    obtain ⟨i0, hi0, hz0, hz1, hz2⟩ := info_parts byteInfoN
    have HX := Lib.hid hext
    have HB : bytesN (l ++ [x]) = bytesN l ++ [.int .u8 (x : Int)] := by simp [bytesN]
    have hce : CellsAt W (some ⟨vb, 0, none⟩) [.int .u8 (x : Int)] := fun j u hj => ⟨vb, 0, rfl, by rw [Nat.zero_add, hvb.cell]; simpa using hj⟩
    rw [HB]
    obtain ⟨n, hn⟩ : ∃ n, n = l.length := ⟨_, rfl⟩
    rw [← hn] at hl ho ⊢
    have HO := Lib.hid ho
    have HC := Lib.hid hce
    clear hi hne hvb hext hn ho hce HB
    generalize bytesN l = bs at *
    go_enter Try.func74, Try.ntmps74
    go_wp2_with (at_builtin; refine wpList_append_cells _ rfl (.tmp 23) (.tmp 24) 46 rfl w0.heap.size 5 i0 (.int .u8 0) 1 1 Try.underlying46 hi0 hz0 hz1 hz2 rfl (by decide) _ n bs rfl HO.out (some ⟨vb, 0, none⟩) 1 1 [.int .u8 (x : Int)] rfl rfl HC.out (by simp [Value.oneCell']) (by simp only [maxLen]; omega) (by omega) HX.out.size (by simp) ?_; intro v' w1 hown1 hgrow)
    all_goals
      obtain ⟨A', c', rfl, _, _⟩ := own_shape hown1
      go_ret
      exact ⟨_, rfl, ⟨A', c', rfl, hown1⟩, ext_grown HX.out hgrow (own_row HO.out)⟩
  · have hlt : i < l.length := by omega
    obtain ⟨g, c, cur, rfl, hb, hs, hcm, hnc, hg, hcl, hcells⟩ := ownR_open hown (by omega)
    have hvg : vb ≠ g := fun e => hne (by rw [e]; rfl)
    have h1 := one_bytes l
    have hil : i ≤ (bytesN l).length := by rw [bytesN_len]; exact hi
    by_cases hroom : l.length + 1 ≤ c
    · refine (insert_shift g l.length c i vb (.int .u8 (x : Int)) (bytesN l) cur W hlt hroom (by unfold maxLen at hcm; omega) hvg hcl rfl h1 hb hs hvb hcells).mono ?_
      rintro e w' ⟨rfl, rfl⟩
      obtain ⟨cur1, b1, s1⟩ := setCells_blk ((bytesN l).drop i) (i + 1) W.drew cur hb
      obtain ⟨cur2, b2, s2⟩ := setCells_blk [.int .u8 (x : Int)] i _ cur1 b1
      have hdl : ((bytesN l).drop i).length = l.length - i := by rw [List.length_drop, bytesN_len]
      refine ⟨_, rfl, ownR_of b2 (by omega) hcm hroom (by rw [bytesN_len, List.length_append, List.length_cons, List.length_take, List.length_drop]; omega) hg (fun j v hj => ?_), setCells_ext hg _ _ _ (setCells_ext hg _ _ _ (Below.drew hext))⟩
      rw [← bytes_ins] at hj
      rcases placed_get hil hj with ⟨h1, h2⟩ | ⟨rfl, rfl⟩ | ⟨h1, h2⟩
      · rw [set_low (.inl h1), set_low (.inl (by omega))]
        rw [List.getElem?_take, if_pos h1] at h2
        exact hcells j v h2
      · exact set_in b1 (by simp only [List.length_cons, List.length_nil]; omega) (Nat.le_refl _) (by rw [Nat.sub_self]; rfl)
      · rw [set_low (.inr (by simp only [List.length_cons, List.length_nil]; omega))]
        exact set_in (show Blk W.drew g 5 cur from hb) (by omega) (by omega) h2
    · refine (insert_grow g l.length c i vb (.int .u8 (x : Int)) (bytesN l) cur W hlt hnc (by omega) (by omega) hvg hcl rfl h1 hb hs hvb hcells).mono ?_
      rintro e w' ⟨G, ROW, rfl, q1, q2, q3, q4, rfl⟩
      have hdl : ((bytesN l).drop i).length = l.length - i := by rw [List.length_drop, bytesN_len]
      have b0 : Blk (W.alloc (.cells ROW 5)).drew W.heap.size 5 ROW := Blk.new W _ _
      obtain ⟨cur1, b1, s1⟩ := setCells_blk [.int .u8 (x : Int)] i _ ROW b0
      have b1' : Blk ((W.alloc (.cells ROW 5)).drew.setCells W.heap.size i [.int .u8 (x : Int)]).drew W.heap.size 5 cur1 := b1
      obtain ⟨cur2, b2, s2⟩ := setCells_blk ((bytesN l).drop i) (i + 1) _ cur1 b1'
      have hsz := hext.size
      refine ⟨_, rfl, ownR_of b2 (by omega) q2 q1 (by rw [bytesN_len, List.length_append, List.length_cons, List.length_take, List.length_drop]; omega) hsz (fun j v hj => ?_), setCells_ext hsz _ _ _ (Below.drew (setCells_ext hsz _ _ _ (Below.drew (ext_alloc hext _))))⟩
      rw [← bytes_ins] at hj
      rcases placed_get hil hj with ⟨h1, h2⟩ | ⟨rfl, rfl⟩ | ⟨h1, h2⟩
      · rw [set_low (.inl (by omega))]
        show ((W.alloc (.cells ROW 5)).drew.setCells W.heap.size i [.int .u8 (x : Int)]).cell? _ = _
        rw [set_low (.inl h1), b0.cell]
        exact q4 j v h2
      · rw [set_low (.inl (by omega))]
        exact set_in b0 (by simp only [List.length_cons, List.length_nil]; omega) (Nat.le_refl _) (by rw [Nat.sub_self]; rfl)
      · exact set_in b1' (by omega) (by omega) h2
set_option maxHeartbeats 4000000 in
set_option maxRecDepth 100000 in
theorem insert_any (l : List Nat) (x : Nat) (A : Option Addr) (c : Nat) (w : World) (hl : l.length ≤ 90000) (hA : CellsAt w A (bytesN l)) (hn : A = none → l.length = 0) :
    Calls Try.prog 71 #[.slice A l.length c, .int .u8 (x : Int)] w fun e w' => ∃ v, e = .returned v ∧ OwnR 5 1 w w' v (l.length + 1) (bytesN (ins x l)) ∧ Ext w w' := by
  have k1 := Blk.new w 5 #[.int .u8 (x : Int)]
  have hx1 : Ext w (w.alloc (.cells #[.int .u8 (x : Int)] 5)) := ext_alloc (Below.refl _ _) _
  have HIX := hide (idx_any x w.heap.size A c l _ (k1.cell 0) (by omega) (hA.ext hx1))
  have HCL := hide (fun W (h : Ext (w.alloc (.cells #[.int .u8 (x : Int)] 5)) W) => (cloneBytes_any A l.length c l W rfl (by omega) hn (hA.ext (ext_trans hx1 h))).mono (fun e w' ⟨v, he, o, xx⟩ => (show ∃ v, e = Ending.returned v ∧ OwnR 5 1 (w.alloc (.cells #[.int .u8 (x : Int)] 5)) w' v l.length (bytesN l) ∧ (∀ k, v.ownBlock = some k → W.heap.size ≤ k ∧ k < w'.heap.size) ∧ Ext W w' from ⟨v, he, o.base h.size, by
    obtain ⟨A', c', rfl, o⟩ := o
    exact fun k hk => o.lt k hk, xx⟩)))
  have hil := idxN_le x l
  have HIN := hide (fun W v vb (h1 : OwnR 5 1 (w.alloc (.cells #[.int .u8 (x : Int)] 5)) W v l.length (bytesN l)) (h2 : Blk W vb 5 #[.int .u8 (x : Int)]) (h3 : v.ownBlock ≠ some vb) (h4 : Ext (w.alloc (.cells #[.int .u8 (x : Int)] 5)) W) => insert1_any (w.alloc (.cells #[.int .u8 (x : Int)] 5)) W v l (idxN x l) x vb h1 hil (by omega) h2 h3 h4)
  have HII := hide (ins_idx x l)
  have XS := hide hx1.size
  have X1 := hide hx1
  have K1 := hide k1
  have f1 := k1.cell 0
  obtain ⟨n, hN⟩ : ∃ n, n = l.length := ⟨_, rfl⟩
  rw [← hN] at hil HIX HCL HIN hl ⊢
  rw [← HII.out] at HIN
  generalize ins x l = L2 at *
  generalize idxN x l = q at *
  generalize bytesN l = bs at *
  have HQ := hide hil
  clear hA hn hx1 hN hil k1 HII
  go_enter Try.func71, Try.ntmps71
  go_upto_region 1 with fail
  generalize w.alloc (.cells #[.int .u8 (x : Int)] 5) = w1 at *
  generalize w.heap.size = B1 at *
  have mixed : Try.prog.follows Departure.mixedOrders = true := by kernel_rfl
  by_cases hq : q < n
  · rw [if_pos hq] at HIX
    have q0 : decide ((q : Int) < 0) = false := decide_eq_false (by omega)
    clear hq
    go_wp2_with fail
    refine HIX.out.mono ?_
    rintro e w2 ⟨rfl, rfl⟩
    clear HIX
    go_upto_region 4 with fail
    have keepK := hide (fun W (h : Ext w1 W) => (show (fun W => W.cell? ⟨B1, 0, none⟩ = some (.int .u8 (x : Int)) ∧ Ext w1 W) W from ⟨(K1.out.ext h).cell 0, h⟩))
    have yy : Ext w1 w1.drew := Below.drew (Below.refl _ _)
    refine region_K (fun W => W.cell? ⟨B1, 0, none⟩ = some (.int .u8 (x : Int)) ∧ Ext w1 W) (fun _ => True) [] (by kernel_rfl) ?_
    have hT0 := keepK.out _ yy
    refine anyK_take 0 (oi := ?oo1) ?ho1 (by kernel_rfl) (by kernel_rfl) (by kernel_rfl) (by kernel_rfl) ?hq1 ?hw1 hT0 (fun _ => trivial) (v := ?vv1) ?hy1 ?hk1
    case ho1 => (simp only [List.getElem?_toArray, List.getElem?_cons_succ, List.getElem?_cons_zero]; rfl)
    case hq1 => exact fun _ _ _ h => h
    case hw1 => rfl
    case hy1 =>
      intro W hW
      go_simp
      first | done | with_reducible rfl
    case hk1 =>
    try simp only [Act.put, List.setIfInBounds_toArray, List.set_cons_zero, List.set_cons_succ]
    refine anyK_take 2 (oi := ?oo2) ?ho2 (by kernel_rfl) (by kernel_rfl) (by kernel_rfl) (by kernel_rfl) ?hq2 ?hw2 hT0 (fun _ => trivial) (v := ?vv2) ?hy2 ?hk2
    case ho2 => (simp only [List.getElem?_toArray, List.getElem?_cons_succ, List.getElem?_cons_zero]; rfl)
    case hq2 => exact fun _ _ _ h => h
    case hw2 => rfl
    case hy2 =>
      intro W hW
      go_simp
      first | done | with_reducible rfl
    case hk2 =>
    try simp only [Act.put, List.setIfInBounds_toArray, List.set_cons_zero, List.set_cons_succ]
    refine anyK_take 3 (oi := ?oo3) ?ho3 (by kernel_rfl) (by kernel_rfl) (by kernel_rfl) (by kernel_rfl) ?hq3 ?hw3 hT0 (fun _ => trivial) (v := ?vv3) ?hy3 ?hk3
    case ho3 => (simp only [List.getElem?_toArray, List.getElem?_cons_succ, List.getElem?_cons_zero]; rfl)
    case hq3 => exact fun _ _ _ h => h
    case hw3 => rfl
    case hy3 =>
      intro W hW
      obtain ⟨z0, z1⟩ := hW
      go_simp
      first | done | with_reducible rfl
    case hk3 =>
    try simp only [Act.put, List.setIfInBounds_toArray, List.set_cons_zero, List.set_cons_succ]
    refine anyK_on2 1 4 (by kernel_rfl) ?_ ?_
    · skip
      refine anyK_one 1 (o := ?oo4) ?ho4 ?hk4
      case ho4 => (simp only [List.getElem?_toArray, List.getElem?_cons_succ, List.getElem?_cons_zero]; rfl)
      case hk4 =>
      intro K hK
      go_simp
      refine (HCL.out _ yy).mono ?_
      rintro e wc ⟨vc, rfl, oc, ok, xx⟩
      try go_wp2_with fail
      replace yy := ext_trans yy xx
      have HOC := hide oc
      have HOK := hide ok
      try (replace KB := hide (KB.out.ext xx))
      try (have HNE : Hid (vc.ownBlock ≠ some BN) := hide (fun e => by have h1 := (ok _ e).1; have h2 := HBN.out; simp at h1; omega))
      clear oc ok
      have hT1 := keepK.out _ yy
      refine hK.out _ _ hT1 (fun _ => trivial) ?_
      clear hK K
      try simp only [Act.put, List.setIfInBounds_toArray, List.set_cons_zero, List.set_cons_succ]
      refine anyK_on1 4 (by kernel_rfl) ?_
      refine anyK_one 4 (o := ?oo5) ?ho5 ?hk5
      case ho5 => (simp only [List.getElem?_toArray, List.getElem?_cons_succ, List.getElem?_cons_zero]; rfl)
      case hk5 =>
      intro K hK
      go_simp
      have KB : Hid (Blk (wc.alloc (.cells #[.int .u8 (x : Int)] 5)) wc.heap.size 5 #[.int .u8 (x : Int)]) := hide (Blk.new wc 5 #[.int .u8 (x : Int)])
      try (replace HOC := hide (HOC.out.ext (ext_alloc (Below.refl _ _) (.cells #[.int .u8 (x : Int)] 5))))
      generalize hBN : wc.heap.size = BN at *
      try (have HNE : Hid (vc.ownBlock ≠ some BN) := hide (fun e => by have := (HOK.out _ e).2; omega))
      have HBN := hide hBN
      clear hBN
      replace yy := ext_alloc yy (.cells #[.int .u8 (x : Int)] 5)
      have hT2 := keepK.out _ yy
      refine hK.out _ _ hT2 (fun _ => trivial) ?_
      clear hK K
      try simp only [Act.put, List.setIfInBounds_toArray, List.set_cons_zero, List.set_cons_succ]
      refine anyK_on1 5 (by kernel_rfl) ?_
      refine anyK_one 5 (o := ?oo6) ?ho6 ?hk6
      case ho6 => (simp only [List.getElem?_toArray, List.getElem?_cons_succ, List.getElem?_cons_zero]; rfl)
      case hk6 =>
      intro K hK
      go_simp
      refine (HIN.out _ _ _ HOC.out KB.out HNE.out yy).mono ?_
      rintro e wi ⟨vr, rfl, or, xx⟩
      try go_wp2_with fail
      replace yy := xx
      have HRR := hide or
      clear or
      have hT3 := keepK.out _ yy
      refine hK.out _ _ hT3 (fun _ => trivial) ?_
      clear hK K
      try simp only [Act.put, List.setIfInBounds_toArray, List.set_cons_zero, List.set_cons_succ]
      refine anyK_take 6 (oi := ?oo7) ?ho7 (by kernel_rfl) (by kernel_rfl) (by kernel_rfl) (by kernel_rfl) ?hq7 ?hw7 hT3 (fun _ => trivial) (v := ?vv7) ?hy7 ?hk7
      case ho7 => (simp only [List.getElem?_toArray, List.getElem?_cons_succ, List.getElem?_cons_zero]; rfl)
      case hq7 => exact fun _ _ _ h => h
      case hw7 => rfl
      case hy7 =>
        intro W hW
        go_simp
        first | done | with_reducible rfl
      case hk7 =>
      try simp only [Act.put, List.setIfInBounds_toArray, List.set_cons_zero, List.set_cons_succ]
      refine anyK_done (by kernel_rfl) ?_ _
      clear keepK hT0 hT1 hT2 hT3
      go_wp2
      go_ret
      exact ⟨_, rfl, HRR.out.base X1.out.size, ext_trans X1.out yy⟩
    · skip
      refine anyK_one 4 (o := ?oo8) ?ho8 ?hk8
      case ho8 => (simp only [List.getElem?_toArray, List.getElem?_cons_succ, List.getElem?_cons_zero]; rfl)
      case hk8 =>
      intro K hK
      go_simp
      have KB : Hid (Blk (w1.drew.alloc (.cells #[.int .u8 (x : Int)] 5)) w1.heap.size 5 #[.int .u8 (x : Int)]) := hide (Blk.new w1.drew 5 #[.int .u8 (x : Int)])
      try (replace HOC := hide (HOC.out.ext (ext_alloc (Below.refl _ _) (.cells #[.int .u8 (x : Int)] 5))))
      generalize hBN : w1.heap.size = BN at *
      try (have HNE : Hid (vc.ownBlock ≠ some BN) := hide (fun e => by have := (HOK.out _ e).2; omega))
      have HBN := hide hBN
      clear hBN
      replace yy := ext_alloc yy (.cells #[.int .u8 (x : Int)] 5)
      have hT1 := keepK.out _ yy
      refine hK.out _ _ hT1 (fun _ => trivial) ?_
      clear hK K
      try simp only [Act.put, List.setIfInBounds_toArray, List.set_cons_zero, List.set_cons_succ]
      refine anyK_on1 1 (by kernel_rfl) ?_
      refine anyK_one 1 (o := ?oo9) ?ho9 ?hk9
      case ho9 => (simp only [List.getElem?_toArray, List.getElem?_cons_succ, List.getElem?_cons_zero]; rfl)
      case hk9 =>
      intro K hK
      go_simp
      refine (HCL.out _ yy).mono ?_
      rintro e wc ⟨vc, rfl, oc, ok, xx⟩
      try go_wp2_with fail
      replace yy := ext_trans yy xx
      have HOC := hide oc
      have HOK := hide ok
      try (replace KB := hide (KB.out.ext xx))
      try (have HNE : Hid (vc.ownBlock ≠ some BN) := hide (fun e => by have h1 := (ok _ e).1; have h2 := HBN.out; simp at h1; omega))
      clear oc ok
      have hT2 := keepK.out _ yy
      refine hK.out _ _ hT2 (fun _ => trivial) ?_
      clear hK K
      try simp only [Act.put, List.setIfInBounds_toArray, List.set_cons_zero, List.set_cons_succ]
      refine anyK_on1 5 (by kernel_rfl) ?_
      refine anyK_one 5 (o := ?oo10) ?ho10 ?hk10
      case ho10 => (simp only [List.getElem?_toArray, List.getElem?_cons_succ, List.getElem?_cons_zero]; rfl)
      case hk10 =>
      intro K hK
      go_simp
      refine (HIN.out _ _ _ HOC.out KB.out HNE.out yy).mono ?_
      rintro e wi ⟨vr, rfl, or, xx⟩
      try go_wp2_with fail
      replace yy := xx
      have HRR := hide or
      clear or
      have hT3 := keepK.out _ yy
      refine hK.out _ _ hT3 (fun _ => trivial) ?_
      clear hK K
      try simp only [Act.put, List.setIfInBounds_toArray, List.set_cons_zero, List.set_cons_succ]
      refine anyK_take 6 (oi := ?oo11) ?ho11 (by kernel_rfl) (by kernel_rfl) (by kernel_rfl) (by kernel_rfl) ?hq11 ?hw11 hT3 (fun _ => trivial) (v := ?vv11) ?hy11 ?hk11
      case ho11 => (simp only [List.getElem?_toArray, List.getElem?_cons_succ, List.getElem?_cons_zero]; rfl)
      case hq11 => exact fun _ _ _ h => h
      case hw11 => rfl
      case hy11 =>
        intro W hW
        go_simp
        first | done | with_reducible rfl
      case hk11 =>
      try simp only [Act.put, List.setIfInBounds_toArray, List.set_cons_zero, List.set_cons_succ]
      refine anyK_done (by kernel_rfl) ?_ _
      clear keepK hT0 hT1 hT2 hT3
      go_wp2
      go_ret
      exact ⟨_, rfl, HRR.out.base X1.out.size, ext_trans X1.out yy⟩
  · obtain rfl : q = n := by have := HQ.out; omega
    rw [if_neg (Nat.lt_irrefl _)] at HIX
    clear hq
    go_wp2_with fail
    refine HIX.out.mono ?_
    rintro e w2 ⟨rfl, rfl⟩
    clear HIX
    go_upto_region 4 with fail
    have keepK := hide (fun W (h : Ext w1 W) => (show (fun W => W.cell? ⟨B1, 0, none⟩ = some (.int .u8 (x : Int)) ∧ Ext w1 W) W from ⟨(K1.out.ext h).cell 0, h⟩))
    have yy : Ext w1 w1.drew := Below.drew (Below.refl _ _)
    refine region_K (fun W => W.cell? ⟨B1, 0, none⟩ = some (.int .u8 (x : Int)) ∧ Ext w1 W) (fun _ => True) [] (by kernel_rfl) ?_
    have hT0 := keepK.out _ yy
    refine anyK_take 0 (oi := ?oo12) ?ho12 (by kernel_rfl) (by kernel_rfl) (by kernel_rfl) (by kernel_rfl) ?hq12 ?hw12 hT0 (fun _ => trivial) (v := ?vv12) ?hy12 ?hk12
    case ho12 => (simp only [List.getElem?_toArray, List.getElem?_cons_succ, List.getElem?_cons_zero]; rfl)
    case hq12 => exact fun _ _ _ h => h
    case hw12 => rfl
    case hy12 =>
      intro W hW
      go_simp
      first | done | with_reducible rfl
    case hk12 =>
    try simp only [Act.put, List.setIfInBounds_toArray, List.set_cons_zero, List.set_cons_succ]
    refine anyK_take 2 (oi := ?oo13) ?ho13 (by kernel_rfl) (by kernel_rfl) (by kernel_rfl) (by kernel_rfl) ?hq13 ?hw13 hT0 (fun _ => trivial) (v := ?vv13) ?hy13 ?hk13
    case ho13 => (simp only [List.getElem?_toArray, List.getElem?_cons_succ, List.getElem?_cons_zero]; rfl)
    case hq13 => exact fun _ _ _ h => h
    case hw13 => rfl
    case hy13 =>
      intro W hW
      go_simp
      first | done | with_reducible rfl
    case hk13 =>
    try simp only [Act.put, List.setIfInBounds_toArray, List.set_cons_zero, List.set_cons_succ]
    refine anyK_take 3 (oi := ?oo14) ?ho14 (by kernel_rfl) (by kernel_rfl) (by kernel_rfl) (by kernel_rfl) ?hq14 ?hw14 hT0 (fun _ => trivial) (v := ?vv14) ?hy14 ?hk14
    case ho14 => (simp only [List.getElem?_toArray, List.getElem?_cons_succ, List.getElem?_cons_zero]; rfl)
    case hq14 => exact fun _ _ _ h => h
    case hw14 => rfl
    case hy14 =>
      intro W hW
      obtain ⟨z0, z1⟩ := hW
      go_simp
      first | done | with_reducible rfl
    case hk14 =>
    try simp only [Act.put, List.setIfInBounds_toArray, List.set_cons_zero, List.set_cons_succ]
    refine anyK_on2 1 4 (by kernel_rfl) ?_ ?_
    · skip
      refine anyK_one 1 (o := ?oo15) ?ho15 ?hk15
      case ho15 => (simp only [List.getElem?_toArray, List.getElem?_cons_succ, List.getElem?_cons_zero]; rfl)
      case hk15 =>
      intro K hK
      go_simp
      refine (HCL.out _ yy).mono ?_
      rintro e wc ⟨vc, rfl, oc, ok, xx⟩
      try go_wp2_with fail
      replace yy := ext_trans yy xx
      have HOC := hide oc
      have HOK := hide ok
      try (replace KB := hide (KB.out.ext xx))
      try (have HNE : Hid (vc.ownBlock ≠ some BN) := hide (fun e => by have h1 := (ok _ e).1; have h2 := HBN.out; simp at h1; omega))
      clear oc ok
      have hT1 := keepK.out _ yy
      refine hK.out _ _ hT1 (fun _ => trivial) ?_
      clear hK K
      try simp only [Act.put, List.setIfInBounds_toArray, List.set_cons_zero, List.set_cons_succ]
      refine anyK_on1 4 (by kernel_rfl) ?_
      refine anyK_one 4 (o := ?oo16) ?ho16 ?hk16
      case ho16 => (simp only [List.getElem?_toArray, List.getElem?_cons_succ, List.getElem?_cons_zero]; rfl)
      case hk16 =>
      intro K hK
      go_simp
      have KB : Hid (Blk (wc.alloc (.cells #[.int .u8 (x : Int)] 5)) wc.heap.size 5 #[.int .u8 (x : Int)]) := hide (Blk.new wc 5 #[.int .u8 (x : Int)])
      try (replace HOC := hide (HOC.out.ext (ext_alloc (Below.refl _ _) (.cells #[.int .u8 (x : Int)] 5))))
      generalize hBN : wc.heap.size = BN at *
      try (have HNE : Hid (vc.ownBlock ≠ some BN) := hide (fun e => by have := (HOK.out _ e).2; omega))
      have HBN := hide hBN
      clear hBN
      replace yy := ext_alloc yy (.cells #[.int .u8 (x : Int)] 5)
      have hT2 := keepK.out _ yy
      refine hK.out _ _ hT2 (fun _ => trivial) ?_
      clear hK K
      try simp only [Act.put, List.setIfInBounds_toArray, List.set_cons_zero, List.set_cons_succ]
      refine anyK_on1 5 (by kernel_rfl) ?_
      refine anyK_one 5 (o := ?oo17) ?ho17 ?hk17
      case ho17 => (simp only [List.getElem?_toArray, List.getElem?_cons_succ, List.getElem?_cons_zero]; rfl)
      case hk17 =>
      intro K hK
      go_simp
      refine (HIN.out _ _ _ HOC.out KB.out HNE.out yy).mono ?_
      rintro e wi ⟨vr, rfl, or, xx⟩
      try go_wp2_with fail
      replace yy := xx
      have HRR := hide or
      clear or
      have hT3 := keepK.out _ yy
      refine hK.out _ _ hT3 (fun _ => trivial) ?_
      clear hK K
      try simp only [Act.put, List.setIfInBounds_toArray, List.set_cons_zero, List.set_cons_succ]
      refine anyK_take 6 (oi := ?oo18) ?ho18 (by kernel_rfl) (by kernel_rfl) (by kernel_rfl) (by kernel_rfl) ?hq18 ?hw18 hT3 (fun _ => trivial) (v := ?vv18) ?hy18 ?hk18
      case ho18 => (simp only [List.getElem?_toArray, List.getElem?_cons_succ, List.getElem?_cons_zero]; rfl)
      case hq18 => exact fun _ _ _ h => h
      case hw18 => rfl
      case hy18 =>
        intro W hW
        go_simp
        first | done | with_reducible rfl
      case hk18 =>
      try simp only [Act.put, List.setIfInBounds_toArray, List.set_cons_zero, List.set_cons_succ]
      refine anyK_done (by kernel_rfl) ?_ _
      clear keepK hT0 hT1 hT2 hT3
      go_wp2
      go_ret
      exact ⟨_, rfl, HRR.out.base X1.out.size, ext_trans X1.out yy⟩
    · skip
      refine anyK_one 4 (o := ?oo19) ?ho19 ?hk19
      case ho19 => (simp only [List.getElem?_toArray, List.getElem?_cons_succ, List.getElem?_cons_zero]; rfl)
      case hk19 =>
      intro K hK
      go_simp
      have KB : Hid (Blk (w1.drew.alloc (.cells #[.int .u8 (x : Int)] 5)) w1.heap.size 5 #[.int .u8 (x : Int)]) := hide (Blk.new w1.drew 5 #[.int .u8 (x : Int)])
      try (replace HOC := hide (HOC.out.ext (ext_alloc (Below.refl _ _) (.cells #[.int .u8 (x : Int)] 5))))
      generalize hBN : w1.heap.size = BN at *
      try (have HNE : Hid (vc.ownBlock ≠ some BN) := hide (fun e => by have := (HOK.out _ e).2; omega))
      have HBN := hide hBN
      clear hBN
      replace yy := ext_alloc yy (.cells #[.int .u8 (x : Int)] 5)
      have hT1 := keepK.out _ yy
      refine hK.out _ _ hT1 (fun _ => trivial) ?_
      clear hK K
      try simp only [Act.put, List.setIfInBounds_toArray, List.set_cons_zero, List.set_cons_succ]
      refine anyK_on1 1 (by kernel_rfl) ?_
      refine anyK_one 1 (o := ?oo20) ?ho20 ?hk20
      case ho20 => (simp only [List.getElem?_toArray, List.getElem?_cons_succ, List.getElem?_cons_zero]; rfl)
      case hk20 =>
      intro K hK
      go_simp
      refine (HCL.out _ yy).mono ?_
      rintro e wc ⟨vc, rfl, oc, ok, xx⟩
      try go_wp2_with fail
      replace yy := ext_trans yy xx
      have HOC := hide oc
      have HOK := hide ok
      try (replace KB := hide (KB.out.ext xx))
      try (have HNE : Hid (vc.ownBlock ≠ some BN) := hide (fun e => by have h1 := (ok _ e).1; have h2 := HBN.out; simp at h1; omega))
      clear oc ok
      have hT2 := keepK.out _ yy
      refine hK.out _ _ hT2 (fun _ => trivial) ?_
      clear hK K
      try simp only [Act.put, List.setIfInBounds_toArray, List.set_cons_zero, List.set_cons_succ]
      refine anyK_on1 5 (by kernel_rfl) ?_
      refine anyK_one 5 (o := ?oo21) ?ho21 ?hk21
      case ho21 => (simp only [List.getElem?_toArray, List.getElem?_cons_succ, List.getElem?_cons_zero]; rfl)
      case hk21 =>
      intro K hK
      go_simp
      refine (HIN.out _ _ _ HOC.out KB.out HNE.out yy).mono ?_
      rintro e wi ⟨vr, rfl, or, xx⟩
      try go_wp2_with fail
      replace yy := xx
      have HRR := hide or
      clear or
      have hT3 := keepK.out _ yy
      refine hK.out _ _ hT3 (fun _ => trivial) ?_
      clear hK K
      try simp only [Act.put, List.setIfInBounds_toArray, List.set_cons_zero, List.set_cons_succ]
      refine anyK_take 6 (oi := ?oo22) ?ho22 (by kernel_rfl) (by kernel_rfl) (by kernel_rfl) (by kernel_rfl) ?hq22 ?hw22 hT3 (fun _ => trivial) (v := ?vv22) ?hy22 ?hk22
      case ho22 => (simp only [List.getElem?_toArray, List.getElem?_cons_succ, List.getElem?_cons_zero]; rfl)
      case hq22 => exact fun _ _ _ h => h
      case hw22 => rfl
      case hy22 =>
        intro W hW
        go_simp
        first | done | with_reducible rfl
      case hk22 =>
      try simp only [Act.put, List.setIfInBounds_toArray, List.set_cons_zero, List.set_cons_succ]
      refine anyK_done (by kernel_rfl) ?_ _
      clear keepK hT0 hT1 hT2 hT3
      go_wp2
      go_ret
      exact ⟨_, rfl, HRR.out.base X1.out.size, ext_trans X1.out yy⟩

end Go.Proofs.Ythgbdonjheengaa
