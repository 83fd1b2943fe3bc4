/- Walk: TopDealt. -/
import Derived.Test.YtdoibgmmijhlfaaDealI
import Derived.Test.YtdoibgmmijhlfaaDealM
import Derived.Test.YtdoibgmmijhlfaaDealW
import Derived.Test.YtdoibgmmijhlfaaFineS
import Derived.Test.YtdoibgmmijhlfaaEqInts
namespace Go.Proofs.Ytdoibgmmijhlfaa
open Go.ChangeShapes Go.WideShapes Go.ChangeAt Go.RowKit Go.Shelf
set_option linter.unusedVariables false
set_option linter.unusedSimpArgs false
theorem fine_extS {f : FuncId} {args : Array Value} {w : World} {v : Value} (h : Calls Try.prog f args w fun e w' => e = .returned v ∧ w = w') : Calls Try.prog f args w fun e w' => e = .returned v ∧ Ext w w' :=
  h.mono fun _ _ ⟨he, hw⟩ => ⟨he, by rw [← hw]; exact Below.refl _ _⟩
theorem blk_intsS {w : World} {g : Nat} {t : TypeId} {zs : List Int} (h : Blk w g t (zs.map (Value.int .i64)).toArray) : IntsAt w (some ⟨g, 0, none⟩) zs := fun i hi => ⟨g, 0, rfl, by
  rw [Nat.zero_add, h.cell]
  simp [hi]⟩
theorem eq_ext {A B : Option Addr} {n m c d : Nat} {xs ys : List Int} {w : World} (hx : xs.length = n) (hy : ys.length = m) (hn : n ≤ 9223372036854775807) (hm : m ≤ 9223372036854775807) (hA : IntsAt w A xs) (hB : IntsAt w B ys) :
    Calls Try.prog 18 #[.slice A n c, .slice B m d] w fun e w' => e = .returned (.bool (decide (xs = ys))) ∧ Ext w w' :=
  (EqInts_any A B n m c d xs ys w hx hy hn hm hA hB).mono fun e w' ⟨h, q, hw⟩ => ⟨h, by rw [hw]; exact ext_drewN (Below.refl _ _) q⟩
theorem comb_fix : combM 3 [[2, 1], [2, 1]] = [1, 0] := by decide +kernel
theorem fits_fix : ∀ d ∈ ([[2, 1], [2, 1]] : List (List Int)), FitsL 3 d := by
  intro d hd
  have e : d = [2, 1] := by simpa using hd
  subst e
  refine ⟨by decide, fun j hj => ?_⟩
  have : j < 2 := by simpa using hj
  rcases (by omega : j = 0 ∨ j = 1) with rfl | rfl <;> decide
instance (h : List Int) (a b : Int) : Decidable (ltR h a b) := by unfold ltR; infer_instance
theorem ordR_is {h l : List Int} (hp : l.Perm (rawR h 13)) (hs : l.Pairwise (fun a b => ¬ ltR h b a)) : ordR h = l := by
  refine List.Perm.eq_of_pairwise (le := fun a b => ¬ ltR h b a) (fun a b _ _ h1 h2 => ?_) ?_ hs ((ordR_perm h).trans hp.symm)
  · unfold ltR at h1 h2
    omega
  · have := List.pairwise_mergeSort (le := fun x y => !(decide (cmpR h y x < 0))) (fun a b c h1 h2 => by
      simp only [Bool.not_eq_true', decide_eq_false_iff_not, cmpR_lt] at *
      unfold ltR at *
      omega) (fun a b => by
      simp only [Bool.or_eq_true, Bool.not_eq_true', decide_eq_false_iff_not, cmpR_lt]
      unfold ltR
      omega) (rawR h 13)
    exact this.imp (fun k => by simpa [cmpR_lt] using k)
theorem ord_a : ordR [0, 1, 2, 3, 17] = [4, 3, 2, 1, 0] := ordR_is (List.isPerm_iff.1 (by decide +kernel)) (by decide +kernel)
theorem ord_b : ordR [5, 18, 9, 7, 15] = [5, 9, 7, 2] := ordR_is (List.isPerm_iff.1 (by decide +kernel)) (by decide +kernel)
theorem val_a : valR [0, 1, 2, 3, 17] = 1599416 := by
  simp only [valR, valF, useR, classR, oftR, ord_a]
  decide +kernel
theorem val_b : valR [5, 18, 9, 7, 15] = 535080 := by
  simp only [valR, valF, useR, classR, oftR, ord_b]
  decide +kernel
theorem win_fix : winM (([[0, 1, 2, 3, 17], [5, 18, 9, 7, 15]] : List (List Int)).map valR) = [0] := by
  simp only [List.map_cons, List.map_nil, val_a, val_b]
  decide
theorem ok_fix : OkD ([[0, 1, 2, 3, 17], [5, 18, 9, 7, 15]] : List (List Int)).flatten := ⟨by decide, by decide, by decide⟩
/-- Two rows of integers, each in a block, and the row of both. -/
theorem rows2 {w : World} {g1 g2 h : Nat} {xs ys : List Int} {n m : Nat} (hn : xs.length = n) (hm : ys.length = m) (h1 : Blk w g1 3 (xs.map (Value.int .i64)).toArray) (h2 : Blk w g2 3 (ys.map (Value.int .i64)).toArray)
    (hh : Blk w h 23 #[.slice (some ⟨g1, 0, none⟩) n n, .slice (some ⟨g2, 0, none⟩) m m]) (hs : n ≤ 1000 ∧ m ≤ 1000) : RowsC w (.slice (some ⟨h, 0, none⟩) 2 2) [xs, ys] := by
  subst hn hm
  refine ⟨_, _, rfl, fun k hk => ?_⟩
  rcases (by simp at hk; omega : k = 0 ∨ k = 1) with rfl | rfl
  · exact ⟨h, 0, some ⟨g1, 0, none⟩, xs.length, rfl, by rw [hh.cell]; rfl, blk_intsS h1, Nat.le_refl _, by simp only [maxLen]; show xs.length ≤ _; omega⟩
  · exact ⟨h, 0, some ⟨g2, 0, none⟩, ys.length, rfl, by rw [hh.cell]; rfl, blk_intsS h2, Nat.le_refl _, by simp only [maxLen]; show ys.length ≤ _; omega⟩
theorem idxL_mem (M : Int) : ∀ (l : List Int) (i : Nat) (z : Int), z ∈ idxL M l i → (i : Int) ≤ z ∧ z < i + l.length
  | [], i, z, h => by simp [idxL] at h
  | v :: l, i, z, h => by
    unfold idxL at h
    rcases List.mem_append.1 h with h | h
    · split at h
      · have : z = i := by simpa using h
        simp; omega
      · simp at h
    · have := idxL_mem M l (i + 1) z h
      simp; omega
theorem idxL_len (M : Int) : ∀ (l : List Int) (i : Nat), (idxL M l i).length ≤ l.length
  | [], i => by simp [idxL]
  | v :: l, i => by
    unfold idxL
    have := idxL_len M l (i + 1)
    rw [List.length_append, List.length_cons]
    split <;> simp <;> omega
theorem winM_is (l : List Int) : winM l = idxL (maxL l (-1)) l 0 := by
  unfold winM
  rw [winF_is]
  split <;> rfl
/-- What is known of the two rows of winners. -/
def WinK (wl vl : List Int) : Prop := wl.length ≠ 0 ∧ vl.length = wl.length ∧ wl.length ≤ 4 ∧ ∀ k, k < wl.length → vl.getD (vl.length - 1 - k) 0 = 3 - wl.getD k 0 ∧ 0 ≤ wl.getD k 0 ∧ wl.getD k 0 ≤ 3
theorem winK_of (a b c d : List Int) : WinK (winM ([a, b, c, d].map valR)) (winM ([d, c, b, a].map valR)) := by
  have h := win_ok (valR a) (valR b) (valR c) (valR d) (valF_lt a (Nat.le_refl 5)).1 (valF_lt b (Nat.le_refl 5)).1 (valF_lt c (Nat.le_refl 5)).1 (valF_lt d (Nat.le_refl 5)).1
  simp only [List.map_cons, List.map_nil]
  unfold winOk at h
  simp only [Bool.and_eq_true, decide_eq_true_eq, List.all_eq_true, List.mem_range] at h
  refine ⟨h.1.1, h.1.2, ?_, fun k hk => ⟨h.2 k hk, ?_⟩⟩
  · rw [winM_is]; exact idxL_len _ _ _
  · have hm := getD_mem hk
    rw [winM_is] at hm ⊢
    have := idxL_mem _ _ _ _ hm
    simp only [List.length_cons, List.length_nil] at this
    omega
/-- The players while they seal: the first k have. -/
def SealK (L : List (List Int)) (q k : Nat) (ps : List PlM) : Prop := ps.length = q ∧ ∀ i, i < q → ∃ p, ps[i]? = some p ∧ p.op = false ∧ (i < k → p.so = true ∧ p.sl = sealM (L.getD i []) ((i : Int) + 7)) ∧ (k ≤ i → p.so = false)
/-- The players while they open: the first k have. -/
def OpenK (L : List (List Int)) (q k : Nat) (ps : List PlM) : Prop := ps.length = q ∧ ∀ i, i < q → ∃ p, ps[i]? = some p ∧ p.so = true ∧ (i < k → p.op = true ∧ p.dz = L.getD i []) ∧ (k ≤ i → p.op = false ∧ p.sl = sealM (L.getD i []) ((i : Int) + 7))
theorem sealK_zero (L : List (List Int)) (q : Nat) : SealK L q 0 (List.replicate q zeroPl) := ⟨by simp, fun i hi => ⟨zeroPl, by simp [hi], rfl, fun h => by omega, fun _ => rfl⟩⟩
theorem sealK_step {L : List (List Int)} {q k : Nat} {ps : List PlM} {p : PlM} {s : Int} (h : SealK L q k ps) (hp : ps[k]? = some p) (ho : p.op = false) (hs : s = sealM (L.getD k []) ((k : Int) + 7)) : SealK L q (k + 1) (ps.set k { p with so := true, sl := s }) := by
  have hk : k < ps.length := (List.getElem?_eq_some_iff.1 hp).1
  refine ⟨by rw [List.length_set]; exact h.1, fun i hi => ?_⟩
  rw [List.getElem?_set]
  by_cases e : k = i
  · subst e
    rw [if_pos rfl, if_pos hk]
    exact ⟨_, rfl, ho, fun _ => ⟨rfl, hs⟩, fun h => by omega⟩
  · rw [if_neg e]
    obtain ⟨p', h1, h2, h3, h4⟩ := h.2 i hi
    exact ⟨p', h1, h2, fun h => h3 (by omega), fun h => h4 (by omega)⟩
theorem sealK_done {L : List (List Int)} {q : Nat} {ps : List PlM} (h : SealK L q q ps) : OpenK L q 0 ps := ⟨h.1, fun i hi => by
  obtain ⟨p, h1, h2, h3, h4⟩ := h.2 i hi
  exact ⟨p, h1, (h3 hi).1, fun h => by omega, fun _ => ⟨h2, (h3 hi).2⟩⟩⟩
theorem openK_step {L : List (List Int)} {q k : Nat} {ps : List PlM} {p : PlM} {v : Value} (h : OpenK L q k ps) (hp : ps[k]? = some p) (ho : p.so = true) : OpenK L q (k + 1) (ps.set k { p with op := true, dv := v, dz := L.getD k [] }) := by
  have hk : k < ps.length := (List.getElem?_eq_some_iff.1 hp).1
  refine ⟨by rw [List.length_set]; exact h.1, fun i hi => ?_⟩
  rw [List.getElem?_set]
  by_cases e : k = i
  · subst e
    rw [if_pos rfl, if_pos hk]
    exact ⟨_, rfl, ho, fun _ => ⟨rfl, rfl⟩, fun h => by omega⟩
  · rw [if_neg e]
    obtain ⟨p', h1, h2, h3, h4⟩ := h.2 i hi
    exact ⟨p', h1, h2, fun h => h3 (by omega), fun h => h4 (by omega)⟩
theorem openK_so {L : List (List Int)} {q k : Nat} {ps : List PlM} (h : OpenK L q k ps) : ∀ p ∈ ps, p.so = true := fun p hp => by
  obtain ⟨i, hi, rfl⟩ := List.mem_iff_getElem.1 hp
  obtain ⟨p', h1, h2, -⟩ := h.2 i (by rw [← h.1]; exact hi)
  rw [List.getElem?_eq_getElem hi] at h1
  injection h1 with h1
  rw [h1]; exact h2
theorem openK_all {L : List (List Int)} {q : Nat} {ps : List PlM} (h : OpenK L q q ps) (hf : ∀ k, k < q → FitsL 52 (L.getD k [])) : ∀ p ∈ ps, p.op = true ∧ FitsL 52 p.dz := fun p hp => by
  obtain ⟨i, hi, rfl⟩ := List.mem_iff_getElem.1 hp
  obtain ⟨p', h1, h2, h3, -⟩ := h.2 i (by rw [← h.1]; exact hi)
  rw [List.getElem?_eq_getElem hi] at h1
  injection h1 with h1
  rw [h1, (h3 (by rw [← h.1]; exact hi)).2]
  exact ⟨(h3 (by rw [← h.1]; exact hi)).1, hf i (by rw [← h.1]; exact hi)⟩
theorem run_min4 (W : World) (ats : Array TypeId) (ty : TypeId) (a b : Int) : (Builtin.min_ ats ty #[.int .i64 a, .int .i64 b]).run Try.prog W = .ok (.int .i64 (min a b)) W := by
  have e : min a b = if b < a then b else a := by split <;> omega
  rw [e]
  simp [Builtin.min_, Builtin.min2]
/-- The four hands, as the walk hands them over. -/
def hands4 (zs : List Int) : List (List Int) := [dealt zs 20 0, dealt zs 20 1, dealt zs 20 2, dealt zs 20 3]
theorem hands_rows {w W : World} {h : Nat} {zs : List Int} {vs : List Value} (H : HandsAt w W h zs 20 vs) : RowsC W (.slice (some ⟨h, 0, none⟩) 4 4) (hands4 zs) := by
  obtain ⟨hb, h4, hO, -⟩ := H
  refine ⟨_, _, rfl, fun k hk => ?_⟩
  have hk4 : k < 4 := hk
  obtain ⟨B, d, e, o⟩ := hO k hk4
  have hc := cells_ints (own_cells o).1
  have hcap := own_cap o
  have hmx : d ≤ maxLen := by
    have hl5 := dealt20 (l := zs) k hk4
    rcases o.2 with ⟨e1, e2⟩ | ⟨g, cap, cur, e1, -, -, -, hm, -⟩
    · simp only [Value.slice.injEq] at e1
      omega
    · simp only [Value.slice.injEq, true_and] at e1
      rw [e1.2]; exact hm
  have eg : (hands4 zs).getD k [] = dealt zs 20 k := by
    rcases (by omega : k = 0 ∨ k = 1 ∨ k = 2 ∨ k = 3) with rfl | rfl | rfl | rfl <;> rfl
  have ec : W.cell? ⟨h, k, none⟩ = some (vs.getD k .nilIface) := by
    rw [hb.cell, List.getElem?_toArray]
    have : k < vs.length := by omega
    simp [List.getD_eq_getElem?_getD, this]
  exact ⟨h, 0, B, d, rfl, by rw [Nat.zero_add, ec, e, eg], by rw [eg]; exact hc, by rw [eg]; exact hcap, hmx⟩
theorem RowsC.ext9 {w W : World} {v : Value} {L : List (List Int)} (h : RowsC w v L) (x : Ext w W) : RowsC W v L := by
  obtain ⟨A, c, e, h⟩ := h
  refine ⟨A, c, e, fun k hk => ?_⟩
  obtain ⟨b, o, B, d, e1, e2, e3, e4⟩ := h k hk
  exact ⟨b, o, B, d, e1, x.cell e2, e3.ext x, e4⟩
theorem hands_five (zs : List Int) : ∀ l ∈ hands4 zs, l.length = 5 := by
  intro l hl
  simp only [hands4, List.mem_cons, List.not_mem_nil, or_false] at hl
  rcases hl with rfl | rfl | rfl | rfl
  · exact dealt20 0 (by omega)
  · exact dealt20 1 (by omega)
  · exact dealt20 2 (by omega)
  · exact dealt20 3 (by omega)
theorem hands_perm {zs : List Int} (h : zs.length = 52) : ((hands4 zs).flatten ++ zs.drop 20).Perm zs := deal_perm h
theorem wrapS {k n : Nat} (h : k < n) (hn : n ≤ 4) : wrap64 ((k : Int) + 1) = ((k + 1 : Nat) : Int) := by simp only [wrap64]; omega
theorem measS {k n : Nat} (h : k < n) (hn : n ≤ 4) : n - (intOf (.int .i64 (wrap64 ((k : Int) + 1)))).toNat < n - (intOf (.int .i64 (k : Int))).toNat := by
  rw [wrapS h hn]
  simp only [intOf]
  omega
theorem rows_rev4 {V : World} {h g : Nat} {t u : TypeId} {L0 L1 L2 L3 : List Int} {v0 v1 v2 v3 : Value} (R : RowsC V (.slice (some ⟨h, 0, none⟩) 4 4) [L0, L1, L2, L3]) (kh : Blk V h t #[v0, v1, v2, v3]) (kg : Blk V g u #[v3, v2, v1, v0]) :
    RowsC V (.slice (some ⟨g, 0, none⟩) 4 4) [L3, L2, L1, L0] := by
  obtain ⟨A, c, e, H⟩ := R
  simp only [Value.slice.injEq] at e
  refine ⟨_, _, rfl, fun k hk => ?_⟩
  have hk4 : k < 4 := hk
  obtain ⟨b, o, B, d, e1, e2, e3, e4⟩ := H (3 - k) (by show 3 - k < 4; omega)
  rw [← e.1] at e1
  simp only [Option.some.injEq, Addr.mk.injEq, and_true] at e1
  obtain ⟨rfl, rfl⟩ := e1
  rw [kh.cell] at e2
  refine ⟨g, 0, B, d, rfl, ?_, ?_⟩
  · rw [kg.cell]
    rcases (by omega : k = 0 ∨ k = 1 ∨ k = 2 ∨ k = 3) with rfl | rfl | rfl | rfl <;> exact e2
  · rcases (by omega : k = 0 ∨ k = 1 ∨ k = 2 ∨ k = 3) with rfl | rfl | rfl | rfl <;> exact ⟨e3, e4⟩
theorem rev_five (zs : List Int) : ∀ l ∈ ([dealt zs 20 3, dealt zs 20 2, dealt zs 20 1, dealt zs 20 0] : List (List Int)), l.length = 5 := by
  intro l hl
  refine hands_five zs l ?_
  simp only [hands4, List.mem_cons, List.not_mem_nil, or_false] at hl ⊢
  rcases hl with rfl | rfl | rfl | rfl <;> simp
theorem hands_ok {zs : List Int} (hl : zs.length = 52) (h : OkD zs) : OkD (hands4 zs).flatten := (h.perm (hands_perm hl)).sub (List.sublist_append_left _ _)
theorem rev_ok {zs : List Int} (hl : zs.length = 52) (h : OkD zs) : OkD ([dealt zs 20 3, dealt zs 20 2, dealt zs 20 1, dealt zs 20 0] : List (List Int)).flatten :=
  (hands_ok hl h).perm (List.Perm.flatten (List.reverse_perm (hands4 zs)))
set_option maxHeartbeats 8000000 in
set_option maxRecDepth 100000 in
theorem topDealt_walk (A : Option Addr) (n c : Nat) (L : List (List Int)) (w : World) (hL : IsRows w A n c L) :
    Calls Try.prog 4 #[.slice A n c] w fun e w' => e = .returned (.bool true) ∧ Ext w w' := by
  have HL := hide hL
  obtain ⟨xa, k1, k2, k3⟩ := blks3 w #[.int .i64 2, .int .i64 1] 3 #[.int .i64 2, .int .i64 1] 3 #[.slice (some ⟨w.heap.size, 0, none⟩) 2 2, .slice (some ⟨w.heap.size + 1, 0, none⟩) 2 2] 23
  have HCB := hide (Combine_any 3 [[2, 1], [2, 1]] (.slice (some ⟨w.heap.size + 1 + 1, 0, none⟩) 2 2) _ (rows2 (xs := [2, 1]) (ys := [2, 1]) rfl rfl k1 k2 k3 ⟨by decide, by decide⟩).at_ (by omega) (by omega) (by decide) fits_fix)
  rw [comb_fix] at HCB
  have XA := hide xa
  clear hL k1 k2 k3 xa
  go_enter Try.func4, Try.ntmps4
  go_wp2_with fail
  refine HCB.out.mono ?_
  rintro e w2 ⟨g, rfl, hrow, x2⟩
  have X2 := hide (ext_trans XA.out x2)
  have HI2 := hide hrow.ints
  clear x2 hrow XA HCB
  rw [show ([1, 0] : List Int).length = 2 from rfl]
  obtain ⟨xb, kb⟩ := blks1 w2 #[.int .i64 1, .int .i64 0] 3
  have HEQ := hide (eq_ext (c := 2) (d := 2) (xs := [1, 0]) (ys := [1, 0]) rfl rfl (by decide) (by decide) (HI2.out.ext xb) (blk_intsS (zs := [1, 0]) kb))
  rw [show decide (([1, 0] : List Int) = [1, 0]) = true from rfl] at HEQ
  have XB := hide (ext_trans X2.out xb)
  clear xb kb HI2 X2
  go_wp2_with fail
  refine HEQ.out.mono ?_
  rintro e w3 ⟨rfl, x3⟩
  have X3 := hide (ext_trans XB.out x3)
  clear x3 XB HEQ
  obtain ⟨xa, k1, k2, k3⟩ := blks3 w3 #[.int .i64 0, .int .i64 1, .int .i64 2, .int .i64 3, .int .i64 17] 3 #[.int .i64 5, .int .i64 18, .int .i64 9, .int .i64 7, .int .i64 15] 3 #[.slice (some ⟨w3.heap.size, 0, none⟩) 5 5, .slice (some ⟨w3.heap.size + 1, 0, none⟩) 5 5] 23
  have HWN := hide (Winners_any (.slice (some ⟨w3.heap.size + 1 + 1, 0, none⟩) 2 2) [[0, 1, 2, 3, 17], [5, 18, 9, 7, 15]] _ (rows2 (xs := [0, 1, 2, 3, 17]) (ys := [5, 18, 9, 7, 15]) rfl rfl k1 k2 k3 ⟨by decide, by decide⟩) (by decide) (by decide) (by decide) ok_fix)
  rw [win_fix] at HWN
  have XA := hide (ext_trans X3.out xa)
  clear k1 k2 k3 xa X3
  go_wp2_with fail
  refine HWN.out.mono ?_
  rintro e w4 ⟨u4, rfl, o4, x4⟩
  obtain ⟨A4, c4, rfl, hz4⟩ := o4.ints
  have X4 := hide (ext_trans XA.out x4)
  rw [show ([0] : List Int).length = 1 from rfl]
  obtain ⟨xb, kb⟩ := blks1 w4 #[.int .i64 0] 3
  have HEQ := hide (eq_ext (c := c4) (d := 1) (xs := [0]) (ys := [0]) rfl rfl (by decide) (by decide) (hz4.ext xb) (blk_intsS (zs := [0]) kb))
  rw [show decide (([0] : List Int) = [0]) = true from rfl] at HEQ
  have XB := hide (ext_trans X4.out xb)
  clear xb kb hz4 o4 x4 XA X4 HWN
  go_wp2_with fail
  refine HEQ.out.mono ?_
  rintro e w5 ⟨rfl, x5⟩
  have X5 := hide (ext_trans XB.out x5)
  clear x5 XB HEQ
  have hnle : n ≤ c := HL.out.2.1
  have hcm : c ≤ 9223372036854775807 := by have := HL.out.2.2.1; simp only [maxLen] at this; omega
  obtain ⟨q, hq⟩ : ∃ q : Nat, min (n : Int) 4 = (q : Int) := ⟨min n 4, by omega⟩
  have hmin : ∀ W ats ty, (Builtin.min_ ats ty #[.int .i64 (n : Int), .int .i64 4]).run Try.prog W = .ok (.int .i64 (q : Int)) W := fun W ats ty => by rw [← hq]; exact run_min4 W ats ty n 4
  have hqn : q ≤ n := by omega
  have hq4 : q ≤ 4 := by omega
  have HQQ := hide (And.intro hqn hq4)
  have q0i : (0 : Int) ≤ (q : Int) := by omega
  have qci : (q : Int) ≤ (c : Int) := by omega
  have qc : q ≤ c := by omega
  by_cases hn0 : n = 0
  · obtain rfl : q = 0 := by omega
    clear hq hqn hq4 hn0
    rcases A with _ | ⟨b, o, sp⟩
    · obtain rfl : c = 0 := HL.out.2.2.2.1 rfl
      go_wp2
      go_ret
      exact ⟨rfl, X5.out⟩
    · go_wp2
      go_ret
      exact ⟨rfl, X5.out⟩
  · have hqp : 1 ≤ q := by omega
    obtain ⟨b, o, B0, d0, rfl, -, -, -⟩ := HL.out.2.2.2.2 0 (by omega)
    have HLQ := hide (HL.out.take hqn)
    have HQ14 := hide (And.intro hqp hq4)
    have HHR := hide (fun W (x : Ext w W) => has_rows (some ⟨b, o, none⟩) q c (L.take q) W (HLQ.out.ext x) hq4)
    have tq : ((q : Int) == 0) = false := beq_eq_false_iff_ne.2 (by omega)
    have tq2 : ¬ (q = 0) := by omega
    clear hq hqn hq4 hqp hn0
    go_wp2_with fail
    refine (HHR.out _ X5.out).mono ?_
    rintro e w6 ⟨bb, rfl, hbf, x6⟩
    have X6 := hide (ext_trans X5.out x6)
    have HBF := hide hbf
    clear x6 X5 HHR hbf hmin
    cases bb
    · replace HBF := hide (HBF.out rfl)
      generalize hLQ : L.take q = Lq at *
      clear hLQ
      have HTN := hide (TNew_ok q HQ14.out.1 HQ14.out.2 w6)
      go_wp2_with fail
      refine HTN.out.mono ?_
      rintro e w7 ⟨BT, g, rfl, hT⟩
      have HT := hide hT
      clear hT HTN
      trace "MARKTRACE"
      go_wp2
      go_loopw [9, 10, 85] (fun _ _ i ws => ∃ (k : Nat) (ps : List PlM), k ≤ q ∧ i = .int .i64 k ∧ TabAt w6 ws BT g ps ∧ Hid (SealK Lq q k ps)) (fun _ _ i _ => q - (intOf i).toNat)
      case atStart => exact ⟨0, _, by omega, rfl, HT.out, hide (sealK_zero Lq q)⟩
      case round =>
        obtain ⟨k, ps, hk, rfl, hT, hS⟩ := hrel
        by_cases hlt : k < q
        · obtain ⟨b1, o1, B, d, e1, hc, hz, hm⟩ := HLQ.out.2.2.2.2 k hlt
          simp only [Option.some.injEq, Addr.mk.injEq, and_true] at e1
          obtain ⟨rfl, rfl⟩ := e1
          have XW := hide (ext_trans X6.out hT.2.2.2.1)
          have hc1 := XW.out.cell hc
          obtain ⟨p, hp, hop, -, hso⟩ := hS.out.2 k hlt
          have hf := HBF.out k hlt
          have hl51 : (Lq.getD k []).length = 51 := by have := hf.1; omega
          have HSE := hide (Seal_any B (Lq.getD k []).length d (Lq.getD k []) ((k : Int) + 7) wr rfl (by omega) (hz.ext XW.out))
          have HCM := hide (fun W (x : Ext wr W) (s : Int) => Commit_ok (hT.ext x) k p hp (hso (Nat.le_refl k)) hop s)
          have HST := hide (fun (s : Int) (hs : s = sealM (Lq.getD k []) ((k : Int) + 7)) => sealK_step hS.out hp hop hs)
          have HK := hide hlt
          have i1 : (k : Int) < (q : Int) := by omega
          have i0 : (0 : Int) ≤ (k : Int) := by omega
          have hw7 : IntKind.i64.wrap ((k : Int) + 7) = (k : Int) + 7 := by rw [IntKind.wrap_i64]; have := HQ14.out.2; omega
          clear hT hS hlt hk hc hz hm hp hop hso hf hl51
          generalize sealM (Lq.getD k []) ((k : Int) + 7) = sv at *
          generalize Lq.getD k [] = ds at *
          go_wp2_with fail
          refine HSE.out.mono ?_
          rintro e w8 ⟨rfl, x8⟩
          have HCM2 := hide (HCM.out _ x8 sv)
          clear hc1 x8 HSE HCM
          go_wp2_with fail
          refine HCM2.out.mono ?_
          rintro e w9 ⟨rfl, hT9⟩
          have HT9 := hide hT9
          clear hT9 HCM2
          go_wp2
          go_roundw
          case rel => exact ⟨k + 1, _, HK.out, by go_num, HT9.out, hide (HST.out sv rfl)⟩
          case measure => have := HK.out; simp only [intOf, wrap64]; omega
        · obtain rfl : q = k := by omega
          have HT1 := hide hT
          have HS1 := hide (sealK_done hS.out)
          clear hT hS hlt hk
          generalize wr = wa at *
          go_wp2
          go_loopw [11, 12, 13, 14, 101] (fun _ _ _ _ i ws => ∃ (k : Nat) (ps : List PlM), k ≤ q ∧ i = .int .i64 k ∧ TabAt w6 ws BT g ps ∧ Hid (OpenK Lq q k ps)) (fun _ _ _ _ i _ => q - (intOf i).toNat)
          case atStart => exact ⟨0, _, by omega, rfl, HT1.out, HS1⟩
          case round =>
            obtain ⟨k, ps, hk, rfl, hT, hS⟩ := hrel
            by_cases hlt : k < q
            · obtain ⟨b1, o1, B, d, e1, hc, hz, hm⟩ := HLQ.out.2.2.2.2 k hlt
              simp only [Option.some.injEq, Addr.mk.injEq, and_true] at e1
              obtain ⟨rfl, rfl⟩ := e1
              have XW := hide (ext_trans X6.out hT.2.2.2.1)
              have hc1 := XW.out.cell hc
              obtain ⟨p, hp, hso, -, hop⟩ := hS.out.2 k hlt
              obtain ⟨hop1, hop2⟩ := hop (Nat.le_refl k)
              have HOP := hide (Open_ok hT k p hp (openK_so hS.out) hop1 B d (Lq.getD k []) ((k : Int) + 7) (hz.ext XW.out) (HBF.out k hlt) hop2)
              have HST := hide (fun v => openK_step (v := v) hS.out hp hso)
              have HK := hide hlt
              have i1 : (k : Int) < (q : Int) := by omega
              have i0 : (0 : Int) ≤ (k : Int) := by omega
              have hw7 : IntKind.i64.wrap ((k : Int) + 7) = (k : Int) + 7 := by rw [IntKind.wrap_i64]; have := HQ14.out.2; omega
              clear hT hS hlt hk hc hz hm hp hso hop hop1 hop2
              generalize Lq.getD k [] = ds at *
              go_wp2_with fail
              refine HOP.out.mono ?_
              rintro e w9 ⟨rfl, v9, hT9⟩
              have HT9 := hide hT9
              clear hT9 HOP hc1
              go_wp2
              go_roundw
              case rel => exact ⟨k + 1, _, HK.out, by go_num, HT9.out, hide (HST.out v9)⟩
              case measure => have := HK.out; simp only [intOf, wrap64]; omega
            · obtain rfl : q = k := by omega
              have XW := hide (ext_trans X6.out hT.2.2.2.1)
              have hall := openK_all hS.out HBF.out
              have HDK := hide (Deck_ok hT (openK_so hS.out) (fun p hp => (hall p hp).1) (fun p hp => (hall p hp).2))
              clear hT hS hlt hk hall HT1 HS1
              generalize wr = wb at *
              go_wp2_with fail
              refine HDK.out.mono ?_
              rintro e w10 ⟨A10, c10, zs, rfl, hz10, hp10, hc10, hcm10, x10⟩
              have hl10 : zs.length = 52 := by rw [hp10.length_eq, freshL_len]
              have hokz : OkD zs := okD_fresh.perm hp10
              have HDL := hide (Deal_any A10 c10 zs w10 hl10 hc10 hcm10 hz10 hokz)
              have X10 := hide (ext_trans XW.out x10)
              have HZP := hide (And.intro hl10 (And.intro hokz hp10))
              clear hz10 hp10 hc10 hcm10 x10 hl10 hokz HDK XW
              go_wp2_with fail
              refine HDL.out.mono ?_
              rintro e w11 ⟨hb, vs, A11, c11, rfl, hH, hR⟩
              have HH := hide hH
              have HR := hide hR
              have X11 := hide (ext_trans X10.out hH.2.2.2.2.1)
              clear hH hR X10 HDL
              obtain ⟨xe, ke⟩ := blks1 w11 #[.int .i64 0, .int .i64 0] 31
              have HF := hide (fine_extS (fineS_any (some ⟨w11.heap.size, 0, none⟩) 2 2 [0, 0] _ rfl (by omega) (blk_intsS ke)))
              have XE := hide (ext_trans X11.out xe)
              have xE := hide xe
              rw [show allZeroS [0, 0] = true from rfl] at HF
              clear xe ke
              go_wp2_with fail
              refine HF.out.mono ?_
              rintro e w12 ⟨rfl, x12⟩
              have x1112 := hide (ext_trans xE.out x12)
              have X12 := hide (ext_trans X11.out x1112.out)
              have HRC := hide ((hands_rows HH.out).ext9 x1112.out)
              have HFL : Hid ((hands4 zs).flatten.length = 20) := hide (by have := (hands_perm HZP.out.1).length_eq; rw [List.length_append, List.length_drop, HZP.out.1] at this; omega)
              have HCN := hide (Concat_any _ (hands4 zs) w12 HRC.out.at_ (by simp [hands4]) (by rw [HFL.out]; omega))
              clear x12 XE xE HF X11
              go_wp2_with fail
              refine HCN.out.mono ?_
              rintro e w13 ⟨v13, rfl, o13, x13⟩
              obtain ⟨A13, c13, rfl, hz13⟩ := o13.ints
              rw [HFL.out]
              obtain ⟨xr, kr⟩ := blks1 w13 #[.slice A13 20 c13, .slice A11 32 c11] 23
              have hl32 : (zs.drop 20).length = 32 := by rw [List.length_drop, HZP.out.1]
              have HRW : Hid (RowsAt (w13.alloc (.cells #[.slice A13 20 c13, .slice A11 32 c11] 23)) (.slice (some ⟨w13.heap.size, 0, none⟩) 2 2) [(hands4 zs).flatten, zs.drop 20]) := hide ⟨_, _, rfl, fun k hk => by
                rcases (by simp at hk; omega : k = 0 ∨ k = 1) with rfl | rfl
                · exact ⟨_, 0, A13, c13, rfl, by rw [kr.cell]; simp [HFL.out], hz13.ext xr⟩
                · exact ⟨_, 0, A11, c11, rfl, by rw [kr.cell]; simp [hl32], (HR.out.ext (ext_trans x1112.out x13)).ext xr⟩⟩
              have HPM : Hid (((hands4 zs).flatten ++ zs.drop 20).Perm (freshL 52)) := hide ((hands_perm HZP.out.1).trans HZP.out.2.2)
              have HCN2 := hide (Concat_any _ [(hands4 zs).flatten, zs.drop 20] _ HRW.out (by simp) (by simp [HFL.out, hl32]))
              rw [show ([(hands4 zs).flatten, zs.drop 20] : List (List Int)).flatten = (hands4 zs).flatten ++ zs.drop 20 by simp] at HCN2
              have X13 := hide (ext_trans (ext_trans X12.out x13) xr)
              have x1213 := hide (ext_trans x13 xr)
              clear o13 x13 hz13 xr kr HRW hl32 HCN HFL
              go_wp2_with fail
              refine HCN2.out.mono ?_
              rintro e w14 ⟨v14, rfl, o14, x14⟩
              have hl14 : ((hands4 zs).flatten ++ zs.drop 20).length = 52 := by rw [HPM.out.length_eq, freshL_len]
              have h014 : ((hands4 zs).flatten ++ zs.drop 20) ≠ [] := fun h => by rw [h] at hl14; simp at hl14
              obtain ⟨g14, c14, rfl⟩ := o14.some_blk h014
              have HSO := hide (sort_ints o14 x14 h014 (by rw [hl14]; omega))
              rw [show sortI ((hands4 zs).flatten ++ zs.drop 20) = freshL 52 from sort_fresh HPM.out] at HSO
              rw [hl14] at HSO ⊢
              clear o14 x14 h014 hl14 HCN2 HPM
              go_wp2_with fail
              refine HSO.out.mono ?_
              rintro e w15 ⟨rfl, o15, x15⟩
              have X15 := hide (ext_trans X13.out x15)
              have x1215 := hide (ext_trans x1213 x15)
              obtain ⟨A15, c15, e15, hz15⟩ := o15.ints
              rw [freshL_len] at e15
              simp only [Value.slice.injEq, true_and] at e15
              obtain ⟨rfl, rfl⟩ := e15
              have HZ15 := hide hz15
              have HFA := hide (Fresh_any w15)
              clear o15 x15 hz15 HSO X13 x1213
              go_wp2_with fail
              refine HFA.out.mono ?_
              rintro e w16 ⟨v16, rfl, o16, x16⟩
              obtain ⟨A16, c16, rfl, hz16⟩ := o16.ints
              rw [freshL_len]
              have HZ16 := hide hz16
              have X16 := hide (ext_trans X15.out x16)
              have HZ156 := hide (HZ15.out.ext x16)
              obtain ⟨wl, hwl⟩ : ∃ l, l = winM ((hands4 zs).map valR) := ⟨_, rfl⟩
              obtain ⟨vl, hvl⟩ : ∃ l, l = winM (([dealt zs 20 3, dealt zs 20 2, dealt zs 20 1, dealt zs 20 0] : List (List Int)).map valR) := ⟨_, rfl⟩
              have WK : Hid (WinK wl vl) := hide (by rw [hwl, hvl]; exact winK_of _ _ _ _)
              have HWN := hide (Winners_any _ (hands4 zs) w16 (HRC.out.ext9 (ext_trans x1215.out x16)) (by simp [hands4]) (by simp [hands4]) (hands_five zs) (hands_ok HZP.out.1 HZP.out.2.1))
              rw [← hwl] at HWN
              have x1216 := hide (ext_trans x1215.out x16)
              clear o16 x16 hz16 HFA X15 x1215 hwl HZ15
              go_wp2_with fail
              refine HWN.out.mono ?_
              rintro e w17 ⟨v17, rfl, o17, x17⟩
              obtain ⟨A17, c17, rfl, hz17⟩ := o17.ints
              obtain ⟨nW, hnW⟩ : ∃ n, n = wl.length := ⟨_, rfl⟩
              have hnV : vl.length = nW := by rw [hnW]; exact WK.out.2.1
              rw [← hnW]
              have HN := hide (And.intro hnW hnV)
              have HZ17 := hide hz17
              have X17 := hide (ext_trans X16.out x17)
              have x1617 := hide x17
              have HKH9 : Hid (Blk w17 hb 23 vs.toArray) := hide ((HH.out.1.ext (ext_trans x1112.out x1216.out)).ext x17)
              have HV9 := hide HH.out.2.2.1
              obtain ⟨v0, v1, v2, v3, hvs⟩ : ∃ a b c d, vs = [a, b, c, d] := by
                have h4 := HH.out.2.1
                match vs, h4 with
                | [a, b, c, d], _ => exact ⟨a, b, c, d, rfl⟩
              rw [hvs] at HKH9 HV9
              have HWR := hide (fun W (x : Ext w17 W) (g : Nat) (k : Blk W g 23 #[v3, v2, v1, v0]) => Winners_any (.slice (some ⟨g, 0, none⟩) 4 4) [dealt zs 20 3, dealt zs 20 2, dealt zs 20 1, dealt zs 20 0] W (rows_rev4 ((HRC.out.ext9 x1216.out).ext9 (ext_trans x17 x)) (HKH9.out.ext x) k) (by simp) (by simp) (rev_five zs) (rev_ok HZP.out.1 HZP.out.2.1))
              rw [← hvl] at HWR
              obtain ⟨B0, d0, e0, -⟩ := HV9.out 0 (by omega)
              obtain ⟨B1, d1, e1, -⟩ := HV9.out 1 (by omega)
              obtain ⟨B2, d2, e2, -⟩ := HV9.out 2 (by omega)
              obtain ⟨B3, d3, e3, -⟩ := HV9.out 3 (by omega)
              rw [dealt20 0 (by omega)] at e0
              rw [dealt20 1 (by omega)] at e1
              rw [dealt20 2 (by omega)] at e2
              rw [dealt20 3 (by omega)] at e3
              simp only [List.getD_cons_zero, List.getD_cons_succ] at e0 e1 e2 e3
              subst e0 e1 e2 e3
              have HKH : Hid (Blk w17 hb 23 #[.slice B0 5 d0, .slice B1 5 d1, .slice B2 5 d2, .slice B3 5 d3]) := hide HKH9.out
              clear o17 x17 hz17 hnW hnV hvl HWN X16 x1216 HKH9 HV9 hvs HH x1112 HRC HZP
              go_wp2_with fail
              have keepK := hide (fun W (h : Ext w17 W) => (show (fun W => W.cell? ⟨hb, 0, none⟩ = some (.slice B0 5 d0) ∧ W.cell? ⟨hb, 1, none⟩ = some (.slice B1 5 d1) ∧ W.cell? ⟨hb, 2, none⟩ = some (.slice B2 5 d2) ∧ W.cell? ⟨hb, 3, none⟩ = some (.slice B3 5 d3) ∧ Ext w17 W) W from ⟨(HKH.out.ext h).cell 0, (HKH.out.ext h).cell 1, (HKH.out.ext h).cell 2, (HKH.out.ext h).cell 3, h⟩))
              have yy : Ext w17 w17.drew := Below.drew (Below.refl _ _)
              refine region_K (fun W => W.cell? ⟨hb, 0, none⟩ = some (.slice B0 5 d0) ∧ W.cell? ⟨hb, 1, none⟩ = some (.slice B1 5 d1) ∧ W.cell? ⟨hb, 2, none⟩ = some (.slice B2 5 d2) ∧ W.cell? ⟨hb, 3, none⟩ = some (.slice B3 5 d3) ∧ Ext w17 W) (fun _ => True) [] (by kernel_rfl) ?_
              have hT0 := keepK.out _ yy
              refine anyK_take 0 (oi := ?oo1) ?ho1 (by kernel_rfl) (by kernel_rfl) (by kernel_rfl) (by kernel_rfl) ?hq1 ?hw1 hT0 (fun _ => trivial) (v := ?vv1) ?hy1 ?hk1
              case ho1 => (simp only [List.getElem?_toArray, List.getElem?_cons_succ, List.getElem?_cons_zero]; rfl)
              case hq1 => exact fun _ _ _ h => h
              case hw1 => rfl
              case hy1 =>
                intro W hW
                go_simp
                first | done | with_reducible rfl
              case hk1 =>
              try simp only [Act.put, List.setIfInBounds_toArray, List.set_cons_zero, List.set_cons_succ]
              refine anyK_take 1 (oi := ?oo2) ?ho2 (by kernel_rfl) (by kernel_rfl) (by kernel_rfl) (by kernel_rfl) ?hq2 ?hw2 hT0 (fun _ => trivial) (v := ?vv2) ?hy2 ?hk2
              case ho2 => (simp only [List.getElem?_toArray, List.getElem?_cons_succ, List.getElem?_cons_zero]; rfl)
              case hq2 => exact fun _ _ _ h => h
              case hw2 => rfl
              case hy2 =>
                intro W hW
                go_simp
                first | done | with_reducible rfl
              case hk2 =>
              try simp only [Act.put, List.setIfInBounds_toArray, List.set_cons_zero, List.set_cons_succ]
              refine anyK_take 2 (oi := ?oo3) ?ho3 (by kernel_rfl) (by kernel_rfl) (by kernel_rfl) (by kernel_rfl) ?hq3 ?hw3 hT0 (fun _ => trivial) (v := ?vv3) ?hy3 ?hk3
              case ho3 => (simp only [List.getElem?_toArray, List.getElem?_cons_succ, List.getElem?_cons_zero]; rfl)
              case hq3 => exact fun _ _ _ h => h
              case hw3 => rfl
              case hy3 =>
                intro W hW
                obtain ⟨z0, z1, z2, z3, z4⟩ := hW
                go_simp
                first | done | with_reducible rfl
              case hk3 =>
              try simp only [Act.put, List.setIfInBounds_toArray, List.set_cons_zero, List.set_cons_succ]
              refine anyK_take 3 (oi := ?oo4) ?ho4 (by kernel_rfl) (by kernel_rfl) (by kernel_rfl) (by kernel_rfl) ?hq4 ?hw4 hT0 (fun _ => trivial) (v := ?vv4) ?hy4 ?hk4
              case ho4 => (simp only [List.getElem?_toArray, List.getElem?_cons_succ, List.getElem?_cons_zero]; rfl)
              case hq4 => exact fun _ _ _ h => h
              case hw4 => rfl
              case hy4 =>
                intro W hW
                go_simp
                first | done | with_reducible rfl
              case hk4 =>
              try simp only [Act.put, List.setIfInBounds_toArray, List.set_cons_zero, List.set_cons_succ]
              refine anyK_take 4 (oi := ?oo5) ?ho5 (by kernel_rfl) (by kernel_rfl) (by kernel_rfl) (by kernel_rfl) ?hq5 ?hw5 hT0 (fun _ => trivial) (v := ?vv5) ?hy5 ?hk5
              case ho5 => (simp only [List.getElem?_toArray, List.getElem?_cons_succ, List.getElem?_cons_zero]; rfl)
              case hq5 => exact fun _ _ _ h => h
              case hw5 => rfl
              case hy5 =>
                intro W hW
                go_simp
                first | done | with_reducible rfl
              case hk5 =>
              try simp only [Act.put, List.setIfInBounds_toArray, List.set_cons_zero, List.set_cons_succ]
              refine anyK_take 5 (oi := ?oo6) ?ho6 (by kernel_rfl) (by kernel_rfl) (by kernel_rfl) (by kernel_rfl) ?hq6 ?hw6 hT0 (fun _ => trivial) (v := ?vv6) ?hy6 ?hk6
              case ho6 => (simp only [List.getElem?_toArray, List.getElem?_cons_succ, List.getElem?_cons_zero]; rfl)
              case hq6 => exact fun _ _ _ h => h
              case hw6 => rfl
              case hy6 =>
                intro W hW
                obtain ⟨z0, z1, z2, z3, z4⟩ := hW
                go_simp
                first | done | with_reducible rfl
              case hk6 =>
              try simp only [Act.put, List.setIfInBounds_toArray, List.set_cons_zero, List.set_cons_succ]
              refine anyK_take 6 (oi := ?oo7) ?ho7 (by kernel_rfl) (by kernel_rfl) (by kernel_rfl) (by kernel_rfl) ?hq7 ?hw7 hT0 (fun _ => trivial) (v := ?vv7) ?hy7 ?hk7
              case ho7 => (simp only [List.getElem?_toArray, List.getElem?_cons_succ, List.getElem?_cons_zero]; rfl)
              case hq7 => exact fun _ _ _ h => h
              case hw7 => rfl
              case hy7 =>
                intro W hW
                go_simp
                first | done | with_reducible rfl
              case hk7 =>
              try simp only [Act.put, List.setIfInBounds_toArray, List.set_cons_zero, List.set_cons_succ]
              refine anyK_take 7 (oi := ?oo8) ?ho8 (by kernel_rfl) (by kernel_rfl) (by kernel_rfl) (by kernel_rfl) ?hq8 ?hw8 hT0 (fun _ => trivial) (v := ?vv8) ?hy8 ?hk8
              case ho8 => (simp only [List.getElem?_toArray, List.getElem?_cons_succ, List.getElem?_cons_zero]; rfl)
              case hq8 => exact fun _ _ _ h => h
              case hw8 => rfl
              case hy8 =>
                intro W hW
                go_simp
                first | done | with_reducible rfl
              case hk8 =>
              try simp only [Act.put, List.setIfInBounds_toArray, List.set_cons_zero, List.set_cons_succ]
              refine anyK_take 8 (oi := ?oo9) ?ho9 (by kernel_rfl) (by kernel_rfl) (by kernel_rfl) (by kernel_rfl) ?hq9 ?hw9 hT0 (fun _ => trivial) (v := ?vv9) ?hy9 ?hk9
              case ho9 => (simp only [List.getElem?_toArray, List.getElem?_cons_succ, List.getElem?_cons_zero]; rfl)
              case hq9 => exact fun _ _ _ h => h
              case hw9 => rfl
              case hy9 =>
                intro W hW
                obtain ⟨z0, z1, z2, z3, z4⟩ := hW
                go_simp
                first | done | with_reducible rfl
              case hk9 =>
              try simp only [Act.put, List.setIfInBounds_toArray, List.set_cons_zero, List.set_cons_succ]
              refine anyK_take 9 (oi := ?oo10) ?ho10 (by kernel_rfl) (by kernel_rfl) (by kernel_rfl) (by kernel_rfl) ?hq10 ?hw10 hT0 (fun _ => trivial) (v := ?vv10) ?hy10 ?hk10
              case ho10 => (simp only [List.getElem?_toArray, List.getElem?_cons_succ, List.getElem?_cons_zero]; rfl)
              case hq10 => exact fun _ _ _ h => h
              case hw10 => rfl
              case hy10 =>
                intro W hW
                go_simp
                first | done | with_reducible rfl
              case hk10 =>
              try simp only [Act.put, List.setIfInBounds_toArray, List.set_cons_zero, List.set_cons_succ]
              refine anyK_take 10 (oi := ?oo11) ?ho11 (by kernel_rfl) (by kernel_rfl) (by kernel_rfl) (by kernel_rfl) ?hq11 ?hw11 hT0 (fun _ => trivial) (v := ?vv11) ?hy11 ?hk11
              case ho11 => (simp only [List.getElem?_toArray, List.getElem?_cons_succ, List.getElem?_cons_zero]; rfl)
              case hq11 => exact fun _ _ _ h => h
              case hw11 => rfl
              case hy11 =>
                intro W hW
                go_simp
                first | done | with_reducible rfl
              case hk11 =>
              try simp only [Act.put, List.setIfInBounds_toArray, List.set_cons_zero, List.set_cons_succ]
              refine anyK_take 11 (oi := ?oo12) ?ho12 (by kernel_rfl) (by kernel_rfl) (by kernel_rfl) (by kernel_rfl) ?hq12 ?hw12 hT0 (fun _ => trivial) (v := ?vv12) ?hy12 ?hk12
              case ho12 => (simp only [List.getElem?_toArray, List.getElem?_cons_succ, List.getElem?_cons_zero]; rfl)
              case hq12 => exact fun _ _ _ h => h
              case hw12 => rfl
              case hy12 =>
                intro W hW
                obtain ⟨z0, z1, z2, z3, z4⟩ := hW
                go_simp
                first | done | with_reducible rfl
              case hk12 =>
              try simp only [Act.put, List.setIfInBounds_toArray, List.set_cons_zero, List.set_cons_succ]
              refine anyK_on1 12 (by kernel_rfl) ?_
              refine anyK_one 12 (o := ?oo13) ?ho13 ?hk13
              case ho13 => (simp only [List.getElem?_toArray, List.getElem?_cons_succ, List.getElem?_cons_zero]; rfl)
              case hk13 =>
              intro K hK
              go_simp
              replace yy := ext_alloc yy (.cells #[.slice B3 5 d3, .slice B2 5 d2, .slice B1 5 d1, .slice B0 5 d0] 23)
              have hT1 := keepK.out _ yy
              refine hK.out _ _ hT1 (fun _ => trivial) ?_
              clear hK K
              try simp only [Act.put, List.setIfInBounds_toArray, List.set_cons_zero, List.set_cons_succ]
              refine anyK_on1 13 (by kernel_rfl) ?_
              refine anyK_one 13 (o := ?oo14) ?ho14 ?hk14
              case ho14 => (simp only [List.getElem?_toArray, List.getElem?_cons_succ, List.getElem?_cons_zero]; rfl)
              case hk14 =>
              intro K hK
              go_simp
              refine (HWR.out _ yy _ (blks1 _ _ _).2).mono ?_
              rintro e w18 ⟨v18, rfl, o18, xx⟩
              try go_wp2_with fail
              replace yy := ext_trans yy xx
              obtain ⟨A18, c18, rfl, hz18⟩ := o18.ints
              rw [HN.out.2]
              have HZ18 := hide hz18
              clear o18 hz18
              have hT2 := keepK.out _ yy
              refine hK.out _ _ hT2 (fun _ => trivial) ?_
              clear hK K
              try simp only [Act.put, List.setIfInBounds_toArray, List.set_cons_zero, List.set_cons_succ]
              refine anyK_take 14 (oi := ?oo15) ?ho15 (by kernel_rfl) (by kernel_rfl) (by kernel_rfl) (by kernel_rfl) ?hq15 ?hw15 hT2 (fun _ => trivial) (v := ?vv15) ?hy15 ?hk15
              case ho15 => (simp only [List.getElem?_toArray, List.getElem?_cons_succ, List.getElem?_cons_zero]; rfl)
              case hq15 => exact fun _ _ _ h => h
              case hw15 => rfl
              case hy15 =>
                intro W hW
                go_simp
                first | done | with_reducible rfl
              case hk15 =>
              try simp only [Act.put, List.setIfInBounds_toArray, List.set_cons_zero, List.set_cons_succ]
              refine anyK_take 15 (oi := ?oo16) ?ho16 (by kernel_rfl) (by kernel_rfl) (by kernel_rfl) (by kernel_rfl) ?hq16 ?hw16 hT2 (fun _ => trivial) (v := ?vv16) ?hy16 ?hk16
              case ho16 => (simp only [List.getElem?_toArray, List.getElem?_cons_succ, List.getElem?_cons_zero]; rfl)
              case hq16 => exact fun _ _ _ h => h
              case hw16 => rfl
              case hy16 =>
                intro W hW
                go_simp
                first | done | with_reducible rfl
              case hk16 =>
              try simp only [Act.put, List.setIfInBounds_toArray, List.set_cons_zero, List.set_cons_succ]
              refine anyK_take 16 (oi := ?oo17) ?ho17 (by kernel_rfl) (by kernel_rfl) (by kernel_rfl) (by kernel_rfl) ?hq17 ?hw17 hT2 (fun _ => trivial) (v := ?vv17) ?hy17 ?hk17
              case ho17 => (simp only [List.getElem?_toArray, List.getElem?_cons_succ, List.getElem?_cons_zero]; rfl)
              case hq17 => exact fun _ _ _ h => h
              case hw17 => rfl
              case hy17 =>
                intro W hW
                go_simp
                first | done | with_reducible rfl
              case hk17 =>
              try simp only [Act.put, List.setIfInBounds_toArray, List.set_cons_zero, List.set_cons_succ]
              refine anyK_take 17 (oi := ?oo18) ?ho18 (by kernel_rfl) (by kernel_rfl) (by kernel_rfl) (by kernel_rfl) ?hq18 ?hw18 hT2 (fun _ => trivial) (v := ?vv18) ?hy18 ?hk18
              case ho18 => (simp only [List.getElem?_toArray, List.getElem?_cons_succ, List.getElem?_cons_zero]; rfl)
              case hq18 => exact fun _ _ _ h => h
              case hw18 => rfl
              case hy18 =>
                intro W hW
                go_simp
                first | done | with_reducible rfl
              case hk18 =>
              try simp only [Act.put, List.setIfInBounds_toArray, List.set_cons_zero, List.set_cons_succ]
              refine anyK_take 18 (oi := ?oo19) ?ho19 (by kernel_rfl) (by kernel_rfl) (by kernel_rfl) (by kernel_rfl) ?hq19 ?hw19 hT2 (fun _ => trivial) (v := ?vv19) ?hy19 ?hk19
              case ho19 => (simp only [List.getElem?_toArray, List.getElem?_cons_succ, List.getElem?_cons_zero]; rfl)
              case hq19 => exact fun _ _ _ h => h
              case hw19 => rfl
              case hy19 =>
                intro W hW
                go_simp
                first | done | with_reducible rfl
              case hk19 =>
              try simp only [Act.put, List.setIfInBounds_toArray, List.set_cons_zero, List.set_cons_succ]
              refine anyK_done (by kernel_rfl) ?_ _
              clear keepK hT0 hT1 hT2
              have x1718 := hide yy
              obtain ⟨xe, ke⟩ := blks1 w18 #[.int .i64 0, .int .i64 0, .int .i64 0] 31
              have HF := hide (fine_extS (fineS_any (some ⟨w18.heap.size, 0, none⟩) 3 3 [0, 0, 0] _ rfl (by omega) (blk_intsS ke)))
              have xE := hide xe
              rw [show allZeroS [0, 0, 0] = true from rfl] at HF
              clear xe ke yy
              go_wp2_with fail
              refine HF.out.mono ?_
              rintro e w19 ⟨rfl, x19⟩
              have x1819 := hide (ext_trans xE.out x19)
              have x1719 := hide (ext_trans x1718.out x1819.out)
              have HZA := hide (HZ156.out.ext (ext_trans x1617.out x1719.out))
              have HZB := hide (HZ16.out.ext (ext_trans x1617.out x1719.out))
              have HEQ := hide (eq_ext (A := some ⟨g14, 0, none⟩) (B := A16) (c := c14) (d := c16) (xs := freshL 52) (ys := freshL 52) (freshL_len 52) (freshL_len 52) (by decide) (by decide) HZA.out HZB.out)
              rw [show decide (freshL 52 = freshL 52) = true from decide_eq_true rfl] at HEQ
              clear x19 HF xE
              go_wp2_with fail
              refine HEQ.out.mono ?_
              rintro e w20 ⟨rfl, x20⟩
              have X20 := hide (ext_trans X17.out (ext_trans x1719.out x20))
              have HZ17 := hide (HZ17.out.ext (ext_trans x1719.out x20))
              have HZ18 := hide (HZ18.out.ext (ext_trans x1819.out x20))
              obtain ⟨k0, -, k4, kk⟩ := WK.out
              rw [HN.out.2, ← HN.out.1] at kk
              rw [← HN.out.1] at k0 k4
              obtain ⟨b17, q17, rfl, -⟩ := HZ17.out 0 (by rw [← HN.out.1]; omega)
              obtain ⟨b18, q18, rfl, -⟩ := HZ18.out 0 (by rw [HN.out.2]; omega)
              have hc17 := hide (fun k (h : k < nW) => HZ17.out k (by rw [← HN.out.1]; exact h))
              have hc18 := hide (fun k (h : k < nW) => HZ18.out k (by rw [HN.out.2]; exact h))
              have HK := hide kk
              have HN4 := hide k4
              have tW : ((nW : Int) == 0) = false := beq_eq_false_iff_ne.2 (by omega)
              clear x20 kk k4 HEQ HZA HZB x1719 x1819 x1718 x1617 X17 HZ17 HZ18 HZ16 HZ156 WK HN HWR
              go_wp2
              clear tW
              go_loopw [27, 28, 207] (fun _ _ i wr => ∃ k : Nat, k ≤ nW ∧ i = .int .i64 k ∧ w20 = wr) (fun _ _ i _ => nW - (intOf i).toNat)
              case atStart => exact ⟨0, by omega, rfl, rfl⟩
              case round =>
                obtain ⟨k, hk, rfl, rfl⟩ := hrel
                by_cases hlt : k < nW
                · obtain ⟨ba, oa, ea, hca⟩ := hc17.out k hlt
                  simp only [Option.some.injEq, Addr.mk.injEq, and_true] at ea
                  obtain ⟨rfl, rfl⟩ := ea
                  obtain ⟨m, hm⟩ : ∃ m : Nat, m = nW - 1 - k := ⟨_, rfl⟩
                  obtain ⟨bb, ob, eb, hcb⟩ := hc18.out m (by omega)
                  simp only [Option.some.injEq, Addr.mk.injEq, and_true] at eb
                  obtain ⟨rfl, rfl⟩ := eb
                  obtain ⟨hv, hz0, hz3⟩ := HK.out k hlt
                  rw [← hm] at hv
                  rw [hv] at hcb
                  generalize wl.getD k 0 = z at *
                  have hwa : IntKind.i64.wrap ((nW : Int) - 1) = (nW : Int) - 1 := by rw [IntKind.wrap_i64]; have := HN4.out; omega
                  have hwb : IntKind.i64.wrap ((nW : Int) - 1 - (k : Int)) = (m : Int) := by rw [IntKind.wrap_i64]; have := HN4.out; omega
                  have hwc : IntKind.i64.wrap (3 - z) = 3 - z := by rw [IntKind.wrap_i64]; omega
                  have i1 : (k : Int) < (nW : Int) := by omega
                  have i0 : (0 : Int) ≤ (k : Int) := by omega
                  have j1 : (m : Int) < (nW : Int) := by omega
                  have j0 : (0 : Int) ≤ (m : Int) := by omega
                  have HKN := hide hlt
                  clear hv hz0 hz3 hm hlt hk
                  go_wp2
                  go_roundw
                  case rel => exact ⟨k + 1, HKN.out, by rw [wrapS HKN.out HN4.out], trivial⟩
                  case measure => exact measS HKN.out HN4.out
                · obtain rfl : nW = k := by omega
                  go_wp2
                  go_ret
                  exact ⟨rfl, X20.out⟩
    · go_wp2
      go_ret
      exact ⟨rfl, X6.out⟩
end Go.Proofs.Ytdoibgmmijhlfaa
