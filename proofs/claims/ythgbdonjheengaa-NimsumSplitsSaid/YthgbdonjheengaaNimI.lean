/- Walk: inserting one byte into a row of bytes of the call's own: slices.Insert, insert. -/
import Derived.Test.YthgbdonjheengaaNimB
import Derived.Shelf.Spec.SlicesInsert
import Derived.Lib.AppendZerosOnto
import Derived.Laws.NewBlocks
namespace Go.Proofs.Ythgbdonjheengaa
open Go.ChangeShapes Go.WideShapes Go.ChangeAt Go.RowKit Go.Shelf Go.Lib Go.Proofs
set_option linter.unusedVariables false
set_option linter.unusedSimpArgs false
theorem setCells_blk {g : Nat} {t : TypeId} : ∀ (vs : List Value) (o : Nat) (w : World) (cs : Array Value), Blk w g t cs → ∃ cs', Blk (w.setCells g o vs) g t cs' ∧ cs'.size = cs.size
  | [], _, _, cs, h => ⟨cs, h, rfl⟩
  | v :: r, o, w, cs, h => by
    obtain ⟨cs', h1, h2⟩ := setCells_blk r (o + 1) (w.setCell ⟨g, o, none⟩ v) _ (h.set_ o v)
    exact ⟨cs', h1, by rw [h2]; simp⟩
theorem setCells_ext {g : Nat} {w0 : World} (hg : w0.heap.size ≤ g) : ∀ (vs : List Value) (o : Nat) (w : World), Ext w0 w → Ext w0 (w.setCells g o vs)
  | [], _, _, h => h
  | v :: r, o, w, h => setCells_ext hg r (o + 1) _ (ext_set h (p := ⟨g, o, none⟩) hg v)
theorem setCells_far {g : Nat} {k : Nat} (hk : k ≠ g) : ∀ (vs : List Value) (o : Nat) (w : World), (w.setCells g o vs).heap[k]? = w.heap[k]?
  | [], _, _ => rfl
  | v :: r, o, w => (setCells_far hk r (o + 1) _).trans (Below.heap_setCell w ⟨g, o, none⟩ v k hk)
/-- A row anew, by its cells. -/
theorem ownR_of {w0 w : World} {g n c : Nat} {cs : Array Value} {xs : List Value} (hb : Blk w g 5 cs) (hs : cs.size = c) (hc : c ≤ maxLen) (hn : n ≤ c) (hxl : xs.length = n) (hg : w0.heap.size ≤ g) (h : ∀ j v, xs[j]? = some v → w.cell? ⟨g, j, none⟩ = some v) :
    OwnR 5 1 w0 w (.slice (some ⟨g, 0, none⟩) n c) n xs := by
  refine ⟨_, _, rfl, by rw [hxl, Nat.mul_one], .inr ⟨g, c, cs, rfl, hg, hb, hn, hc, by rw [hs, Nat.mul_one], ?_⟩⟩
  apply List.ext_getElem?
  intro j
  rw [Nat.mul_one, List.getElem?_take]
  by_cases hj : j < n
  · rw [if_pos hj]
    have hx : xs[j]? = some xs[j] := List.getElem?_eq_getElem (by omega)
    have := h j _ hx
    rw [hb.cell] at this
    rw [Array.getElem?_toList, this, hx]
  · rw [if_neg hj, List.getElem?_eq_none (by omega)]
theorem ownR_open {w0 w : World} {v : Value} {n : Nat} {cs : List Value} (h : OwnR 5 1 w0 w v n cs) (hn : 0 < n) : ∃ g c cur, v = .slice (some ⟨g, 0, none⟩) n c ∧ Blk w g 5 cur ∧ cur.size = c ∧ c ≤ maxLen ∧ n ≤ c ∧ w0.heap.size ≤ g ∧ cs.length = n ∧ ∀ j u, cs[j]? = some u → w.cell? ⟨g, j, none⟩ = some u := by
  obtain ⟨A, c, rfl, hl, h⟩ := h
  rcases h with ⟨_, e⟩ | ⟨g, cap, cur, e, hb, hg, hnc, hcm, hcs, ht⟩
  · omega
  · injection e with a b d
    subst a; subst d
    refine ⟨g, c, cur, rfl, hg, by omega, hcm, hnc, hb, by omega, fun j u hj => ?_⟩
    have hb' : Blk w g 5 cur := hg
    rw [hb'.cell]
    rw [← ht, List.getElem?_take] at hj
    split at hj
    · simpa using hj
    · cases hj
section
variable {w0 W : World}
set_option maxHeartbeats 4000000 in
set_option maxRecDepth 100000 in
theorem insert_shift (g n c i vb : Nat) (x : Value) (cs : List Value) (cur : Array Value) (w : World) (hi : i < n) (hroom : n + 1 ≤ c) (hc63 : c ≤ 9223372036854775807) (hvb : vb ≠ g) (hcl : cs.length = n) (hx1 : x.oneCell' = true) (h1c : ∀ v ∈ cs, v.oneCell' = true)
    (hg : Blk w g 5 cur) (hcs : cur.size = c) (hv : Blk w vb 5 #[x]) (hcells : ∀ j u, cs[j]? = some u → w.cell? ⟨g, j, none⟩ = some u) :
    Calls Try.prog 74 #[.slice (some ⟨g, 0, none⟩) n c, .int .i64 (i : Int), .slice (some ⟨vb, 0, none⟩) 1 1] w fun e w' => e = .returned (.slice (some ⟨g, 0, none⟩) (n + 1) c) ∧ w' = (w.drew.setCells g (i + 1) (cs.drop i)).setCells g i [x] := by
  have hz1 : ¬ ((i : Int) = (n : Int)) := by omega
  have hsz : (Try.prog.info? 5).map (·.size) = some 1 := by
    obtain ⟨i0, hi0, h0, h1, h2⟩ := info_parts byteInfoN
    rw [hi0]; simp [h1]
  have hszr : ∀ W, (Go.sizeOf 5).run Try.prog W = .ok 1 W := fun W => by kernel_rfl
  have hsa : w.shape? vb = some (5, 1) := by unfold Blk at hv; simp [World.shape?, hv]
  have hsb : w.shape? g = some (5, c) := by unfold Blk at hg; simp [World.shape?, hg, hcs]
  have hov : ∀ lb cb, (callFunc 75 #[.slice (some ⟨vb, 0, none⟩) 1 1, .slice (some ⟨g, i + 1, none⟩) lb cb]).run Try.prog w = .ok (.value (.bool false)) w := fun lb cb => by
    rw [run_callFunc_extern Try.func75 (by kernel_rfl) (by kernel_rfl) (by kernel_rfl) (e := Extern.SlicesOverlaps.overlaps #[46, 46] #[4]) (by kernel_rfl),
      Lib.run_overlaps_apart w 46 4 5 Try.underlying46 1 hszr ⟨vb, 0, none⟩ ⟨g, i + 1, none⟩ 1 1 lb cb hvb _ _ 1 c hsa hsb (by omega) (hv.frozen 0) (hv.frozen 1)]
    rfl
  have hdl : (cs.drop i).length = n - i := by rw [List.length_drop, hcl]
  have hgc : ∀ k, k < c → (w.cell? ⟨g, k, none⟩).isSome = true := fun k hk => by rw [hg.cell, Array.getElem?_eq_getElem (by omega)]; rfl
  have hcp1 : ∀ ty dc sc, (Builtin.copy_ #[46, 46] ty #[.slice (some ⟨g, i + 1, none⟩) (n - i) dc, .slice (some ⟨g, i, none⟩) (n + 1 - i) sc]).run Try.prog w.drew = .ok (goInt (cs.drop i).length) (w.drew.setCells g (i + 1) (cs.drop i)) := fun ty dc sc =>
    run_copy_cells w.drew _ _ ty 5 g (i + 1) (n - i) dc ⟨g, i, none⟩ (n + 1 - i) sc (cs.drop i) Try.underlying46 hsz (by rw [hdl]; simp only [Nat.min_def]; split <;> omega)
      (fun j v hj => by rw [Addr.add_lit]; exact hcells (i + j) v (by rwa [List.getElem?_drop] at hj))
      (fun j hj => hgc _ (by omega)) (fun j hj => hg.frozen _) (fun v hv => h1c v (List.mem_of_mem_drop hv))
  obtain ⟨W1, hW1⟩ : ∃ W1, W1 = w.drew.setCells g (i + 1) (cs.drop i) := ⟨_, rfl⟩
  obtain ⟨cur1, hb1, hs1⟩ := setCells_blk (cs.drop i) (i + 1) w.drew cur hg
  rw [← hW1] at hb1
  have hv1 : Blk W1 vb 5 #[x] := by rw [hW1]; exact (setCells_far hvb _ _ _).trans hv
  have hcp2 : ∀ (W : World), (∀ y, W.cell? y = W1.cell? y) → (∀ y, W.frozen? y = W1.frozen? y) → ∀ ty dc, (Builtin.copy_ #[46, 46] ty #[.slice (some ⟨g, i, none⟩) (n + 1 - i) dc, .slice (some ⟨vb, 0, none⟩) 1 1]).run Try.prog W = .ok (goInt [x].length) (W.setCells g i [x]) := fun W hWc hWf ty dc =>
    run_copy_cells W _ _ ty 5 g i (n + 1 - i) dc ⟨vb, 0, none⟩ 1 1 [x] Try.underlying46 hsz (by simp only [List.length_cons, List.length_nil, Nat.min_def]; split <;> omega)
      (fun j v hj => by
        have hj0 : j = 0 := by have := (List.getElem?_eq_some_iff.1 hj).1; simpa using this
        subst hj0
        rw [Addr.add_lit, hWc, hv1.cell]
        simpa using hj)
      (fun j hj => by
        have hj0 : j = 0 := by simpa using hj
        subst hj0
        rw [hWc, hb1.cell, Array.getElem?_eq_getElem (by omega)]; rfl) (fun j hj => by rw [hWf]; exact hb1.frozen _) (fun v hv => by
        obtain rfl := List.mem_singleton.1 hv
        exact hx1)
  rw [← hW1] at hcp1 ⊢
  have hw1 : IntKind.i64.wrap ((i : Int) + 1) = (i : Int) + 1 := by rw [IntKind.wrap_i64]; omega
  have hb1' : (0 : Int) ≤ (i : Int) + 1 := by omega
  have hin : i ≤ n := by omega
  have htn : ((i : Int) + 1).toNat = i + 1 := by omega
  have htn2 : ((n : Int) + 1).toNat = n + 1 := by omega
  have hb2 : ¬ (c = i + 1) := by omega
  have hb3 : (i : Int) ≤ (n : Int) + 1 := by omega
  have hb4 : ¬ (c = i) := by omega
  have hb5 : (n : Int) + 1 ≤ (c : Int) := by omega
  have HB := Lib.hid (And.intro hb1 (And.intro hs1 hv1))
  clear hb1 hs1 hv1 hsa hsb hdl hgc hg hcs hv hcells hcl h1c hx1 hsz hszr hroom hvb
  go_enter Try.func74, Try.ntmps74
  have mixed : Try.prog.follows Departure.mixedOrders = true := by kernel_rfl
  go_wp2_with (simp only [hov])
  go_region_law_o (refine step_copy_runI rfl _ _ 46 46 rfl _ _ (by simp [Act.eval, Act.put]) (by simp [Act.eval, Act.put]) (hcp1 _ _ _) ?_)
  go_wp2_with (at_builtin; refine wpList_copy_runI _ rfl _ _ 46 46 rfl _ _ rfl rfl (hcp2 _ (fun _ => rfl) (fun _ => rfl) _ _) ?_)
  go_ret
  first | exact ⟨rfl, by rw [hW1]⟩ | exact ⟨by simp, by rw [hW1]⟩
set_option maxHeartbeats 4000000 in
set_option maxRecDepth 100000 in
theorem insert_grow (g n c i vb : Nat) (x : Value) (cs : List Value) (cur : Array Value) (w : World) (hi : i < n) (hnc : n ≤ c) (hroom : c < n + 1) (hbig : n + 1 ≤ 1000000) (hvb : vb ≠ g) (hcl : cs.length = n) (hx1 : x.oneCell' = true) (h1c : ∀ v ∈ cs, v.oneCell' = true)
    (hg : Blk w g 5 cur) (hcs : cur.size = c) (hv : Blk w vb 5 #[x]) (hcells : ∀ j u, cs[j]? = some u → w.cell? ⟨g, j, none⟩ = some u) :
    Calls Try.prog 74 #[.slice (some ⟨g, 0, none⟩) n c, .int .i64 (i : Int), .slice (some ⟨vb, 0, none⟩) 1 1] w fun e w' => ∃ (G : Nat) (ROW : Array Value), e = .returned (.slice (some ⟨w.heap.size, 0, none⟩) (n + 1) G) ∧ n + 1 ≤ G ∧ G ≤ maxLen ∧ ROW.size = G ∧ (∀ (j : Nat) (u : Value), (cs.take i)[j]? = some u → ROW[j]? = some u) ∧
      w' = (((w.alloc (.cells ROW 5)).drew.setCells w.heap.size i [x]).drew).setCells w.heap.size (i + 1) (cs.drop i) := by
  have mixed : Try.prog.follows Departure.mixedOrders = true := by kernel_rfl
  have ht := Try.underlying46
  obtain ⟨i0, hi0, hz0, hzs, hzb⟩ := info_parts byteInfoN
  have hsz : (Try.prog.info? 5).map (·.size) = some 1 := by rw [hi0]; simp [hzs]
  have hz2 : ¬ ((i : Int) = (n : Int)) := by omega
  have hz3 : (c : Int) < (n : Int) + 1 := by omega
  have hold : (Builtin.firstCells i0.size i (.slice (some ⟨g, 0, none⟩) i c)).run Try.prog w.drew = .ok (cs.take i).toArray w.drew := by
    rw [hzs]
    exact run_firstCells_some w.drew 1 i ⟨g, 0, none⟩ i c (cs.take i) (by rw [List.length_take]; omega) (fun j v hj => by
      rw [Addr.add_lit, Nat.zero_add]
      rw [List.getElem?_take] at hj
      split at hj
      · exact hcells j v hj
      · cases hj)
  have hkk : (n : Int) + 1 - (i : Int) = ((n + 1 - i : Nat) : Int) := by omega
  have hik : i + (n + 1 - i) = n + 1 := by omega
  have hfit : Builtin.nextslicecap (n + 1) c * 1 ≤ 281474976710656 := by
    have := growslice_fits (bytes := 1) hroom (by omega : (n + 1) * 1 ≤ 140737488355328)
    exact this
  have hrz : ∀ ty, (Builtin.append_ #[46, 3] ty #[.slice (some ⟨g, 0, none⟩) i c, .int .i64 ((n : Int) + 1 - (i : Int))]).run Try.prog w =
      .ok (.slice (some ⟨w.heap.size, 0, none⟩) (n + 1) (grownCap w (n + 1) c 5)) (w.drew.alloc (.cells ((cs.take i).toArray ++ Builtin.zeroCells (Value.int .u8 0).cells (n + 1 - i) ++ Builtin.zeroCells (Value.int .u8 0).cells (grownCap w (n + 1) c 5 - (n + 1))) 5)) := fun ty => by
    have h := Lib.run_append_grow_zeros w 46 3 ty 5 i0 _ .i64 .i64 ht Try.underlying3 hi0 hz0 (some ⟨g, 0, none⟩) i c (cs.take i) hold (n + 1 - i) (by omega) (by omega) (by omega) (by omega) (by rw [hzb]; omega) (by rw [hzb, hik]; exact hfit)
    rw [hik] at h
    rw [hkk]
    exact h
  obtain ⟨G, hG⟩ : ∃ G, G = grownCap w (n + 1) c 5 := ⟨_, rfl⟩
  obtain ⟨ROW, hROW⟩ : ∃ ROW : Array Value, ROW = (cs.take i).toArray ++ Builtin.zeroCells (Value.int .u8 0).cells (n + 1 - i) ++ Builtin.zeroCells (Value.int .u8 0).cells (G - (n + 1)) := ⟨_, rfl⟩
  rw [← hG, ← hROW] at hrz
  have hGn : n + 1 ≤ G := by rw [hG]; exact grownCap_ge w _ _ _
  have hGm : G ≤ maxLen := by rw [hG]; exact grownCap_le_maxLen w (n + 1) c 5 (by unfold maxLen; omega)
  have hRl : ROW.size = G := by
    rw [hROW]
    simp [Builtin.zeroCells, Value.cells, hcl]
    omega
  have hRt : ∀ (j : Nat) (u : Value), (cs.take i)[j]? = some u → ROW[j]? = some u := fun j u hj => by
    have hjl : j < (cs.take i).length := (List.getElem?_eq_some_iff.1 hj).1
    rw [hROW, Array.getElem?_append_left (by rw [Array.size_append]; simp only [List.size_toArray]; omega), Array.getElem?_append_left (by simp only [List.size_toArray]; exact hjl)]
    simpa using hj
  obtain ⟨W1, hW1⟩ : ∃ W1, W1 = w.drew.alloc (.cells ROW 5) := ⟨_, rfl⟩
  rw [← hW1] at hrz
  have hnew : Blk W1 w.heap.size 5 ROW := by rw [hW1]; exact Blk.new w.drew _ _
  have hg1 : Blk W1 g 5 cur := by rw [hW1]; exact (show Blk w.drew g 5 cur from hg).alloc _
  have hv1 : Blk W1 vb 5 #[x] := by rw [hW1]; exact (show Blk w.drew vb 5 #[x] from hv).alloc _
  have hgw : g ≠ w.heap.size := Nat.ne_of_lt hg.lt
  have hvw : vb ≠ w.heap.size := Nat.ne_of_lt hv.lt
  have hcpA : ∀ (W : World), (∀ y, W.cell? y = W1.cell? y) → (∀ y, W.frozen? y = W1.frozen? y) → ∀ ty dc, (Builtin.copy_ #[46, 46] ty #[.slice (some ⟨w.heap.size, i, none⟩) (n + 1 - i) dc, .slice (some ⟨vb, 0, none⟩) 1 1]).run Try.prog W = .ok (goInt [x].length) (W.setCells w.heap.size i [x]) := fun W hWc hWf ty dc =>
    run_copy_cells W _ _ ty 5 w.heap.size i (n + 1 - i) dc ⟨vb, 0, none⟩ 1 1 [x] ht hsz (by simp only [List.length_cons, List.length_nil, Nat.min_def]; split <;> omega)
      (fun j v hj => by
        have hj0 : j = 0 := by have := (List.getElem?_eq_some_iff.1 hj).1; simpa using this
        subst hj0
        rw [Addr.add_lit, hWc, hv1.cell]
        simpa using hj)
      (fun j hj => by
        have hj0 : j = 0 := by simpa using hj
        subst hj0
        rw [hWc, hnew.cell, Array.getElem?_eq_getElem (by omega)]; rfl) (fun j hj => by rw [hWf]; exact hnew.frozen _) (fun v hv => by
        obtain rfl := List.mem_singleton.1 hv
        exact hx1)
  obtain ⟨row2, hn2, hs2⟩ := setCells_blk [x] i W1 ROW hnew
  have hg2 : Blk (W1.setCells w.heap.size i [x]) g 5 cur := (setCells_far hgw _ _ _).trans hg1
  have hdl : (cs.drop i).length = n - i := by rw [List.length_drop, hcl]
  have hcpB : ∀ (W : World), (∀ y, W.cell? y = (W1.setCells w.heap.size i [x]).cell? y) → (∀ y, W.frozen? y = (W1.setCells w.heap.size i [x]).frozen? y) → ∀ ty dc sc, (Builtin.copy_ #[46, 46] ty #[.slice (some ⟨w.heap.size, i + 1, none⟩) (n - i) dc, .slice (some ⟨g, i, none⟩) (n - i) sc]).run Try.prog W = .ok (goInt (cs.drop i).length) (W.setCells w.heap.size (i + 1) (cs.drop i)) := fun W hWc hWf ty dc sc =>
    run_copy_cells W _ _ ty 5 w.heap.size (i + 1) (n - i) dc ⟨g, i, none⟩ (n - i) sc (cs.drop i) ht hsz (by rw [hdl]; simp only [Nat.min_def]; split <;> omega)
      (fun j v hj => by
        rw [Addr.add_lit, hWc, hg2.cell, ← hg.cell]
        exact hcells (i + j) v (by rwa [List.getElem?_drop] at hj))
      (fun j hj => by rw [hWc, hn2.cell, Array.getElem?_eq_getElem (by omega)]; rfl) (fun j hj => by rw [hWf]; exact hn2.frozen _) (fun v hv => h1c v (List.mem_of_mem_drop hv))
  have hG63 : G ≤ 9223372036854775807 := by unfold maxLen at hGm; omega
  have hGi : ¬ (G = i) := by omega
  have hGim : ¬ (G = i + 1) := by omega
  have hci : ¬ (c = i) := by omega
  have HRES := Lib.hid (And.intro hGn (And.intro hGm (And.intro hRl hRt)))
  subst hW1
  have hE1 : ∀ y, ((w.alloc (.cells ROW 5)).drew).cell? y = (w.drew.alloc (.cells ROW 5)).cell? y := fun _ => rfl
  have hE2 : ∀ y, ((w.alloc (.cells ROW 5)).drew).frozen? y = (w.drew.alloc (.cells ROW 5)).frozen? y := fun _ => rfl
  have hF1 : ∀ y, (((w.alloc (.cells ROW 5)).drew.setCells w.heap.size i [x]).drew).cell? y = ((w.drew.alloc (.cells ROW 5)).setCells w.heap.size i [x]).cell? y := fun _ => rfl
  have hF2 : ∀ y, (((w.alloc (.cells ROW 5)).drew.setCells w.heap.size i [x]).drew).frozen? y = ((w.drew.alloc (.cells ROW 5)).setCells w.heap.size i [x]).frozen? y := fun _ => rfl
  have hw1 : IntKind.i64.wrap ((i : Int) + 1) = (i : Int) + 1 := by rw [IntKind.wrap_i64]; omega
  have hb1 : (0 : Int) ≤ (i : Int) + 1 := by omega
  have hin : i ≤ n := by omega
  have htn : ((i : Int) + 1).toNat = i + 1 := by omega
  have hb3 : (i : Int) ≤ (n : Int) := by omega
  clear hkk hik hold hROW hG hRl hRt hfit hnew hg1 hv1 hn2 hs2 hg2 hdl hg hv hcells hcl h1c hx1 hsz hcs hGm hi0 hz0 hzs hzb ht
  go_enter Try.func74, Try.ntmps74
  go_wp2_with (first
    | (at_builtin; refine Lib.wpList_append_run _ rfl _ _ _ _ rfl _ _ rfl rfl _ _ (hrz _) ?_)
    | (at_builtin; refine wpList_copy_runI _ rfl _ _ 46 46 rfl _ _ rfl rfl (hcpA _ hE1 hE2 _ _) ?_)
    | (at_builtin; refine wpList_copy_runI _ rfl _ _ 46 46 rfl _ _ rfl rfl (hcpB _ (fun _ => rfl) (fun _ => rfl) _ _ _) ?_))
  go_region_law_o (refine step_copy_runI rfl _ _ 46 46 rfl (.slice (some ⟨w.heap.size, i + 1, none⟩) (n - i) (G - (i + 1))) (.slice (some ⟨g, i, none⟩) (n - i) (c - i)) (by simp [Act.eval, Act.put]) (by simp [Act.eval, Act.put]) (hcpB _ hF1 hF2 5 (G - (i + 1)) (c - i)) ?_)
  go_wp2
  go_ret
  obtain ⟨q1, q2, q3, q4⟩ := HRES.out
  exact ⟨G, ROW, by first | rfl | simp, q1, q2, q3, q4, rfl⟩
end
end Go.Proofs.Ythgbdonjheengaa
