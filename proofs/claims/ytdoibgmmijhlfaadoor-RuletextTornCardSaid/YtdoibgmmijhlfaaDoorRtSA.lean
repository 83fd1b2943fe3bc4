/- Walks: strings.SplitAfter at one byte, slices.Clone and slices.Delete of strings, strings.Join at nothing. -/
import Derived.Test.YtdoibgmmijhlfaaDoorGTxtD
import Derived.Test.YtdoibgmmijhlfaaDoorStrLayB
import Derived.Lib.OwnBridge
namespace Go.Proofs.YtdoibgmmijhlfaaDoor
open Go.RowKit
set_option linter.unusedVariables false
theorem splitB_sizes (sep : ByteArray) (sv M : Nat) : ∀ (k : Nat) (s : ByteArray), s.size ≤ M → ∀ x ∈ Lib.splitB sep sv k s, x.size ≤ M
  | 0, s, h, x, hx => by
    rw [Lib.splitB_zero] at hx
    obtain rfl := List.mem_singleton.1 hx
    exact h
  | k + 1, s, h, x, hx => by
    have e : Lib.splitB sep sv (k + 1) s = if Lib.indexB s sep == -1 then [s] else s.extract 0 ((Lib.indexB s sep).toNat + sv) :: Lib.splitB sep sv k (s.extract ((Lib.indexB s sep).toNat + sep.size) s.size) := rfl
    rw [e] at hx
    split at hx
    · obtain rfl := List.mem_singleton.1 hx
      exact h
    · rcases List.mem_cons.1 hx with rfl | hx
      · rw [ByteArray.size_extract]; omega
      · exact splitB_sizes sep sv M k _ (by rw [ByteArray.size_extract]; omega) x hx
theorem strU_list (x : ByteArray) : strU x.data.toList = x := rfl
theorem splitA_any (c : UInt8) (s : BL) (hs : s.length ≤ 8192) (w : World) (hw : LibW w) :
    Calls Tryd.prog 15 #[.string (strU s), .string (strU [c])] w fun e w' => ∃ (L : List BL) (g : Nat), 1 ≤ L.length ∧ L.length ≤ 8193 ∧ (∀ x ∈ L, x.length ≤ 8192) ∧ e = .returned (.slice (some ⟨g, 0, none⟩) L.length L.length) ∧ Blk w' g 9 (strsC L).toArray ∧ w.heap.size ≤ g ∧ Ext w w' := by
  obtain ⟨m, hm⟩ := hw.max
  have h1 : (1 : Nat) ≤ (strU [c]).size := by rw [strU_size]; simp
  have hcb := Lib.countB_le (strU [c]) h1 (strU s).size (strU s) (Nat.le_refl _)
  rw [strU_size] at hcb
  have hss : (strU s).size = s.length := strU_size s
  have hN : ((Lib.countB (strU s) (strU [c]) + 1 : Nat) : Int) = min (if (-1 : Int) < 0 then (Lib.countB (strU s) (strU [c]) : Int) + 1 else -1) (((strU s).size : Int) + 1) := by
    rw [if_pos (by decide), hss]
    omega
  have h := Tryd.strings_genSplit (strU s) (strU [c]) 1 (-1) (Lib.countB (strU s) (strU [c]) + 1) m w (by rw [hss]; omega) hm h1 h1 (by decide) (by decide) hN
  have hsa := Lib.splitB_all (strU [c]) h1 1 _ (strU s) rfl
  have hsz := splitB_sizes (strU [c]) 1 8192 (Lib.countB (strU s) (strU [c])) (strU s) (by rw [hss]; exact hs)
  rw [Nat.add_sub_cancel, hsa] at h
  have hco := Lib.cellsOf_full (Lib.splitB (strU [c]) 1 (Lib.countB (strU s) (strU [c])) (strU s))
  rw [hsa] at hco
  rw [hco] at h
  have hz : (strU [c]).size = 1 := strU_size [c]
  have HG := Lib.hid h
  obtain ⟨L, hL⟩ : ∃ L : List BL, L = (Lib.splitB (strU [c]) 1 (Lib.countB (strU s) (strU [c])) (strU s)).map (·.data.toList) := ⟨_, rfl⟩
  have hLl : L.length = Lib.countB (strU s) (strU [c]) + 1 := by rw [hL, List.length_map, hsa]
  have hLc : strsC L = (Lib.splitB (strU [c]) 1 (Lib.countB (strU s) (strU [c])) (strU s)).map Value.string := by
    rw [hL]
    unfold strsC
    rw [List.map_map]
    rfl
  have HL := Lib.hid (show (1 ≤ L.length ∧ L.length ≤ 8193 ∧ (∀ x ∈ L, x.length ≤ 8192)) from ⟨by omega, by omega, fun x hx => by
    rw [hL] at hx
    obtain ⟨y, hy, rfl⟩ := List.mem_map.1 hx
    exact hsz y hy⟩)
  clear hcb hss hN h hsa hsz hco hL
  rw [← hLc, ← hLl] at HG
  clear hLc hLl
  go_enter Tryd.func15, Tryd.ntmps15
  go_wp2_with fail
  have hz2 : ((strU [c]).size : Int) = ((1 : Nat) : Int) := by rw [hz]
  refine HG.out.mono ?_
  rintro e w' ⟨rfl, rfl⟩
  go_wp2
  go_ret
  exact ⟨L, _, HL.out.1, HL.out.2.1, HL.out.2.2, rfl, Blk.new w _ _, Nat.le_refl _, ext_alloc (Below.refl _ _) _⟩
theorem blk_own {w : World} {g : Nat} {L : List BL} (h : Blk w g 9 (strsC L).toArray) : ∀ j, j < (L.map strU).length → w.cell? ⟨g, 0 + j, none⟩ = some (.string ((L.map strU).getD j ByteArray.empty)) := fun j hj => by
  have hj' : j < L.length := by simpa using hj
  rw [Nat.zero_add, h.cell]
  simp [strsC, List.getD_eq_getElem?_getD, hj']
theorem clone_strs (L : List BL) (g c : Nat) (w : World) (h : Blk w g 9 (strsC L).toArray) (hl : L.length ≤ 100000) (h1 : 1 ≤ L.length) :
    Calls Tryd.prog 19 #[.slice (some ⟨g, 0, none⟩) L.length c] w fun e w' => ∃ g' c', e = .returned (.slice (some ⟨g', 0, none⟩) L.length c') ∧ OwnR 9 1 w w' (.slice (some ⟨g', 0, none⟩) L.length c') L.length (strsC L) ∧ Ext w w' := by
  refine (Tryd.slices_Clone_string g 0 L.length c (L.map strU) w (by simp) (by omega) (blk_own h)).mono ?_
  rintro e w' ⟨v', rfl, ho, hv, hx⟩
  have e0 : ((L.map strU).take L.length).map Value.string = strsC L := by
    rw [List.take_of_length_le (by simp)]
    unfold strsC
    rw [List.map_map]
    rfl
  rw [e0] at ho
  have ho' : w'.ownsRow w.heap.size 9 1 v' L.length (L.map encStr) := ho
  obtain ⟨g', cap, rfl, -, -, -, -, -, -⟩ := Lib.holds_of_ownsRow ho' hv
  exact ⟨g', cap, rfl, ⟨_, _, rfl, ho⟩, hx⟩
theorem delete_strs (w0 w : World) (L : List BL) (g c k : Nat) (hk : k < L.length) (hO : OwnR 9 1 w0 w (.slice (some ⟨g, 0, none⟩) L.length c) L.length (strsC L)) :
    Calls Tryd.prog 18 #[.slice (some ⟨g, 0, none⟩) L.length c, .int .i64 (k : Int), .int .i64 ((k + 1 : Nat) : Int)] w fun e w' => e = .returned (.slice (some ⟨g, 0, none⟩) (L.eraseIdx k).length c) ∧ OwnR 9 1 w0 w' (.slice (some ⟨g, 0, none⟩) (L.eraseIdx k).length c) (L.eraseIdx k).length (strsC (L.eraseIdx k)) ∧ ∀ B u, B ≤ w0.heap.size → Below B u w → Below B u w' := by
  obtain ⟨A, c', e, hO⟩ := hO
  simp only [Value.slice.injEq, true_and] at e
  obtain ⟨e1, e2⟩ := e
  rw [← e1, ← e2] at hO
  have hO' : w.ownsRow w0.heap.size 9 1 (.slice (some ⟨g, 0, none⟩) L.length c) L.length (L.map encStr) := hO
  obtain ⟨g', cap, e3, hb, hlt, hn, hm, -, hH⟩ := Lib.holds_of_ownsRow hO' (by simp)
  simp only [Value.slice.injEq, Option.some.injEq, Addr.mk.injEq, and_true, true_and] at e3
  obtain ⟨e3, e4⟩ := e3
  subst e3 e4
  have hel : (L.eraseIdx k).length = L.length - 1 := by rw [List.length_eraseIdx, if_pos hk]
  have hle : L.eraseIdx k = L.take k ++ L.drop (k + 1) := List.eraseIdx_eq_take_drop_succ L k
  refine (Tryd.slices_Delete_string g 0 c k (k + 1) L w hH hn (by simp only [maxLen] at hm; omega) (by omega) hk).mono ?_
  rintro e w' ⟨rfl, q, rfl⟩
  have h := Lib.ownsRow_putRow (q := q) (k := (L.eraseIdx k).length) (ys := L.take k ++ L.drop (k + 1) ++ List.replicate (k + 1 - k) []) hO' (by rw [List.length_append, ← hle, hel]; simp; omega) (by omega)
  rw [← hle, List.take_left] at h
  refine ⟨by rw [hel, Nat.add_sub_cancel_left], ⟨_, _, rfl, ?_⟩, fun B u hB hu => Lib.below_putRow hu (by omega)⟩
  rw [← hle]
  exact h
theorem join_le (L : List BL) (M : Nat) (h : ∀ x ∈ L, x.length ≤ M) : (Lib.join L []).length ≤ L.length * M := by
  induction L with
  | nil => simp [Lib.join]
  | cons a l ih =>
    have ha := h a (by simp)
    have hl := ih (fun x hx => h x (by simp [hx]))
    cases l with
    | nil => simp [Lib.join]; omega
    | cons b l =>
      have e : Lib.join (a :: b :: l) [] = a ++ [] ++ Lib.join (b :: l) [] := by simp [Lib.join]
      rw [e, List.length_append, List.length_append, List.length_cons (a := a), Nat.add_mul]
      simp only [List.length_nil, Nat.one_mul]
      omega
theorem join_strs (w0 w : World) (L : List BL) (g c : Nat) (hm : ∀ x ∈ L, x.length ≤ 8193) (hl : L.length ≤ 8193) (hO : OwnR 9 1 w0 w (.slice (some ⟨g, 0, none⟩) L.length c) L.length (strsC L)) :
    Calls Tryd.prog 17 #[.slice (some ⟨g, 0, none⟩) L.length c, .string ⟨#[]⟩] w fun e w' => ∃ s : BL, e = .returned (.string (strU s)) ∧ Ext w w' := by
  by_cases h0 : L.length = 0
  · rw [h0]
    refine (Tryd.strings_Join_none _ _ _ w).mono ?_
    rintro e w' ⟨rfl, rfl⟩
    exact ⟨[], rfl, Below.refl _ _⟩
  · obtain ⟨A, c', e, hO⟩ := hO
    simp only [Value.slice.injEq, true_and] at e
    obtain ⟨e1, e2⟩ := e
    rw [← e1, ← e2] at hO
    have hc := (own_cells hO).1
    have hcap := own_cap hO
    obtain ⟨x, hx⟩ : ∃ x, L[0]? = some x := ⟨_, List.getElem?_eq_getElem (by omega)⟩
    obtain ⟨b, o, e5, hc0⟩ := hc 0 _ (strsC_get hx)
    have hxs : ((L.map strU).map (·.data.toList)) = L := by
      rw [List.map_map]
      conv => rhs; rw [← List.map_id L]
      exact List.map_congr_left fun y _ => strU_data y
    have hb := join_le L 8193 hm
    have h := Tryd.strings_Join g 0 c (L.map strU) ⟨#[]⟩ w (fun j y hy => by
      rw [List.getElem?_map] at hy
      cases hLj : L[j]? with
      | none => rw [hLj] at hy; cases hy
      | some z =>
        rw [hLj] at hy
        have e : strU z = y := by simpa using hy
        obtain ⟨b', o', e2, hcj⟩ := hc j _ (strsC_get hLj)
        injection e2 with e2
        injection e2 with e3 e4
        subst e3 e4 e
        exact hcj) (by injection e5 with e5; injection e5 with e6; subst e6; exact lt_of_cell hc0) (by rw [List.length_map]; omega) (by rw [List.length_map]; exact hcap) (by
      rw [hxs]
      have : L.length * 8193 ≤ 8193 * 8193 := Nat.mul_le_mul_right _ hl
      show (Lib.join L []).length ≤ _
      omega)
    rw [hxs, List.length_map] at h
    exact h.mono fun e w' ⟨a, b⟩ => ⟨_, a, b⟩
theorem strsC_set (L : List BL) (k : Nat) (x : BL) : (strsC L).toArray.setIfInBounds k (.string (strU x)) = (strsC (L.set k x)).toArray := by
  unfold strsC
  rw [List.setIfInBounds_toArray, List.map_set]
end Go.Proofs.YtdoibgmmijhlfaaDoor
