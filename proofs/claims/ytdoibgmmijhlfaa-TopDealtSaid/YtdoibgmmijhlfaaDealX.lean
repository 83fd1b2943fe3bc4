/- Walk: the ranks of a hand are sorted (slices.SortFunc at integers, by the shelf's contract). -/
import Derived.Test.YtdoibgmmijhlfaaDealO
import Derived.Test.YtdoibgmmijhlfaaSortLayI
import Derived.Test.YtdoibgmmijhlfaaOwnZ
namespace Go.Proofs.Ytdoibgmmijhlfaa
open Go.ChangeShapes Go.WideShapes Go.ChangeAt Go.RowKit Go.Shelf
set_option linter.unusedVariables false
open Go.Sort
def finI (r : Fin 13) : Int := (r.val : Int)
def encF (r : Fin 13) : Value := .int .i64 (r.val : Int)
def cfF (h : List Int) (a b : Fin 13) : Int := cmpR h (a.val : Int) (b.val : Int)
def rawF (h : List Int) : List (Fin 13) := (List.finRange 13).filter fun r => decide (0 < cntR h r.val)
theorem fin_range : (List.finRange 13).map (fun r : Fin 13 => r.val) = List.range 13 := by decide
theorem rawF_map (h : List Int) : (rawF h).map finI = rawR h 13 := by
  unfold rawF rawR
  rw [← fin_range, List.filter_map, List.map_map]
  rfl
theorem ltF_iff {h : List Int} {a b : Fin 13} : ltOf (cfF h) a b = true ↔ (cntR h b.val < cntR h a.val ∨ cntR h a.val = cntR h b.val ∧ b.val < a.val) := by
  unfold ltOf cfF
  rw [decide_eq_true_eq, cmpR_lt]
  unfold ltR
  simp only [Int.toNat_natCast]
  omega
theorem ltF_false {h : List Int} {a b : Fin 13} (k : ltOf (cfF h) a b = false) : ¬ (cntR h b.val < cntR h a.val ∨ cntR h a.val = cntR h b.val ∧ b.val < a.val) := fun e => by
  rw [ltF_iff.2 e] at k
  cases k
theorem swoF (h : List Int) : SWO (ltOf (cfF h)) where
  irrefl x := by
    cases e : ltOf (cfF h) x x
    · rfl
    · have := ltF_iff.1 e; omega
  trans x y z h1 h2 := by rw [ltF_iff] at *; omega
  ntrans x y z h1 h2 := by
    have a := ltF_false h1
    have b := ltF_false h2
    cases e : ltOf (cfF h) x z
    · rfl
    · have := ltF_iff.1 e; omega
theorem totF (h : List Int) (x y : Fin 13) (h1 : ltOf (cfF h) x y = false) (h2 : ltOf (cfF h) y x = false) : x = y := by
  have a := ltF_false h1
  have b := ltF_false h2
  exact Fin.ext (by omega)
theorem ordF_map (h : List Int) : ((rawF h).mergeSort fun x y => !(ltOf (cfF h)) y x).map finI = ordR h := by
  unfold ordR
  rw [← rawF_map]
  exact List.map_mergeSort (fun a _ b _ => rfl)
theorem putF (off : Nat) (d : Array (Fin 13)) (c : Array Value) : putCells encF off d c = putCells (Value.int .i64) off (d.map finI) c := by
  unfold putCells
  apply Array.ext
  · simp
  · intro i h1 h2
    simp only [Array.getElem_mapIdx, Array.size_map]
    split
    · rename_i hk
      have hi : i - off < d.size := by omega
      have e1 : d[i - off]! = d[i - off]'hi := getElem!_pos d (i - off) hi
      have e2 : (d.map finI)[i - off]! = finI (d[i - off]'hi) := by
        rw [getElem!_pos (d.map finI) (i - off) (by simpa using hi)]
        simp
      rw [e1, e2]
      rfl
    · rfl
theorem sort_world_heap (d : Array (Fin 13)) (w : World) (blk m : Nat) (os : Array Obj) {k : Nat} (hk : k < w.heap.size) :
    (sortWorld encF w blk 0 m d os).heap[k]? = (w.heap.modify blk (onCells (putCells (Value.int .i64) 0 (d.map finI))))[k]? := by
  have e : putCells encF 0 d = putCells (Value.int .i64) 0 (d.map finI) := funext fun c => putF 0 d c
  unfold sortWorld
  rw [heap_grow_old _ _ (by simpa using hk)]
  unfold putRow
  rw [e]
  rfl
set_option maxHeartbeats 1000000 in
theorem sort_ranks {w0 w : World} {v : Value} (h : List Int) (hO : OwnZ w0 w v (rawR h 13)) (hx : Ext w0 w) (gc : Nat) (t : TypeId) (cs : Array Value) (hc : Blk w gc t cs) (hgc : gc < w0.heap.size)
    (hcells : ∀ r, r < 13 → cs[r]? = some (.int .i64 (cntR h r : Int))) :
    Calls Try.prog 119 #[v, .func (.func 120) #[] #[.pointer (some ⟨gc, 0, none⟩)]] w fun e w' => e = .returned (.tuple #[]) ∧ OwnZ w0 w' v (ordR h) ∧ Ext w0 w' := by
  have hlen : (ordR h).length = (rawR h 13).length := (ordR_perm h).length_eq
  have hFl : (rawF h).length = (rawR h 13).length := by rw [← rawF_map, List.length_map]
  by_cases h0 : rawR h 13 = []
  · obtain ⟨A, c, rfl, o⟩ := hO
    have ho : ordR h = [] := List.eq_nil_of_length_eq_zero (by rw [hlen, h0]; rfl)
    rw [h0] at o ⊢
    refine (AnyF.slices_SortFunc_none { Try.sortJ with } A c _ w).mono ?_
    rintro e w' ⟨rfl, rfl⟩
    exact ⟨rfl, by rw [ho]; exact ⟨A, c, rfl, o⟩, hx⟩
  · obtain ⟨g, c, cur, rfl, hH, hg, hb, hcl, hcur, hcs, hcm⟩ := hO.holds h0
    have hr13 := rawR_len h 13
    have hHF : Holds encF w g 0 (rawF h).toArray := fun j hj => by
      have hj' : j < (rawF h).length := by simpa using hj
      have hj2 : j < (rawR h 13).toArray.size := by simp; omega
      obtain ⟨k1, k2⟩ := hH j hj2
      refine ⟨?_, k2⟩
      rw [k1]
      have e1 : (rawF h).toArray[j]! = (rawF h)[j] := getElem!_pos _ j (by simpa using hj')
      have e2 : (rawR h 13).toArray[j]! = (rawR h 13)[j]'(by omega) := getElem!_pos _ j (by simp; omega)
      rw [e1, e2]
      have e3 : (rawR h 13)[j]? = ((rawF h).map finI)[j]? := by rw [rawF_map]
      rw [List.getElem?_map, List.getElem?_eq_getElem hj', List.getElem?_eq_getElem (by omega)] at e3
      injection e3 with e3
      rw [e3]
      rfl
    have eg : ∀ args W, (callFunc 120 args).run Try.prog W = .ok (.enter 120 args) W := enters_of Try.func120 (by kernel_rfl) rfl
    have hgne : gc ≠ g := by omega
    have hcmp : CmpLays1 Try.prog 120 #[.pointer (some ⟨gc, 0, none⟩)] encF (cfF h) g 0 (rawF h).toArray.size w := fun m os dk hs x y => by
      refine order1_any h x.val y.val gc _ x.isLt y.isLt (fun r hr => ?_)
      have hk : gc < w.heap.size := hc.lt
      have hbk : Blk (sortWorld encF w g 0 m dk os) gc t cs := by
        unfold Blk
        rw [sort_world_heap dk w g m os hk, Array.getElem?_modify, if_neg (fun e => hgne e.symm)]
        exact hc
      rw [hbk.cell]
      exact hcells r hr
    have hS := Any.slices_SortFunc_total Try.sortJ encF (fun _ => rfl) (cfF h) (swoF h) 120 #[.pointer (some ⟨gc, 0, none⟩)] g 0 c (rawF h).toArray w eg hcmp hHF hg (by simp; omega) (totF h)
    rw [List.size_toArray, hFl] at hS
    refine hS.mono ?_
    rintro e w' ⟨rfl, n, os, rfl⟩
    obtain ⟨ys, hys⟩ : ∃ ys, ((rawF h).toArray.toList.mergeSort fun x y => !(ltOf (cfF h)) y x) = ys := ⟨_, rfl⟩
    have hml : ys.map finI = ordR h := by rw [← hys]; exact ordF_map h
    rw [hys]
    have hyl : (ordR h).length = (rawR h 13).length := hlen
    have e4 : (ys.toArray.map finI) = (ordR h).toArray := by rw [← hml]; simp
    have hp := ownZ_put (W := sortWorld encF w g 0 n ys.toArray os) (m := (rawR h 13).length) (ys := ordR h) hcur hcs hcm hb hx (by omega) (by omega) rfl rfl rfl (by unfold sortWorld; simp) (fun k hk => by
      rw [sort_world_heap ys.toArray w g n os hk, e4])
    rw [List.take_of_length_le (by omega)] at hp
    exact ⟨rfl, hp⟩
end Go.Proofs.Ytdoibgmmijhlfaa
