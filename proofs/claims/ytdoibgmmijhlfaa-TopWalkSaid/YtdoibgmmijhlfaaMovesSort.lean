/- slices.SortFunc over moves of the call's own: by the shelf's contract. -/
import Derived.Test.YtdoibgmmijhlfaaMovesCmp
import Derived.Test.YtdoibgmmijhlfaaSortLay
import Derived.Test.YtdoibgmmijhlfaaGMovesA
namespace Go.Proofs.Ytdoibgmmijhlfaa
open Go.ChangeShapes Go.WideShapes Go.ChangeAt Go.RowKit Go.Shelf
set_option linter.unusedVariables false
open Go.Sort
instance : Inhabited MoveM := ⟨⟨0, 0, 0⟩⟩
theorem flat_vals (L : List MoveM) : flatK MoveM.vals 3 L.toArray = (L.flatMap MoveM.vals).toArray := by
  refine ext_get! (by rw [size_flatK, List.size_toArray, List.size_toArray, len_vals]) fun t ht => ?_
  have ht' : t < L.length * 3 := by rw [size_flatK, List.size_toArray] at ht; exact ht
  have hk : t / 3 < L.length := by omega
  have hv : (L.flatMap MoveM.vals)[t]? = (L[t / 3].vals)[t % 3]? := by
    have := flat_get MoveM.vals 3 (fun _ => rfl) L (t / 3) (t % 3) L[t / 3] (List.getElem?_eq_getElem hk) (by omega)
    rwa [show t / 3 * 3 + t % 3 = t from by omega] at this
  rw [get_flatK _ _ _ _ (by simpa using ht')]
  have hl : t < (L.flatMap MoveM.vals).length := by rw [len_vals]; exact ht'
  have h3 : t % 3 < (L[t / 3].vals).length := by show t % 3 < 3; omega
  have e1 : ((L.flatMap MoveM.vals).toArray)[t]! = (L.flatMap MoveM.vals)[t] := getElem!_pos _ t (by rw [List.size_toArray]; exact hl)
  have e2 : (L.toArray)[t / 3]! = L[t / 3] := getElem!_pos _ _ (by rw [List.size_toArray]; exact hk)
  rw [e1, e2]
  rw [List.getElem?_eq_getElem hl, List.getElem?_eq_getElem h3] at hv
  injection hv with hv
  rw [hv]
  exact getElem!_pos (L[t / 3]).vals (t % 3) h3
instance (x y : MoveM) : Decidable (ltM x y) := by unfold ltM; infer_instance
theorem ltOf_iff {x y : MoveM} : ltOf cmpM x y = true ↔ ltM x y := by unfold ltOf ltM; simp
theorem swo_cmp : SWO (ltOf cmpM) where
  irrefl x := by
    have := ltM_irrefl x
    unfold ltOf ltM at *
    simpa using this
  trans x y z h1 h2 := by
    rw [ltOf_iff] at *
    exact ltM_trans h1 h2
  ntrans x y z h1 h2 := by
    have a : ¬ ltM x y := fun h => by rw [ltOf_iff.2 h] at h1; cases h1
    have b : ¬ ltM y z := fun h => by rw [ltOf_iff.2 h] at h2; cases h2
    have : ¬ ltM x z := by rw [ltM_iff] at *; omega
    cases h : ltOf cmpM x z
    · rfl
    · exact absurd (ltOf_iff.1 h) this
theorem total_cmp (x y : MoveM) (h1 : ltOf cmpM x y = false) (h2 : ltOf cmpM y x = false) : x = y := by
  rcases ltM_total x y with h | h | h
  · rw [ltOf_iff.2 h] at h1; cases h1
  · exact h
  · rw [ltOf_iff.2 h] at h2; cases h2
def sortM (L : List MoveM) : List MoveM := L.mergeSort fun x y => !(ltOf cmpM) y x
theorem sortM_mem {L : List MoveM} {x : MoveM} : x ∈ sortM L ↔ x ∈ L := (List.mergeSort_perm L _).mem_iff
theorem sortM_length (L : List MoveM) : (sortM L).length = L.length := (List.mergeSort_perm L _).length_eq
theorem sortM_sorted (L : List MoveM) : (sortM L).Pairwise fun a b => ¬ ltM b a := by
  have h := List.pairwise_mergeSort (le := fun x y => !(ltOf cmpM) y x) (fun a b c h1 h2 => by
    simp only [Bool.not_eq_true'] at *
    exact swo_cmp.ntrans c b a h2 h1) (fun a b => by
    rcases ltM_total a b with h | h | h
    · have := swo_cmp.trans a b a (ltOf_iff.2 h)
      cases h2 : ltOf cmpM b a
      · simp
      · exact absurd (ltOf_iff.1 (this h2)) (ltM_irrefl a)
    · subst h; rw [swo_cmp.irrefl]; rfl
    · cases h2 : ltOf cmpM a b
      · simp
      · exact absurd (ltM_trans h (ltOf_iff.1 h2)) (ltM_irrefl b)) L
  refine h.imp ?_
  intro a b hab hlt
  rw [ltOf_iff.2 hlt] at hab
  cases hab
theorem isAgg_move (w : World) : (isAgg 37).run Try.prog w = .ok true w := Try.isAgg37 w
theorem sizeOf_move (w : World) : (Go.sizeOf 37).run Try.prog w = .ok 3 w := Try.sizeOf37 w
/-- The post of slices.SortFunc. -/
def SortPost (w0 : World) (v : Value) (L : List MoveM) (e : Ending) (w' : World) : Prop := e = .returned (.tuple #[]) ∧ OwnM w0 w' v (sortM L) ∧ Ext w0 w'
theorem SortFunc_any (w0 w : World) (v : Value) (L : List MoveM) (h : OwnM w0 w v L) (hext : Ext w0 w) (hlen : L.length ≤ 1000000) :
    Calls Try.prog 70 #[v, .func (.func 71) #[] #[]] w (SortPost w0 v L) := by
  obtain ⟨A, c, rfl, hown⟩ := h
  by_cases h0 : L = []
  · subst h0
    have hc := AnyF.slices_SortFunc_none Try.sortM A c (.func (.func 71) #[] #[]) w
    refine hc.mono ?_
    rintro e w' ⟨rfl, rfl⟩
    exact ⟨rfl, by rw [show sortM [] = [] from by simp [sortM]]; exact ⟨A, c, rfl, hown⟩, hext⟩
  · rcases hown.2 with ⟨e1, e2⟩ | ⟨g, cap, cur, e1, hb, hg, hnc, hcm, hcs, ht⟩
    · exact absurd (List.eq_nil_of_length_eq_zero e2) h0
    · injection e1 with a b d
      subst a; subst d
      have ht' : cur.toList.take (L.length * 3) = L.flatMap MoveM.vals := ht
      have hcs' : cur.size = c * 3 := hcs
      have hnc' : L.length ≤ c := hnc
      have hH : HoldsK MoveM.vals 3 w g 0 L.toArray := by
        unfold HoldsK
        rw [flat_vals]
        intro j hj
        have hj' : j < (L.flatMap MoveM.vals).length := by rw [List.size_toArray] at hj; exact hj
        have hj3 : j < L.length * 3 := by rw [← len_vals]; exact hj'
        refine ⟨?_, by simp [World.frozen?, hg]⟩
        rw [Nat.zero_add, cell_of_row _ _ _ cur _ (0, 0) hg]
        have e : (cur.toList.take (L.length * 3))[j]? = (L.flatMap MoveM.vals)[j]? := by rw [ht']
        rw [List.getElem?_take, if_pos hj3, List.getElem?_eq_getElem hj'] at e
        rw [← Array.getElem?_toList, e]
        exact congrArg some (getElem!_pos ((L.flatMap MoveM.vals).toArray) j (by rw [List.size_toArray]; exact hj')).symm
      have eg : ∀ args w, (callFunc 71 args).run Try.prog w = .ok (.enter 71 args) w := enters_of Try.func71 (by kernel_rfl) rfl
      have hcmp : CmpLays Try.prog 71 #[] MoveM.vals 3 cmpM g 0 L.toArray.size w := fun m os dk hs x y => cmpMoves_any x y _
      have hglt : g < w.heap.size := (Array.getElem?_eq_some_iff.1 hg).1
      have hc := AnyQ.slices_SortFunc_total Try.sortM 3 isAgg_move sizeOf_move MoveM.vals (fun _ => rfl) (fun x u hu => by simp [MoveM.vals] at hu; rcases hu with rfl | rfl | rfl <;> rfl) cmpM swo_cmp 71 #[] g 0 c L.toArray w eg hcmp hH hglt (by simp; omega) total_cmp
      have hc' : Calls Try.prog 70 #[.slice (some ⟨g, 0, none⟩) L.length c, .func (.func 71) #[] #[]] w fun e w' => e = .returned (.tuple #[]) ∧ ∃ n os, w' = sortWorldK MoveM.vals 3 w g 0 n (sortM L).toArray os := by
        have hc2 := hc
        rw [List.size_toArray] at hc2
        exact hc2
      refine hc'.mono ?_
      rintro e w' ⟨rfl, n, os, rfl⟩
      unfold sortWorldK putRowK
      rw [flat_vals]
      generalize hF : ((sortM L).flatMap MoveM.vals).toArray = F
      have hFs : F.size = L.length * 3 := by rw [← hF, List.size_toArray, len_vals, sortM_length]
      have hheap : ∀ k, k < w.heap.size → (grow (putRow id (Sort.ahead w n) g 0 F) os).heap[k]? = (w.heap.modify g (onCells (putCells id 0 F)))[k]? := by
        intro k hk
        rw [heap_grow_old _ _ (by simpa using hk)]
        rfl
      refine ⟨rfl, ⟨some ⟨g, 0, none⟩, c, by rw [sortM_length], ?_⟩, ?_⟩
      · refine ⟨by rw [len_vals], .inr ⟨g, c, putCells id 0 F cur, by rw [sortM_length], hb, ?_, by rw [sortM_length]; exact hnc, hcm, by simp [putCells, hcs'], ?_⟩⟩
        · rw [hheap g hglt, Array.getElem?_modify, if_pos rfl, hg]
          rfl
        · show (putCells id 0 F cur).toList.take ((sortM L).length * 3) = _
          rw [sortM_length]
          apply List.ext_getElem?
          intro i
          rw [List.getElem?_take]
          by_cases hi : i < L.length * 3
          · rw [if_pos hi]
            have hic : i < cur.size := by omega
            have e3 : ((sortM L).flatMap MoveM.vals)[i]? = F[i]? := by rw [← hF]; simp
            rw [e3, Array.getElem?_toList]
            simp [putCells, hic, hi, hFs]
          · rw [if_neg hi]
            rw [List.getElem?_eq_none]
            rw [len_vals, sortM_length]; omega
      · refine ⟨hext.os, hext.tape, hext.output, ?_, fun b hb' => ?_⟩
        · have := hext.size
          simp
          omega
        · rw [hheap b (by have := hext.size; omega), Array.getElem?_modify, if_neg (by have : w0.heap.size ≤ g := hb; omega)]
          exact hext.block b hb'
end Go.Proofs.Ytdoibgmmijhlfaa
