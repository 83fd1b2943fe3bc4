/- Regions that draw their order: a load is taken first although a later store of the same region (of the list D) writes its cell: each of D waits for that load. Plain lemmas, no program. -/
import Derived.Deep.RegionHeld3
namespace Go.Proofs.Ytdoibgmmijhlfaa
open Go
/-- None of D has come up yet. -/
def openB (D : List Nat) (listed : Array Bool) : Bool := D.all fun d => !listed.getD d true
theorem openB_set {D : List Nat} {i : Nat} (h : D.contains i = false) (listed : Array Bool) : openB D (listed.setIfInBounds i true) = openB D listed := by
  unfold openB
  apply Bool.eq_iff_iff.2
  simp only [List.all_eq_true]
  have hne : ∀ d ∈ D, i ≠ d := fun d hd e => by subst e; simp [hd] at h
  exact ⟨fun k d hd => by rw [← getD_set_ne true (hne d hd)]; exact k d hd, fun k d hd => by rw [getD_set_ne true (hne d hd)]; exact k d hd⟩
section
variable {P : Program} {ops : Array Oper} {Q : Exit → Act → World → Prop} {md : Region.Mode} {T S : World → Prop} {D : List Nat}
/-- Whatever order is picked; T holds behind each operation, S as long as none of D has come up. -/
def AnyK (P : Program) (md : Region.Mode) (ops : Array Oper) (Q : Exit → Act → World → Prop) (T S : World → Prop) (D : List Nat) : Nat → Array Bool → Act → World → Prop
  | 0, listed, a, w => Region.ready md ops listed = [] ∧ Q .normal a w
  | fuel + 1, listed, a, w =>
    (Region.ready md ops listed = [] → Q .normal a w) ∧
    ∀ i ∈ Region.ready md ops listed, wpOp P ops Q i (fun a' w' => (T w' ∧ (openB D (listed.setIfInBounds i true) = true → S w')) ∧ AnyK P md ops Q T S D fuel (listed.setIfInBounds i true) a' w') a w
theorem any_of_anyK : ∀ (fuel : Nat) (listed : Array Bool) (a : Act) (w : World), AnyK P md ops Q T S D fuel listed a w → wpAny P md ops Q fuel listed a w
  | 0, _, _, _, h => h
  | fuel + 1, _, _, _, h => ⟨h.1, fun i hi => wpOp_mono (fun a' w' h' => any_of_anyK fuel _ a' w' h'.2) (h.2 i hi)⟩
/-- Each operation of D waits for operation i. -/
def waitsB (md : Region.Mode) (ops : Array Oper) (D : List Nat) (i : Nat) : Bool :=
  D.all fun d => match ops[d]? with
    | none => true
    | some o => o.after.any fun e => Region.binds md e && e.on == i
theorem waits_not {i j : Nat} {listed : Array Bool} (h : waitsB md ops D i = true) (hj : j ∈ Region.ready md ops listed) (hi : listed.getD i true = false) : D.contains j = false := by
  cases hc : D.contains j
  · rfl
  · exfalso
    have hm : j ∈ D := by simpa using hc
    obtain ⟨_, o, ho, hall⟩ := mem_ready.1 hj
    have h1 := List.all_eq_true.1 h j hm
    simp only [ho] at h1
    obtain ⟨e, he, hb⟩ := Array.any_eq_true'.1 h1
    simp only [Bool.and_eq_true, beq_iff_eq] at hb
    have h2 := hall e he hb.1
    rw [hb.2] at h2
    rcases Nat.lt_or_ge i listed.size with h' | h'
    · simp [h'] at hi h2; rw [hi] at h2; cases h2
    · simp [Array.getElem?_eq_none h'] at hi
theorem anyK_first {i : Nat} {oi : Oper} {v : Value} (s : Bool) (hi : ops[i]? = some oi) (hsel : ∀ (j : Nat) (o : Oper) cs b, ops[j]? = some o → o.op ≠ .select cs b)
    (hQ : ∀ c a w, Q (.panic c) (a.put oi.dst v) w → Q (.panic c) a w) (hiD : D.contains i = false) (hW : s = true → waitsB md ops D i = true) :
    ∀ (fuel : Nat) (listed : Array Bool) (a : Act) (w : World),
      (∀ j oj, ops[j]? = some oj → j ≠ i → listed.getD j true = false → (∀ e ∈ oj.after, Region.binds md e = true → e.on ≠ i) → oi.apart ops oj = true) →
      i ∈ Region.ready md ops listed → YieldsIf P ops (fun w => T w ∧ (s = true → S w)) oi v a → (T w ∧ (s = true → S w)) → (T w ∧ (openB D listed = true → S w)) → (s = true → openB D listed = true) →
      AnyK P md ops Q T S D fuel (listed.setIfInBounds i true) (a.put oi.dst v) w → AnyK P md ops Q T S D (fuel + 1) listed a w := by
  intro fuel
  induction fuel with
  | zero =>
    intro listed a w _ hr hy hU hTS hC H
    refine ⟨fun h => (by rw [h] at hr; cases hr), fun j hj => ?_⟩
    by_cases hji : j = i
    · subst hji
      refine YieldsIf.wpOp (S := fun w => T w ∧ (s = true → S w)) hi hy hU ⟨⟨hTS.1, ?_⟩, H⟩
      rw [openB_set hiD]
      exact hTS.2
    · have := ready_mono hj hji
      rw [H.1] at this
      cases this
  | succ fuel ih =>
    intro listed a w hfree hr hy hU hTS hC H
    refine ⟨fun h => (by rw [h] at hr; cases hr), fun j hj => ?_⟩
    by_cases hji : j = i
    · subst hji
      refine YieldsIf.wpOp (S := fun w => T w ∧ (s = true → S w)) hi hy hU ⟨⟨hTS.1, ?_⟩, H⟩
      rw [openB_set hiD]
      exact hTS.2
    · have h1 := H.2 j (ready_mono hj hji)
      have hi0 := (mem_ready.1 hr).1
      have hjD : s = true → D.contains j = false := fun h => waits_not (hW h) hj hi0
      obtain ⟨hjun, oj, hoj, hall⟩ := mem_ready.1 hj
      have hnot : ∀ e ∈ oj.after, Region.binds md e = true → e.on ≠ i := fun e he hb heq => by
        have h1 := hall e he hb
        rw [heq] at h1
        rcases Nat.lt_or_ge i listed.size with h' | h'
        · simp [h'] at hi0 h1; rw [hi0] at h1; cases h1
        · simp [Array.getElem?_eq_none h'] at h1
      have h2 := wpOp_putIf hoj (hfree j oj hoj hji hjun hnot) (fun cs b => hsel i oi cs b hi) (fun cs b => hsel j oj cs b hoj) hQ hy h1
      have hfree' : ∀ k ok, ops[k]? = some ok → k ≠ i → (listed.setIfInBounds j true).getD k true = false →
          (∀ e ∈ ok.after, Region.binds md e = true → e.on ≠ i) → oi.apart ops ok = true := fun k ok hk hki hun hno => by
        refine hfree k ok hk hki ?_ hno
        by_cases hjk : j = k
        · subst hjk; exact hjun
        · rw [getD_set_ne true hjk] at hun; exact hun
      have hcm : (listed.setIfInBounds i true).setIfInBounds j true = (listed.setIfInBounds j true).setIfInBounds i true := Array.setIfInBounds_comm _ _ (Ne.symm hji)
      refine wpOp_mono (fun a' w' h3 => ?_) h2
      obtain ⟨g1, ⟨g2, g3⟩, g4⟩ := h3
      rw [hcm] at g3 g4
      rw [openB_set hiD] at g3
      have hC' : s = true → openB D (listed.setIfInBounds j true) = true := fun h => by rw [openB_set (hjD h)]; exact hC h
      exact ⟨⟨g2, g3⟩, ih (listed.setIfInBounds j true) a' w' hfree' (ready_mono hr (Ne.symm hji)) g1 ⟨g2, fun h => g3 (hC' h)⟩ ⟨g2, g3⟩ hC' g4⟩
/-- Load i is taken first, under T and S. -/
theorem anyK_load (i : Nat) {oi : Oper} {v : Value} {fuel : Nat} {listed : Array Bool} {a : Act} {w : World} (hi : ops[i]? = some oi)
    (hs : Region.noSelect ops = true) (hf : Region.free md ops listed i = true) (hr : (Region.ready md ops listed).contains i = true) (hiD : D.contains i = false) (hD : waitsB md ops D i = true) (hO : openB D listed = true)
    (hQ : ∀ c a w, Q (.panic c) (a.put oi.dst v) w → Q (.panic c) a w) (hw : Region.wanted oi (yielded ops a.tmps) = true) (hT : T w) (hS : S w) (hy : ∀ w, T w → S w → (execOp a.eval oi).run P w = .ok (.value v) w)
    (h : AnyK P md ops Q T S D fuel (listed.setIfInBounds i true) (a.put oi.dst v) w) : AnyK P md ops Q T S D (fuel + 1) listed a w :=
  anyK_first true hi (Region.noSelect_spec hs) hQ hiD (fun _ => hD) fuel listed a w (Region.free_spec hi hf) (by simpa using hr) (.inl ⟨hw, fun w h => hy w h.1 (h.2 rfl)⟩) ⟨hT, fun _ => hS⟩ ⟨hT, fun _ => hS⟩ (fun _ => hO) h
/-- An operation is taken first, under T alone. -/
theorem anyK_take (i : Nat) {oi : Oper} {v : Value} {fuel : Nat} {listed : Array Bool} {a : Act} {w : World} (hi : ops[i]? = some oi)
    (hs : Region.noSelect ops = true) (hf : Region.free md ops listed i = true) (hr : (Region.ready md ops listed).contains i = true) (hiD : D.contains i = false)
    (hQ : ∀ c a w, Q (.panic c) (a.put oi.dst v) w → Q (.panic c) a w) (hw : Region.wanted oi (yielded ops a.tmps) = true) (hT : T w) (hS : openB D listed = true → S w) (hy : ∀ w, T w → (execOp a.eval oi).run P w = .ok (.value v) w)
    (h : AnyK P md ops Q T S D fuel (listed.setIfInBounds i true) (a.put oi.dst v) w) : AnyK P md ops Q T S D (fuel + 1) listed a w :=
  anyK_first false hi (Region.noSelect_spec hs) hQ hiD (fun h => by cases h) fuel listed a w (Region.free_spec hi hf) (by simpa using hr) (.inl ⟨hw, fun w h => hy w h.1⟩) ⟨hT, fun h => by cases h⟩ ⟨hT, hS⟩ (fun h => by cases h) h
/-- An operation whose guard is false is taken first. -/
theorem anyK_skip (i : Nat) {oi : Oper} {fuel : Nat} {listed : Array Bool} {a : Act} {w : World} (hi : ops[i]? = some oi)
    (hs : Region.noSelect ops = true) (hf : Region.free md ops listed i = true) (hr : (Region.ready md ops listed).contains i = true) (hiD : D.contains i = false)
    (hQ : ∀ c a w, Q (.panic c) (a.put oi.dst undef) w → Q (.panic c) a w) (hw : Region.wanted oi (yielded ops a.tmps) = false) (hT : T w) (hS : openB D listed = true → S w)
    (h : AnyK P md ops Q T S D fuel (listed.setIfInBounds i true) (a.put oi.dst undef) w) : AnyK P md ops Q T S D (fuel + 1) listed a w :=
  anyK_first false hi (Region.noSelect_spec hs) hQ hiD (fun h => by cases h) fuel listed a w (Region.free_spec hi hf) (by simpa using hr) (.inr ⟨hw, rfl⟩) ⟨hT, fun h => by cases h⟩ ⟨hT, hS⟩ (fun h => by cases h) h
theorem anyK_on {fuel : Nat} {listed : Array Bool} {a : Act} {w : World} (rs : List Nat) (hr : Region.ready md ops listed = rs) (hne : rs ≠ [])
    (h : ∀ i ∈ rs, wpOp P ops Q i (fun a' w' => (T w' ∧ (openB D (listed.setIfInBounds i true) = true → S w')) ∧ AnyK P md ops Q T S D fuel (listed.setIfInBounds i true) a' w') a w) : AnyK P md ops Q T S D (fuel + 1) listed a w :=
  ⟨fun h0 => absurd (hr ▸ h0) hne, hr ▸ h⟩
theorem anyK_on1 {fuel : Nat} {listed : Array Bool} {a : Act} {w : World} (i : Nat) (hr : Region.ready md ops listed = [i])
    (h : wpOp P ops Q i (fun a' w' => (T w' ∧ (openB D (listed.setIfInBounds i true) = true → S w')) ∧ AnyK P md ops Q T S D fuel (listed.setIfInBounds i true) a' w') a w) : AnyK P md ops Q T S D (fuel + 1) listed a w :=
  anyK_on [i] hr (by simp) (fun j hj => by
    obtain rfl : j = i := by simpa using hj
    exact h)
theorem anyK_on2 {fuel : Nat} {listed : Array Bool} {a : Act} {w : World} (i j : Nat) (hr : Region.ready md ops listed = [i, j])
    (h : wpOp P ops Q i (fun a' w' => (T w' ∧ (openB D (listed.setIfInBounds i true) = true → S w')) ∧ AnyK P md ops Q T S D fuel (listed.setIfInBounds i true) a' w') a w)
    (h2 : wpOp P ops Q j (fun a' w' => (T w' ∧ (openB D (listed.setIfInBounds j true) = true → S w')) ∧ AnyK P md ops Q T S D fuel (listed.setIfInBounds j true) a' w') a w) : AnyK P md ops Q T S D (fuel + 1) listed a w :=
  anyK_on [i, j] hr (by simp) (fun k hk => by
    rcases List.mem_cons.1 hk with rfl | hk
    · exact h
    · obtain rfl : k = j := by simpa using hk
      exact h2)
theorem anyK_one {fuel : Nat} {listed : Array Bool} {a : Act} {w : World} (i : Nat) {o : Oper} (ho : ops[i]? = some o)
    (h : ∀ K' : Act → World → Prop, Shut (∀ a w, T w → (openB D (listed.setIfInBounds i true) = true → S w) → AnyK P md ops Q T S D fuel (listed.setIfInBounds i true) a w → K' a w) → if Region.wanted o (yielded ops a.tmps) = true then Oper.wp P o a w K' Q else K' (a.put o.dst undef) w) :
    wpOp P ops Q i (fun a' w' => (T w' ∧ (openB D (listed.setIfInBounds i true) = true → S w')) ∧ AnyK P md ops Q T S D fuel (listed.setIfInBounds i true) a' w') a w :=
  wpOp_step ho (fun K' hK => h K' (fun a w hT hS hW => hK a w ⟨⟨hT, hS⟩, hW⟩))
theorem anyK_done {listed : Array Bool} {a : Act} {w : World} (hr : Region.ready md ops listed = []) (h : Q .normal a w) : ∀ fuel, AnyK P md ops Q T S D fuel listed a w
  | 0 => ⟨hr, h⟩
  | _ + 1 => ⟨fun _ => h, by rw [hr]; simp⟩
theorem region_K {id : Nat} {a : Act} {w : World} (T S : World → Prop) (D : List Nat) (hm : P.follows .mixedOrders = true)
    (h : AnyK P .any ops Q T S D ops.size (Array.replicate ops.size false) a w.drew) : (Code.region id ops true).wp P Q a w :=
  wp_region_any hm (any_of_anyK _ _ _ _ h)
end
end Go.Proofs.Ytdoibgmmijhlfaa
