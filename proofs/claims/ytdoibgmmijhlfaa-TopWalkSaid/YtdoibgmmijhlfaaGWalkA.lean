/- Sampled games as plain data. No program. Sampled games in memory: the source, the sampler, the tree of nodes. Walks over the package walk: Source, root. Walk: root. Walks over the package walk: sample, choose. Walk: choose. -/
import Derived.Test.YtdoibgmmijhlfaaGProofP
import Derived.Test.YtdoibgmmijhlfaaGZob
import Derived.Test.YtdoibgmmijhlfaaGMini
import Derived.Test.YtdoibgmmijhlfaaGPerft
import Derived.Test.YtdoibgmmijhlfaaRegionK
import Derived.Deep.QuietTactic
import Derived.BigQuiet
import Derived.BigFrame
namespace Go.Proofs.Ytdoibgmmijhlfaa
set_option linter.unusedVariables false
/-- The k-th number that a source draws, below n. -/
def belowM (seed : Int) (k : Nat) (n : Int) : Int := (mixM (4096 * seed + k) / 2) % n
theorem below_bd {seed : Int} {k : Nat} {n : Int} (h : 1 ≤ n) : 0 ≤ belowM seed k n ∧ belowM seed k n < n := ⟨Int.emod_nonneg _ (by omega), Int.emod_lt_of_pos _ (by omega)⟩
/-- The result of a game that is sampled, and how many numbers have been drawn. -/
def sampleM (R : RulesM) (seed : Int) : Nat → PosM → Nat → Int × Nat
  | 0, P, k => (resultM R P, k)
  | n + 1, P, k => if movesM R P = [] then (resultM R P, k) else sampleM R seed n (makeM R P ((movesM R P).getD (belowM seed (k + 1) (movesM R P).length).toNat ⟨0, 0, 0⟩)) (k + 1)
/-- The square root, rounded down. -/
def rootF (n : Int) : Nat → Int → Int
  | 0, k => k
  | f + 1, k => if (k + 1) * (k + 1) ≤ n then rootF n f (k + 1) else k
def rootM (n : Int) : Int := rootF n n.toNat 0
def freshW (P : PosM) : NT := .node P 0 0 false []
def kidsW (R : RulesM) (P : PosM) : List NT := (listM R P).map fun m => freshW (makeM R P m)
def growW (R : RulesM) (t : NT) : NT := if t.kids = [] then .node t.pos t.a t.b t.ex (kidsW R t.pos) else t
/-- The first index below n whose child has not been visited. -/
def zeroI (ks : List NT) : Option Nat := ks.findIdx? fun k => k.a == 0
/-- The child of the greatest promise among the first n. -/
def promI (b : Int) (ks : List NT) : Nat → Nat
  | 0 => 0
  | n + 1 => if (10 * (ks.getD (promI b ks n) NT.nil).b + b) * (ks.getD n NT.nil).a < (10 * (ks.getD n NT.nil).b + b) * (ks.getD (promI b ks n) NT.nil).a then n else promI b ks n
def chooseW (t : NT) : Nat := match zeroI t.kids with | some i => i | none => promI (rootM (100 * t.a)) t.kids t.kids.length
def pointsW (P : PosM) (x : Int) : Int := if x = 2 - P.turn then 2 else if x = 3 ∨ x = 0 then 1 else 0
/-- A step below a node: the node after it, how many numbers have been drawn, the outcome. -/
def stepW (R : RulesM) (seed : Int) : Nat → Bool → NT → Nat → NT × Nat × Int
  | 0, _, t, k => (t, k, 0)
  | n + 1, first, t, k =>
    if resultM R t.pos ≠ 0 then (.node t.pos (t.a + 1) (t.b + pointsW t.pos (resultM R t.pos)) t.ex t.kids, k, resultM R t.pos)
    else if first = false ∧ t.a = 0 then
      (.node t.pos (t.a + 1) (t.b + pointsW t.pos (sampleM R seed 200 t.pos k).1) t.ex t.kids, (sampleM R seed 200 t.pos k).2, (sampleM R seed 200 t.pos k).1)
    else
      let g := growW R t
      let r := stepW R seed n false (g.kids.getD (chooseW g) NT.nil) k
      (.node t.pos (t.a + 1) (t.b + pointsW t.pos r.2.2) t.ex (g.kids.set (chooseW g) r.1), r.2.1, r.2.2)
/-- What the nodes of a tree are: at most V visits. -/
inductive WInv (R : RulesM) (V : Int) : NT → Prop
  | mk (P : PosM) (a b : Int) (ex : Bool) (ks : List NT) (hS : Sound R P) (ha : 0 ≤ a) (hV : a ≤ V) (hb : 0 ≤ b) (hb2 : b ≤ 2 * a) (he : ks = [] ∨ (resultM R P = 0 ∧ ks.length = (listM R P).length))
      (hk : ∀ (i : Nat) (k : NT), ks[i]? = some k → WInv R V k) (hp : ∀ (i : Nat) (k : NT) (m : MoveM), ks[i]? = some k → (listM R P)[i]? = some m → k.pos = makeM R P m) : WInv R V (.node P a b ex ks)
theorem points_bd (P : PosM) (x : Int) : 0 ≤ pointsW P x ∧ pointsW P x ≤ 2 := by unfold pointsW; split <;> (try split) <;> omega
theorem kidsW_get {R : RulesM} {P : PosM} {i : Nat} {k : NT} (h : (kidsW R P)[i]? = some k) : ∃ m, (listM R P)[i]? = some m ∧ k = freshW (makeM R P m) := by
  unfold kidsW at h
  rw [List.getElem?_map] at h
  cases hm : (listM R P)[i]? with
  | none => rw [hm] at h; simp at h
  | some m => rw [hm] at h; simp only [Option.map_some, Option.some.injEq] at h; exact ⟨m, rfl, h.symm⟩
theorem zero_some {ks : List NT} {i : Nat} (h : zeroI ks = some i) : i < ks.length ∧ (ks.getD i NT.nil).a = 0 ∧ ∀ j, j < i → (ks.getD j NT.nil).a ≠ 0 := by
  unfold zeroI at h
  obtain ⟨h1, h2, h3⟩ := List.findIdx?_eq_some_iff_getElem.1 h
  refine ⟨h1, ?_, fun j hj => ?_⟩
  · rw [List.getD_eq_getElem?_getD, List.getElem?_eq_getElem h1]
    simpa using h2
  · have := h3 j hj
    rw [List.getD_eq_getElem?_getD, List.getElem?_eq_getElem (by omega)]
    simpa using this
theorem zero_none {ks : List NT} (h : zeroI ks = none) : ∀ j, j < ks.length → (ks.getD j NT.nil).a ≠ 0 := fun j hj => by
  unfold zeroI at h
  rw [List.findIdx?_eq_none_iff] at h
  have := h (ks[j]) (List.getElem_mem hj)
  rw [List.getD_eq_getElem?_getD, List.getElem?_eq_getElem hj]
  simpa using this
theorem prom_lt (b : Int) (ks : List NT) : ∀ n, 1 ≤ n → promI b ks n < n
  | 0, h => by omega
  | n + 1, _ => by
    unfold promI
    split
    · omega
    · by_cases h : n = 0
      · subst h; show 0 < 1; omega
      · have := prom_lt b ks n (by omega); omega
theorem choose_lt {t : NT} (h : t.kids ≠ []) : chooseW t < t.kids.length := by
  have hl : 1 ≤ t.kids.length := List.length_pos_iff.2 h
  unfold chooseW
  split
  · rename_i i hi; exact (zero_some hi).1
  · exact prom_lt _ _ _ hl
theorem WInv.mono {R : RulesM} {V U : Int} {t : NT} (h : WInv R V t) (hu : V ≤ U) : WInv R U t := by
  induction h with
  | mk P a b ex ks hS ha hV hb hb2 he hk hp ih => exact .mk P a b ex ks hS ha (by omega) hb hb2 he ih hp
theorem WInv.fresh {R : RulesM} {V : Int} {P : PosM} (hS : Sound R P) (hV : 0 ≤ V) : WInv R V (freshW P) :=
  .mk P 0 0 false [] hS (Int.le_refl _) hV (Int.le_refl _) (by omega) (.inl rfl) (fun i k h => by simp at h) (fun i k m h => by simp at h)
theorem WInv.sound {R : RulesM} {V : Int} {t : NT} (h : WInv R V t) : Sound R t.pos := by cases h with | mk P a b ex ks hS ha hV hb hb2 he hk hp => exact hS
theorem WInv.kid {R : RulesM} {V : Int} {t : NT} (h : WInv R V t) : ∀ (i : Nat) (k : NT), t.kids[i]? = some k → WInv R V k := by cases h with | mk P a b ex ks hS ha hV hb hb2 he hk hp => exact hk
theorem WInv.bd {R : RulesM} {V : Int} {t : NT} (h : WInv R V t) : 0 ≤ t.a ∧ t.a ≤ V ∧ 0 ≤ t.b ∧ t.b ≤ 2 * t.a := by cases h with | mk P a b ex ks hS ha hV hb hb2 he hk hp => exact ⟨ha, hV, hb, hb2⟩
theorem WInv.klen {R : RulesM} {V : Int} {t : NT} (h : WInv R V t) : t.kids = [] ∨ (resultM R t.pos = 0 ∧ t.kids.length = (listM R t.pos).length) := by cases h with | mk P a b ex ks hS ha hV hb hb2 he hk hp => exact he
theorem WInv.kpos {R : RulesM} {V : Int} {t : NT} (h : WInv R V t) : ∀ (i : Nat) (k : NT) (m : MoveM), t.kids[i]? = some k → (listM R t.pos)[i]? = some m → k.pos = makeM R t.pos m := by cases h with | mk P a b ex ks hS ha hV hb hb2 he hk hp => exact hp
theorem kidsW_len (R : RulesM) (P : PosM) : (kidsW R P).length = (listM R P).length := by unfold kidsW; rw [List.length_map]
theorem list_ne {R : RulesM} {P : PosM} (hS : Sound R P) (hr : resultM R P = 0) : listM R P ≠ [] := by
  exact moves_open hS.turn hr
theorem growW_kids {R : RulesM} {t : NT} (hS : Sound R t.pos) (hr : resultM R t.pos = 0) : (growW R t).kids ≠ [] := by
  unfold growW
  split
  · show kidsW R t.pos ≠ []
    intro e
    have := kidsW_len R t.pos
    rw [e] at this
    exact list_ne hS hr (List.eq_nil_of_length_eq_zero this.symm)
  · assumption
theorem growW_pos (R : RulesM) (t : NT) : (growW R t).pos = t.pos := by unfold growW; split <;> rfl
theorem growW_a (R : RulesM) (t : NT) : (growW R t).a = t.a := by unfold growW; split <;> rfl
theorem growW_b (R : RulesM) (t : NT) : (growW R t).b = t.b := by unfold growW; split <;> rfl
theorem growW_ex (R : RulesM) (t : NT) : (growW R t).ex = t.ex := by unfold growW; split <;> rfl
theorem NT.eta (t : NT) : t = .node t.pos t.a t.b t.ex t.kids := by cases t; rfl
theorem WInv.grow {R : RulesM} {V : Int} {t : NT} (hV : Valid R) (hV0 : 0 ≤ V) (h : WInv R V t) (hr : resultM R t.pos = 0) : WInv R V (growW R t) := by
  unfold growW
  split
  · obtain ⟨h1, h2, h3, h4⟩ := h.bd
    refine .mk t.pos t.a t.b t.ex (kidsW R t.pos) h.sound h1 h2 h3 h4 (.inr ⟨hr, kidsW_len R t.pos⟩) (fun i k hi => ?_) (fun i k m hi hm => ?_)
    · obtain ⟨m, hm, rfl⟩ := kidsW_get hi
      exact WInv.fresh (sound_make hV h.sound (mem_listM.1 (List.mem_of_getElem? hm))) hV0
    · obtain ⟨m', hm', rfl⟩ := kidsW_get hi
      rw [hm] at hm'
      cases hm'
      rfl
  · exact h
theorem stepW_over {R : RulesM} {s : Int} {n : Nat} {f : Bool} {t : NT} {k : Nat} (h : resultM R t.pos ≠ 0) : stepW R s (n + 1) f t k = (.node t.pos (t.a + 1) (t.b + pointsW t.pos (resultM R t.pos)) t.ex t.kids, k, resultM R t.pos) := if_pos h
theorem stepW_fresh {R : RulesM} {s : Int} {n : Nat} {t : NT} {k : Nat} (h : resultM R t.pos = 0) (h0 : t.a = 0) : stepW R s (n + 1) false t k =
    (.node t.pos (t.a + 1) (t.b + pointsW t.pos (sampleM R s 200 t.pos k).1) t.ex t.kids, (sampleM R s 200 t.pos k).2, (sampleM R s 200 t.pos k).1) := by
  unfold stepW
  rw [if_neg (by simpa using h), if_pos ⟨rfl, h0⟩]
theorem stepW_open {R : RulesM} {s : Int} {n : Nat} {f : Bool} {t : NT} {k : Nat} (h : resultM R t.pos = 0) (h0 : f = true ∨ t.a ≠ 0) : stepW R s (n + 1) f t k =
    (.node t.pos (t.a + 1) (t.b + pointsW t.pos (stepW R s n false ((growW R t).kids.getD (chooseW (growW R t)) NT.nil) k).2.2) t.ex ((growW R t).kids.set (chooseW (growW R t)) (stepW R s n false ((growW R t).kids.getD (chooseW (growW R t)) NT.nil) k).1),
      (stepW R s n false ((growW R t).kids.getD (chooseW (growW R t)) NT.nil) k).2.1, (stepW R s n false ((growW R t).kids.getD (chooseW (growW R t)) NT.nil) k).2.2) := by
  show (if resultM R t.pos ≠ 0 then _ else if f = false ∧ t.a = 0 then _ else _) = _
  rw [if_neg (by simpa using h), if_neg (by rintro ⟨e, e2⟩; rcases h0 with h0 | h0; · rw [h0] at e; cases e
                                            · exact h0 e2)]
theorem step_cases (R : RulesM) (f : Bool) (t : NT) : resultM R t.pos ≠ 0 ∨ (resultM R t.pos = 0 ∧ f = false ∧ t.a = 0) ∨ (resultM R t.pos = 0 ∧ (f = true ∨ t.a ≠ 0)) := by
  by_cases h : resultM R t.pos = 0
  · by_cases h0 : t.a = 0
    · cases f
      · exact .inr (.inl ⟨h, rfl, h0⟩)
      · exact .inr (.inr ⟨h, .inl rfl⟩)
    · exact .inr (.inr ⟨h, .inr h0⟩)
  · exact .inl h
/-- What a step does to a node: one more visit, at most two points. -/
theorem step_node {R : RulesM} {s : Int} (n : Nat) (f : Bool) (t : NT) (k : Nat) : (stepW R s (n + 1) f t k).1.pos = t.pos ∧ (stepW R s (n + 1) f t k).1.a = t.a + 1 ∧ t.b ≤ (stepW R s (n + 1) f t k).1.b ∧ (stepW R s (n + 1) f t k).1.b ≤ t.b + 2 := by
  rcases step_cases R f t with h | ⟨h, rfl, h0⟩ | ⟨h, h0⟩
  · rw [stepW_over h]
    have := points_bd t.pos (resultM R t.pos)
    refine ⟨rfl, rfl, ?_, ?_⟩
    · show t.b ≤ t.b + _; omega
    · show t.b + _ ≤ t.b + 2; omega
  · rw [stepW_fresh h h0]
    have := points_bd t.pos (sampleM R s 200 t.pos k).1
    refine ⟨rfl, rfl, ?_, ?_⟩
    · show t.b ≤ t.b + _; omega
    · show t.b + _ ≤ t.b + 2; omega
  · rw [stepW_open h h0]
    have := points_bd t.pos (stepW R s n false ((growW R t).kids.getD (chooseW (growW R t)) NT.nil) k).2.2
    refine ⟨rfl, rfl, ?_, ?_⟩
    · show t.b ≤ t.b + _; omega
    · show t.b + _ ≤ t.b + 2; omega
theorem getD_get' {ks : List NT} {i : Nat} (h : i < ks.length) : ks[i]? = some (ks.getD i NT.nil) := by
  rw [List.getD_eq_getElem?_getD, List.getElem?_eq_getElem h]; rfl
theorem WInv.step {R : RulesM} {s V : Int} (hV : Valid R) (h0 : 0 ≤ V) : ∀ (n : Nat) (f : Bool) (t : NT) (k : Nat), WInv R V t → WInv R (V + 1) (stepW R s n f t k).1
  | 0, f, t, k, h => h.mono (by omega)
  | n + 1, f, t, k, h => by
    obtain ⟨h1, h2, h3, h4⟩ := h.bd
    rcases step_cases R f t with hr | ⟨hr, rfl, h00⟩ | ⟨hr, h00⟩
    · rw [stepW_over hr]
      have := points_bd t.pos (resultM R t.pos)
      exact .mk _ _ _ _ _ h.sound (by omega) (by omega) (by omega) (by omega) h.klen (fun i q hi => (h.kid i q hi).mono (by omega)) h.kpos
    · rw [stepW_fresh hr h00]
      have := points_bd t.pos (sampleM R s 200 t.pos k).1
      exact .mk _ _ _ _ _ h.sound (by omega) (by omega) (by omega) (by omega) h.klen (fun i q hi => (h.kid i q hi).mono (by omega)) h.kpos
    · rw [stepW_open hr h00]
      have hg := h.grow hV h0 hr
      have hlt := choose_lt (growW_kids (t := t) h.sound hr)
      generalize hj : chooseW (growW R t) = j at *
      have hkid : WInv R V ((growW R t).kids.getD j NT.nil) := hg.kid j _ (getD_get' hlt)
      have ih := WInv.step (s := s) hV h0 n false _ k hkid
      have hpos : n = 0 ∨ ∃ m, n = m + 1 := by cases n with | zero => exact .inl rfl | succ m => exact .inr ⟨m, rfl⟩
      have hps : (stepW R s n false ((growW R t).kids.getD j NT.nil) k).1.pos = ((growW R t).kids.getD j NT.nil).pos := by
        rcases hpos with rfl | ⟨m, rfl⟩
        · rfl
        · exact (step_node m false _ k).1
      generalize stepW R s n false ((growW R t).kids.getD j NT.nil) k = r at *
      have := points_bd t.pos r.2.2
      have hl : ((growW R t).kids.set j r.1).length = (growW R t).kids.length := List.length_set
      refine .mk _ _ _ _ _ h.sound (by omega) (by omega) (by omega) (by omega) (.inr ⟨hr, ?_⟩) (fun i q hi => ?_) (fun i q m hi hm => ?_)
      · rw [hl]
        rcases hg.klen with e | ⟨-, e⟩
        · exact absurd e (growW_kids h.sound hr)
        · rw [growW_pos] at e; exact e
      · rw [List.getElem?_set] at hi
        by_cases e : j = i
        · rw [if_pos e] at hi
          subst e
          rw [if_pos hlt] at hi
          cases hi
          exact ih
        · rw [if_neg e] at hi
          exact (hg.kid i q hi).mono (by omega)
      · rw [List.getElem?_set] at hi
        have hp := hg.kpos
        rw [growW_pos] at hp
        by_cases e : j = i
        · rw [if_pos e] at hi
          subst e
          rw [if_pos hlt] at hi
          cases hi
          rw [hps]
          exact hp j _ m (getD_get' hlt) hm
        · rw [if_neg e] at hi
          exact hp i q m hi hm
/-- The tree after so many steps, and how many numbers have been drawn. -/
def runW (R : RulesM) (s : Int) (P : PosM) : Nat → NT × Nat
  | 0 => (growW R (.node P 1 0 false []), 0)
  | i + 1 => ((stepW R s 20000 true (runW R s P i).1 (runW R s P i).2).1, (stepW R s 20000 true (runW R s P i).1 (runW R s P i).2).2.1)
theorem run_inv {R : RulesM} {s : Int} {P : PosM} (hV : Valid R) (hS : Sound R P) (hr : resultM R P = 0) : ∀ i : Nat, WInv R ((i : Int) + 1) (runW R s P i).1 ∧ (runW R s P i).1.pos = P ∧ (runW R s P i).1.kids.length = (listM R P).length
  | 0 => by
    have h0 : WInv R 1 (.node P 1 0 false []) := .mk P 1 0 false [] hS (by omega) (by omega) (by omega) (by omega) (.inl rfl) (fun i k h => by simp at h) (fun i k m h => by simp at h)
    have hg := h0.grow hV (by omega) hr
    refine ⟨hg.mono (by omega), growW_pos R (.node P 1 0 false []), ?_⟩
    show (growW R (.node P 1 0 false [])).kids.length = _
    rcases hg.klen with e | ⟨-, e⟩
    · exact absurd e (growW_kids (t := .node P 1 0 false []) hS hr)
    · rw [growW_pos] at e; exact e
  | i + 1 => by
    obtain ⟨h1, h2, h3⟩ := run_inv (s := s) hV hS hr i
    have e := h1.step (s := s) hV (by omega) 20000 true (runW R s P i).1 (runW R s P i).2 
    have hp : (runW R s P (i + 1)).1.pos = P := ((step_node 19999 true _ _).1).trans h2
    have hw : WInv R (((i + 1 : Nat) : Int) + 1) (runW R s P (i + 1)).1 := e.mono (by omega)
    refine ⟨hw, hp, ?_⟩
    rcases hw.klen with e | ⟨-, e⟩
    · exfalso
      have hne : (runW R s P (i + 1)).1.kids.length ≠ 0 := by
        show (stepW R s (19999 + 1) true _ _).1.kids.length ≠ 0
        rw [stepW_open (by rw [h2]; exact hr) (.inl rfl)]
        show (List.set _ _ _).length ≠ 0
        rw [List.length_set]
        intro h
        exact growW_kids (by rw [h2]; exact hS) (by rw [h2]; exact hr) (List.eq_nil_of_length_eq_zero h)
      rw [e] at hne
      exact hne rfl
    · rw [hp] at e; exact e
/-- A step from the root: one child is visited. -/
theorem run_kids {R : RulesM} {s : Int} {P : PosM} (hV : Valid R) (hS : Sound R P) (hr : resultM R P = 0) (i : Nat) : ∃ r : NT, chooseW (runW R s P i).1 < (runW R s P i).1.kids.length ∧ (runW R s P (i + 1)).1.kids = (runW R s P i).1.kids.set (chooseW (runW R s P i).1) r ∧
    r.a = ((runW R s P i).1.kids.getD (chooseW (runW R s P i).1) NT.nil).a + 1 ∧ ((runW R s P i).1.kids.getD (chooseW (runW R s P i).1) NT.nil).b ≤ r.b := by
  obtain ⟨h1, h2, h3⟩ := run_inv (s := s) hV hS hr i
  have hne : (runW R s P i).1.kids ≠ [] := fun e => by
    rw [e] at h3
    exact list_ne hS hr (List.eq_nil_of_length_eq_zero h3.symm)
  have hg : growW R (runW R s P i).1 = (runW R s P i).1 := by unfold growW; rw [if_neg hne]
  have e : (runW R s P (i + 1)).1 = (stepW R s (19999 + 1) true (runW R s P i).1 (runW R s P i).2).1 := rfl
  rw [stepW_open (by rw [h2]; exact hr) (.inl rfl), hg] at e
  rw [e]
  generalize runW R s P i = T at *
  have hs := step_node (R := R) (s := s) 19998 false (T.1.kids.getD (chooseW T.1) NT.nil) T.2
  exact ⟨_, choose_lt hne, rfl, hs.2.1, hs.2.2.1⟩
def sumA (ks : List NT) : Int := (ks.map NT.a).sum
theorem sumA_cons (k : NT) (ks : List NT) : sumA (k :: ks) = k.a + sumA ks := by unfold sumA; rw [List.map_cons, List.sum_cons]
theorem sumA_set : ∀ {ks : List NT} {i : Nat} {r : NT}, i < ks.length → sumA (ks.set i r) = sumA ks - (ks.getD i NT.nil).a + r.a
  | [], i, r, h => by simp at h
  | x :: ks, 0, r, _ => by
    rw [List.set_cons_zero, sumA_cons, sumA_cons]
    show r.a + sumA ks = x.a + sumA ks - x.a + r.a
    omega
  | x :: ks, i + 1, r, h => by
    have ih := sumA_set (ks := ks) (i := i) (r := r) (by simpa using h)
    rw [List.set_cons_succ, sumA_cons, sumA_cons, ih]
    show x.a + (sumA ks - (ks.getD i NT.nil).a + r.a) = x.a + sumA ks - (ks.getD i NT.nil).a + r.a
    omega
theorem sumA_take {ks : List NT} {i : Nat} {k : NT} (h : ks[i]? = some k) : sumA (ks.take (i + 1)) = sumA (ks.take i) + k.a := by
  unfold sumA
  rw [List.take_add_one, h, List.map_append, List.sum_append]
  simp
theorem sumA_zero : ∀ {ks : List NT}, (∀ k ∈ ks, k.a = 0) → sumA ks = 0
  | [], _ => rfl
  | k :: ks, h => by rw [sumA_cons, h k (by simp), sumA_zero (fun q hq => h q (by simp [hq]))]; rfl
theorem run_zero {R : RulesM} {s : Int} {P : PosM} : ∀ k ∈ (runW R s P 0).1.kids, k.a = 0 := fun k hk => by
  have hk' : k ∈ (growW R (.node P 1 0 false [])).kids := hk
  have hk2 : k ∈ kidsW R P := by
    unfold growW at hk'
    rw [if_pos (show (NT.node P 1 0 false []).kids = [] from rfl)] at hk'
    exact hk'
  unfold kidsW at hk2
  obtain ⟨m, -, rfl⟩ := List.mem_map.1 hk2
  rfl
/-- The visits of all moves are the steps. -/
theorem run_sum {R : RulesM} {s : Int} {P : PosM} (hV : Valid R) (hS : Sound R P) (hr : resultM R P = 0) : ∀ i : Nat, sumA (runW R s P i).1.kids = i
  | 0 => sumA_zero run_zero
  | i + 1 => by
    obtain ⟨r, h1, h2, h3, -⟩ := run_kids (s := s) hV hS hr i
    rw [h2, sumA_set h1, run_sum hV hS hr i, h3]
    omega
/-- More steps only add visits and points. -/
theorem run_more {R : RulesM} {s : Int} {P : PosM} (hV : Valid R) (hS : Sound R P) (hr : resultM R P = 0) (i x : Nat) : ∀ d, ((runW R s P i).1.kids.getD x NT.nil).a ≤ ((runW R s P (i + d)).1.kids.getD x NT.nil).a ∧ ((runW R s P i).1.kids.getD x NT.nil).b ≤ ((runW R s P (i + d)).1.kids.getD x NT.nil).b
  | 0 => ⟨Int.le_refl _, Int.le_refl _⟩
  | d + 1 => by
    obtain ⟨r, h1, h2, h3, h4⟩ := run_kids (s := s) hV hS hr (i + d)
    obtain ⟨g1, g2⟩ := run_more (s := s) hV hS hr i x d
    rw [show i + (d + 1) = i + d + 1 by omega, h2]
    generalize chooseW (runW R s P (i + d)).1 = j at *
    have hd : ∀ l : List NT, l.getD x NT.nil = (l[x]?).getD NT.nil := fun l => List.getD_eq_getElem?_getD
    by_cases e : j = x
    · subst e
      have hs : ((runW R s P (i + d)).1.kids.set j r).getD j NT.nil = r := by
        rw [hd, List.getElem?_set, if_pos rfl, if_pos h1]; rfl
      rw [hs]
      omega
    · have hs : ((runW R s P (i + d)).1.kids.set j r).getD x NT.nil = (runW R s P (i + d)).1.kids.getD x NT.nil := by
        rw [hd, List.getElem?_set, if_neg e, ← hd]
      rw [hs]
      exact ⟨g1, g2⟩
/-- As long as there are moves that have not been visited, the first one of them is next. -/
theorem run_first {R : RulesM} {s : Int} {P : PosM} (hV : Valid R) (hS : Sound R P) (hr : resultM R P = 0) : ∀ i : Nat, i ≤ (listM R P).length → ∀ x, x < (listM R P).length → ((runW R s P i).1.kids.getD x NT.nil).a = if x < i then 1 else 0
  | 0, _, x, hx => by
    have h3 := (run_inv (s := s) hV hS hr 0).2.2
    rw [if_neg (by omega)]
    exact run_zero _ (List.mem_of_getElem? (getD_get' (by omega)))
  | i + 1, hi, x, hx => by
    have ih := run_first (s := s) hV hS hr i (by omega)
    have hl := (run_inv (s := s) hV hS hr i).2.2
    obtain ⟨r, h1, h2, h3, -⟩ := run_kids (s := s) hV hS hr i
    have hc : chooseW (runW R s P i).1 = i := by
      unfold chooseW
      cases hz : zeroI (runW R s P i).1.kids with
      | none =>
        exact absurd (show ((runW R s P i).1.kids.getD i NT.nil).a = 0 by rw [ih i (by omega), if_neg (by omega)]) (zero_none hz i (by omega))
      | some j =>
        obtain ⟨z1, z2, z3⟩ := zero_some hz
        show j = i
        by_cases hji : j < i
        · rw [ih j (by omega), if_pos hji] at z2; omega
        · by_cases hij : i < j
          · exact absurd (by rw [ih i (by omega), if_neg (by omega)]) (z3 i hij)
          · omega
    rw [hc] at h1 h2 h3
    have hd : ∀ l : List NT, l.getD x NT.nil = (l[x]?).getD NT.nil := fun l => List.getD_eq_getElem?_getD
    rw [h2]
    by_cases e : i = x
    · subst e
      have hs : ((runW R s P i).1.kids.set i r).getD i NT.nil = r := by
        rw [hd, List.getElem?_set, if_pos rfl, if_pos h1]; rfl
      rw [hs, h3, ih i (by omega), if_neg (by omega), if_pos (by omega)]
      rfl
    · have hs : ((runW R s P i).1.kids.set i r).getD x NT.nil = (runW R s P i).1.kids.getD x NT.nil := by
        rw [hd, List.getElem?_set, if_neg e, ← hd]
      rw [hs, ih x hx]
      by_cases hxi : x < i
      · rw [if_pos hxi, if_pos (by omega)]
      · rw [if_neg hxi, if_neg (by omega)]
theorem rootF_le (n : Int) : ∀ f k, 0 ≤ k → k ≤ rootF n f k ∧ rootF n f k ≤ k + f
  | 0, k, h => ⟨Int.le_refl _, by show k ≤ k + (0 : Nat); omega⟩
  | f + 1, k, h => by
    unfold rootF
    split
    · have := rootF_le n f (k + 1) (by omega); omega
    · omega
theorem root_bd {n : Int} (h : 0 ≤ n) : 0 ≤ rootM n ∧ rootM n ≤ n := by
  have := rootF_le n n.toNat 0 (Int.le_refl _)
  unfold rootM
  omega
end Go.Proofs.Ytdoibgmmijhlfaa
namespace Go.Proofs.Ytdoibgmmijhlfaa
open Go.ChangeShapes Go.WideShapes Go.ChangeAt Go.RowKit Go.Shelf
set_option linter.unusedVariables false
set_option linter.unusedSimpArgs false
/-- The source in memory. -/
def SourceAt (W : World) (BS : Nat) (s k : Int) : Prop := Blk W BS 123 #[.int .i64 s, .int .i64 k]
/-- The sampler in memory. -/
def SamplerAt (w0 W : World) (BX BS : Nat) (R : RulesM) : Prop := ∃ pA pc sA sc eA ec, Blk W BX 82 #[.string R.name, .int .i64 R.width, .int .i64 R.height, .slice pA R.pieces.length pc, .slice sA R.start.length sc, .bool R.falls, .bool R.keeps, .slice eA R.ends.length ec, .int .i64 R.blocked, .int .i64 R.quiet, .int .i64 R.rept, .pointer (some ⟨BS, 0, none⟩)] ∧ RulesAt w0 (.agg #[.string R.name, .int .i64 R.width, .int .i64 R.height, .slice pA R.pieces.length pc, .slice sA R.start.length sc, .bool R.falls, .bool R.keeps, .slice eA R.ends.length ec, .int .i64 R.blocked, .int .i64 R.quiet, .int .i64 R.rept]) R
def layW (c0 c1 c2 c3 c4 : Value) (a b : Int) (ex : Bool) (kv : Value) : Array Value := #[c0, c1, c2, c3, c4, .int .i64 a, .int .i64 b, kv]
/-- A tree of the sampler in memory. -/
abbrev TreeW (w0 : World) (n : Nat) (W : World) (B : Nat) (t : NT) (S : Nat → Prop) : Prop := TreeAt 86 83 layW w0 n W B t S
/-- Of the nodes those of S may have changed, and sources; all others are as they were. -/
def WFr (S : Nat → Prop) (w W : World) : Prop := ∀ g t cs, Blk w g t cs → (t = 86 → ¬ S g) → t ≠ 123 → Blk W g t cs
theorem WFr.refl (S : Nat → Prop) (w : World) : WFr S w w := fun _ _ _ h _ _ => h
theorem WFr.of_ext {S : Nat → Prop} {w W : World} (x : Ext w W) : WFr S w W := fun _ _ _ h _ _ => h.ext x
theorem WFr.mono {S T : Nat → Prop} {w W : World} (h : WFr S w W) (hs : ∀ b, S b → T b) : WFr T w W := fun g t cs hb hn => h g t cs hb (fun e k => hn e (hs g k))
theorem WFr.trans {S : Nat → Prop} {a b c : World} (h : WFr S a b) (k : WFr S b c) : WFr S a c := fun g t cs hb hn ht => k g t cs (h g t cs hb hn ht) hn ht
/-- Blocks that are new since a may have changed, too. -/
theorem WFr.later {S T : Nat → Prop} {a b c : World} (h : WFr S a b) (k : WFr T b c) (hT : ∀ g, T g → S g ∨ a.heap.size ≤ g) : WFr S a c := fun g t cs hb hn ht => k g t cs (h g t cs hb hn ht) (fun e hg => by
  rcases hT g hg with hs | hs
  · exact hn e hs
  · have := hb.lt; omega) ht
theorem WFr.tfr {S : Nat → Prop} {w W : World} (h : WFr S w W) {ts : List TypeId} (h1 : 86 ∈ ts) (h2 : 123 ∈ ts) : TFr ts w W := fun g t cs hb hn => h g t cs hb (fun e => absurd (e ▸ h1) hn) (fun e => hn (e ▸ h2))
theorem WFr.of_tfr {S : Nat → Prop} {w W : World} (h : TFr [123] w W) : WFr S w W := fun g t cs hb _ ht => h g t cs hb (fun e => ht (List.mem_singleton.1 e))
theorem WFr.of_mfr {S : Nat → Prop} {w W : World} (h : MFr 86 S w W) : WFr S w W := fun g t cs hb hn _ => h g t cs hb hn
theorem WFr.of_gr {S : Nat → Prop} {w W : World} {B : Nat} {cs : Array Value} (h : Gr B w W) (k : Blk w B 86 cs) (hB : S B) : WFr S w W := fun g t cs' hb hn _ => h.blk hb (by
  rintro rfl
  have e := hb.symm.trans k
  simp only [Option.some.injEq, Obj.cells.injEq] at e
  exact hn e.2.1 hB)
/-- Only the block of a source has changed. -/
theorem tfr_source {w W : World} {BS : Nat} {s k : Int} (h : Gr BS w W) (hs : SourceAt w BS s k) : TFr [123] w W := fun g t cs hb hn => h.blk hb (by
  rintro rfl
  have e := hb.symm.trans hs
  simp only [Option.some.injEq, Obj.cells.injEq] at e
  exact hn (List.mem_singleton.2 e.2.1))
theorem pwn_ne : 83 ≠ 86 := by decide
theorem int_ne_twn : 3 ≠ 86 := by decide
theorem TreeAt.wfr {w0 : World} : ∀ {n : Nat} {w W : World} {B : Nat} {t : NT} {S T : Nat → Prop}, TreeW w0 n w B t S → WFr T w W → (∀ b, S b → ¬ T b) → TreeW w0 n W B t S
  | 0, _, _, _, _, _, _, h, _, _ => h.elim
  | n + 1, w, W, B, t, S, T, ⟨c0, c1, c2, c3, c4, A, c, bs, Ss, h1, h2, h3, h4, h5, h6, h7, h8, h9, h10⟩, f, hd =>
    have f2 : TFr [86, 123] w W := f.tfr (by simp) (by simp)
    ⟨c0, c1, c2, c3, c4, A, c, bs, Ss, f B 86 _ h1 (fun _ => hd B ((h10 B).2 (.inl rfl))) (by decide), h2.tfr (ts := [86, 123]) (by decide) f2, own_tfr (ts := [86, 123]) h3 (by decide) f2, h4, h5, h6,
      fun i k b hk hb => (h7 i k b hk hb).wfr f (fun b' hb' => hd b' ((h10 b').2 (.inr ⟨i, (List.getElem?_eq_some_iff.1 hk).1, hb'⟩))), h8, h9, h10⟩
theorem SamplerAt.wfr {w0 w W : World} {BX BS : Nat} {R : RulesM} {S : Nat → Prop} (h : SamplerAt w0 w BX BS R) (f : WFr S w W) : SamplerAt w0 W BX BS R := by
  obtain ⟨pA, pc, sA, sc, eA, ec, h1, h2⟩ := h
  exact ⟨pA, pc, sA, sc, eA, ec, f _ _ _ h1 (fun e => absurd e (by decide)) (by decide), h2⟩
theorem SamplerAt.ext {w0 w W : World} {BX BS : Nat} {R : RulesM} (h : SamplerAt w0 w BX BS R) (x : Ext w W) : SamplerAt w0 W BX BS R := by
  obtain ⟨pA, pc, sA, sc, eA, ec, h1, h2⟩ := h
  exact ⟨pA, pc, sA, sc, eA, ec, h1.ext x, h2⟩
theorem PosS.tfr2 {w0 w W : World} {v : Value} {P : PosM} {S : Nat → Prop} (h : PosS w0 w v P) (f : WFr S w W) : PosS w0 W v P := h.tfr (ts := [86, 123]) (by decide) (f.tfr (by simp) (by simp))
theorem TreeAt.numsW {w0 : World} : ∀ {n : Nat} {W : World} {B : Nat} {t : NT} {S : Nat → Prop}, TreeW w0 n W B t S → W.cell? ⟨B, 5, none⟩ = some (.int .i64 t.a) ∧ W.cell? ⟨B, 6, none⟩ = some (.int .i64 t.b)
  | 0, _, _, _, _, h => h.elim
  | _ + 1, _, _, _, _, ⟨_, _, _, _, _, _, _, _, _, h1, _⟩ => ⟨h1.cell 5, h1.cell 6⟩
end Go.Proofs.Ytdoibgmmijhlfaa
namespace Go.Proofs.Ytdoibgmmijhlfaa
open Go.ChangeShapes Go.WideShapes Go.ChangeAt Go.RowKit Go.Shelf
set_option linter.unusedVariables false
set_option linter.unusedSimpArgs false
theorem mix_ext (n : Int) (w : World) (h0 : 0 ≤ n) (h1 : n ≤ 1000000000000000) : Calls Try.prog 132 #[.int .i64 n] w fun e w' => e = .returned (.int .u64 (mixM n)) ∧ Ext w w' :=
  (Mix_any n w h0 h1).mono (fun e w' h => ⟨h.1, by rw [← h.2]; exact Below.refl _ _⟩)
theorem mixM_bd (n : Int) : 0 ≤ mixM n ∧ mixM n < 18446744073709551616 := by
  unfold mixM
  have h1 : ∀ x, 0 ≤ IntKind.u64.wrap x ∧ IntKind.u64.wrap x < 18446744073709551616 := fun x => by rw [IntKind.wrap_u64]; omega
  unfold bits
  exact h1 _
set_option maxHeartbeats 2000000 in
set_option maxRecDepth 100000 in
theorem below_any {w : World} {BS : Nat} {s : Int} {k : Nat} {n : Int} (hS : SourceAt w BS s k) (s0 : 0 ≤ s) (s1 : s ≤ 100000000) (k1 : k ≤ 100000000) (n0 : 1 ≤ n) (n1 : n ≤ 100000000) :
    Calls Try.prog 110 #[.pointer (some ⟨BS, 0, none⟩), .int .i64 n] w fun e w' => e = .returned (.tuple #[.int .i64 (belowM s (k + 1) n), .int .i64 0]) ∧ SourceAt w' BS s (k + 1 : Nat) ∧ Gr BS w w' := by
  have hS' : Blk w BS 123 #[.int .i64 s, .int .i64 k] := hS
  have f := hS'.cell
  have fz := hS'.frozen
  have t0 : decide (n < 1) = false := decide_eq_false (by omega)
  have t1 : decide (100000000 < n) = false := decide_eq_false (by omega)
  have hn0 : (n = 0) = False := by simp; omega
  have hw1 : IntKind.i64.wrap ((k : Int) + 1) = (k : Int) + 1 := by rw [IntKind.wrap_i64]; omega
  have hw2 : IntKind.i64.wrap (4096 * s) = 4096 * s := by rw [IntKind.wrap_i64]; omega
  have hw3 : IntKind.i64.wrap (4096 * s + ((k : Int) + 1)) = 4096 * s + ((k : Int) + 1) := by rw [IntKind.wrap_i64]; omega
  have HMX := hide (fun W => mix_ext (4096 * s + ((k : Int) + 1)) W (by omega) (by omega))
  obtain ⟨m0, m1⟩ := mixM_bd (4096 * s + ((k : Int) + 1))
  have HB := hide (show belowM s (k + 1) n = (mixM (4096 * s + ((k : Int) + 1)) / 2) % n from rfl)
  generalize mixM (4096 * s + ((k : Int) + 1)) = z at *
  have hw4 : IntKind.i64.wrap (z / 2) = z / 2 := by rw [IntKind.wrap_i64]; omega
  have hw5 : IntKind.u64.wrap (z / 2) = z / 2 := by rw [IntKind.wrap_u64]; omega
  have hq1 : z.tdiv 2 = z / 2 := Int.tdiv_eq_ediv_of_nonneg m0
  have hq2 : (z / 2).tmod n = (z / 2) % n := Int.tmod_eq_emod_of_nonneg (by omega)
  go_enter Try.func110, Try.ntmps110
  go_upto_region 4 with fail
  have K1 := hide (blk_put (i := 1) (u := .int .i64 ((k : Int) + 1)) hS' (cs' := #[.int .i64 s, .int .i64 ((k : Int) + 1)]) rfl)
  have G1 := hide ((Gr.refl (B := BS) w).set 1 (.int .i64 ((k : Int) + 1)))
  clear f fz hw1 t0 t1
  generalize w.setCell ⟨BS, 1, none⟩ (.int .i64 ((k : Int) + 1)) = wa at *
  have keepK := hide (fun W (h : Ext wa W) => (show (fun W => W.cell? ⟨BS, 0, none⟩ = some (.int .i64 s) ∧ W.cell? ⟨BS, 1, none⟩ = some (.int .i64 ((k : Int) + 1)) ∧ Ext wa W) W from ⟨(K1.out.ext h).cell 0, (K1.out.ext h).cell 1, h⟩))
  have yy : Ext wa wa.drew := Below.drew (Below.refl _ _)
  refine region_K (fun W => W.cell? ⟨BS, 0, none⟩ = some (.int .i64 s) ∧ W.cell? ⟨BS, 1, none⟩ = some (.int .i64 ((k : Int) + 1)) ∧ Ext wa W) (fun _ => True) [] (by kernel_rfl) ?_
  have hT0 := keepK.out _ yy
  refine anyK_take 0 (oi := ?oo1) ?ho1 (by kernel_rfl) (by kernel_rfl) (by kernel_rfl) (by kernel_rfl) ?hq1 ?hw1 hT0 (fun _ => trivial) (v := ?vv1) ?hy1 ?hk1
  case ho1 => (simp only [List.getElem?_toArray, List.getElem?_cons_succ, List.getElem?_cons_zero]; rfl)
  case hq1 => exact fun _ _ _ h => h
  case hw1 => rfl
  case hy1 =>
    intro W hW
    go_simp
    first | done | with_reducible rfl
  case hk1 =>
  try simp only [Act.put, List.setIfInBounds_toArray, List.set_cons_zero, List.set_cons_succ]
  refine anyK_take 1 (oi := ?oo2) ?ho2 (by kernel_rfl) (by kernel_rfl) (by kernel_rfl) (by kernel_rfl) ?hq2 ?hw2 hT0 (fun _ => trivial) (v := ?vv2) ?hy2 ?hk2
  case ho2 => (simp only [List.getElem?_toArray, List.getElem?_cons_succ, List.getElem?_cons_zero]; rfl)
  case hq2 => exact fun _ _ _ h => h
  case hw2 => rfl
  case hy2 =>
    intro W hW
    go_simp
    first | done | with_reducible rfl
  case hk2 =>
  try simp only [Act.put, List.setIfInBounds_toArray, List.set_cons_zero, List.set_cons_succ]
  refine anyK_take 2 (oi := ?oo3) ?ho3 (by kernel_rfl) (by kernel_rfl) (by kernel_rfl) (by kernel_rfl) ?hq3 ?hw3 hT0 (fun _ => trivial) (v := ?vv3) ?hy3 ?hk3
  case ho3 => (simp only [List.getElem?_toArray, List.getElem?_cons_succ, List.getElem?_cons_zero]; rfl)
  case hq3 => exact fun _ _ _ h => h
  case hw3 => rfl
  case hy3 =>
    intro W hW
    go_simp
    first | done | with_reducible rfl
  case hk3 =>
  try simp only [Act.put, List.setIfInBounds_toArray, List.set_cons_zero, List.set_cons_succ]
  refine anyK_take 3 (oi := ?oo4) ?ho4 (by kernel_rfl) (by kernel_rfl) (by kernel_rfl) (by kernel_rfl) ?hq4 ?hw4 hT0 (fun _ => trivial) (v := ?vv4) ?hy4 ?hk4
  case ho4 => (simp only [List.getElem?_toArray, List.getElem?_cons_succ, List.getElem?_cons_zero]; rfl)
  case hq4 => exact fun _ _ _ h => h
  case hw4 => rfl
  case hy4 =>
    intro W hW
    obtain ⟨z0, z1, z2⟩ := hW
    go_simp
    first | done | with_reducible rfl
  case hk4 =>
  try simp only [Act.put, List.setIfInBounds_toArray, List.set_cons_zero, List.set_cons_succ]
  refine anyK_take 4 (oi := ?oo5) ?ho5 (by kernel_rfl) (by kernel_rfl) (by kernel_rfl) (by kernel_rfl) ?hq5 ?hw5 hT0 (fun _ => trivial) (v := ?vv5) ?hy5 ?hk5
  case ho5 => (simp only [List.getElem?_toArray, List.getElem?_cons_succ, List.getElem?_cons_zero]; rfl)
  case hq5 => exact fun _ _ _ h => h
  case hw5 => rfl
  case hy5 =>
    intro W hW
    go_simp
    first | done | with_reducible rfl
  case hk5 =>
  try simp only [Act.put, List.setIfInBounds_toArray, List.set_cons_zero, List.set_cons_succ]
  refine anyK_take 5 (oi := ?oo6) ?ho6 (by kernel_rfl) (by kernel_rfl) (by kernel_rfl) (by kernel_rfl) ?hq6 ?hw6 hT0 (fun _ => trivial) (v := ?vv6) ?hy6 ?hk6
  case ho6 => (simp only [List.getElem?_toArray, List.getElem?_cons_succ, List.getElem?_cons_zero]; rfl)
  case hq6 => exact fun _ _ _ h => h
  case hw6 => rfl
  case hy6 =>
    intro W hW
    go_simp
    first | done | with_reducible rfl
  case hk6 =>
  try simp only [Act.put, List.setIfInBounds_toArray, List.set_cons_zero, List.set_cons_succ]
  refine anyK_take 6 (oi := ?oo7) ?ho7 (by kernel_rfl) (by kernel_rfl) (by kernel_rfl) (by kernel_rfl) ?hq7 ?hw7 hT0 (fun _ => trivial) (v := ?vv7) ?hy7 ?hk7
  case ho7 => (simp only [List.getElem?_toArray, List.getElem?_cons_succ, List.getElem?_cons_zero]; rfl)
  case hq7 => exact fun _ _ _ h => h
  case hw7 => rfl
  case hy7 =>
    intro W hW
    go_simp
    first | done | with_reducible rfl
  case hk7 =>
  try simp only [Act.put, List.setIfInBounds_toArray, List.set_cons_zero, List.set_cons_succ]
  refine anyK_take 7 (oi := ?oo8) ?ho8 (by kernel_rfl) (by kernel_rfl) (by kernel_rfl) (by kernel_rfl) ?hq8 ?hw8 hT0 (fun _ => trivial) (v := ?vv8) ?hy8 ?hk8
  case ho8 => (simp only [List.getElem?_toArray, List.getElem?_cons_succ, List.getElem?_cons_zero]; rfl)
  case hq8 => exact fun _ _ _ h => h
  case hw8 => rfl
  case hy8 =>
    intro W hW
    go_simp
    first | done | with_reducible rfl
  case hk8 =>
  try simp only [Act.put, List.setIfInBounds_toArray, List.set_cons_zero, List.set_cons_succ]
  refine anyK_take 8 (oi := ?oo9) ?ho9 (by kernel_rfl) (by kernel_rfl) (by kernel_rfl) (by kernel_rfl) ?hq9 ?hw9 hT0 (fun _ => trivial) (v := ?vv9) ?hy9 ?hk9
  case ho9 => (simp only [List.getElem?_toArray, List.getElem?_cons_succ, List.getElem?_cons_zero]; rfl)
  case hq9 => exact fun _ _ _ h => h
  case hw9 => rfl
  case hy9 =>
    intro W hW
    obtain ⟨z0, z1, z2⟩ := hW
    go_simp
    first | done | with_reducible rfl
  case hk9 =>
  try simp only [Act.put, List.setIfInBounds_toArray, List.set_cons_zero, List.set_cons_succ]
  refine anyK_take 9 (oi := ?oo10) ?ho10 (by kernel_rfl) (by kernel_rfl) (by kernel_rfl) (by kernel_rfl) ?hq10 ?hw10 hT0 (fun _ => trivial) (v := ?vv10) ?hy10 ?hk10
  case ho10 => (simp only [List.getElem?_toArray, List.getElem?_cons_succ, List.getElem?_cons_zero]; rfl)
  case hq10 => exact fun _ _ _ h => h
  case hw10 => rfl
  case hy10 =>
    intro W hW
    go_simp
    first | done | with_reducible rfl
  case hk10 =>
  try simp only [Act.put, List.setIfInBounds_toArray, List.set_cons_zero, List.set_cons_succ]
  refine anyK_take 13 (oi := ?oo11) ?ho11 (by kernel_rfl) (by kernel_rfl) (by kernel_rfl) (by kernel_rfl) ?hq11 ?hw11 hT0 (fun _ => trivial) (v := ?vv11) ?hy11 ?hk11
  case ho11 => (simp only [List.getElem?_toArray, List.getElem?_cons_succ, List.getElem?_cons_zero]; rfl)
  case hq11 => exact fun _ _ _ h => h
  case hw11 => rfl
  case hy11 =>
    intro W hW
    go_simp
    first | done | with_reducible rfl
  case hk11 =>
  try simp only [Act.put, List.setIfInBounds_toArray, List.set_cons_zero, List.set_cons_succ]
  refine anyK_on1 10 (by kernel_rfl) ?_
  refine anyK_one 10 (o := ?oo12) ?ho12 ?hk12
  case ho12 => (simp only [List.getElem?_toArray, List.getElem?_cons_succ, List.getElem?_cons_zero]; rfl)
  case hk12 =>
  intro K hK
  go_simp
  refine (HMX.out _).mono ?_
  rintro e wz ⟨rfl, xx⟩
  try go_wp2_with fail
  replace yy := ext_trans yy xx
  have hT1 := keepK.out _ yy
  refine hK.out _ _ hT1 (fun _ => trivial) ?_
  clear hK K
  try simp only [Act.put, List.setIfInBounds_toArray, List.set_cons_zero, List.set_cons_succ]
  refine anyK_take 11 (oi := ?oo13) ?ho13 (by kernel_rfl) (by kernel_rfl) (by kernel_rfl) (by kernel_rfl) ?hq13 ?hw13 hT1 (fun _ => trivial) (v := ?vv13) ?hy13 ?hk13
  case ho13 => (simp only [List.getElem?_toArray, List.getElem?_cons_succ, List.getElem?_cons_zero]; rfl)
  case hq13 => exact fun _ _ _ h => h
  case hw13 => rfl
  case hy13 =>
    intro W hW
    go_simp
    first | done | with_reducible rfl
  case hk13 =>
  try simp only [Act.put, List.setIfInBounds_toArray, List.set_cons_zero, List.set_cons_succ]
  refine anyK_take 12 (oi := ?oo14) ?ho14 (by kernel_rfl) (by kernel_rfl) (by kernel_rfl) (by kernel_rfl) ?hq14 ?hw14 hT1 (fun _ => trivial) (v := ?vv14) ?hy14 ?hk14
  case ho14 => (simp only [List.getElem?_toArray, List.getElem?_cons_succ, List.getElem?_cons_zero]; rfl)
  case hq14 => exact fun _ _ _ h => h
  case hw14 => rfl
  case hy14 =>
    intro W hW
    go_simp
    first | done | with_reducible rfl
  case hk14 =>
  try simp only [Act.put, List.setIfInBounds_toArray, List.set_cons_zero, List.set_cons_succ]
  refine anyK_take 14 (oi := ?oo15) ?ho15 (by kernel_rfl) (by kernel_rfl) (by kernel_rfl) (by kernel_rfl) ?hq15 ?hw15 hT1 (fun _ => trivial) (v := ?vv15) ?hy15 ?hk15
  case ho15 => (simp only [List.getElem?_toArray, List.getElem?_cons_succ, List.getElem?_cons_zero]; rfl)
  case hq15 => exact fun _ _ _ h => h
  case hw15 => rfl
  case hy15 =>
    intro W hW
    go_simp
    first | done | with_reducible rfl
  case hk15 =>
  try simp only [Act.put, List.setIfInBounds_toArray, List.set_cons_zero, List.set_cons_succ]
  refine anyK_take 15 (oi := ?oo16) ?ho16 (by kernel_rfl) (by kernel_rfl) (by kernel_rfl) (by kernel_rfl) ?hq16 ?hw16 hT1 (fun _ => trivial) (v := ?vv16) ?hy16 ?hk16
  case ho16 => (simp only [List.getElem?_toArray, List.getElem?_cons_succ, List.getElem?_cons_zero]; rfl)
  case hq16 => exact fun _ _ _ h => h
  case hw16 => rfl
  case hy16 =>
    intro W hW
    go_simp
    first | done | with_reducible rfl
  case hk16 =>
  try simp only [Act.put, List.setIfInBounds_toArray, List.set_cons_zero, List.set_cons_succ]
  refine anyK_take 16 (oi := ?oo17) ?ho17 (by kernel_rfl) (by kernel_rfl) (by kernel_rfl) (by kernel_rfl) ?hq17 ?hw17 hT1 (fun _ => trivial) (v := ?vv17) ?hy17 ?hk17
  case ho17 => (simp only [List.getElem?_toArray, List.getElem?_cons_succ, List.getElem?_cons_zero]; rfl)
  case hq17 => exact fun _ _ _ h => h
  case hw17 => rfl
  case hy17 =>
    intro W hW
    go_simp
    first | done | with_reducible rfl
  case hk17 =>
  try simp only [Act.put, List.setIfInBounds_toArray, List.set_cons_zero, List.set_cons_succ]
  refine anyK_done (by kernel_rfl) ?_ _
  clear keepK hT0 hT1
  go_wp2
  go_ret2
  exact ⟨by rw [HB.out]; rfl, (Blk.ext K1.out yy : Blk _ _ _ _), G1.out.ext yy⟩
def srcE (s : Int) : Int := if s < 0 ∨ 100000000 < s then 4 else 0
theorem NewSource_no (s : Int) (w : World) (h : srcE s ≠ 0) : Calls Try.prog 34 #[.int .i64 s] w fun e w' => e = .returned (.tuple #[.pointer none, .int .i64 4]) ∧ Ext w w' := by
  unfold srcE at h
  by_cases h0 : s < 0
  · have t0 : decide (s < 0) = true := decide_eq_true h0
    go_enter Try.func34, Try.ntmps34
    go_wp2
    go_ret2
    exact ⟨rfl, Below.refl _ _⟩
  · have t0 : decide (s < 0) = false := decide_eq_false h0
    have t1 : decide (100000000 < s) = true := decide_eq_true (by
      by_cases h1 : 100000000 < s
      · exact h1
      · exact absurd (if_neg (by omega)) h)
    go_enter Try.func34, Try.ntmps34
    go_wp2
    go_ret2
    exact ⟨rfl, Below.refl _ _⟩
theorem NewSource_yes (s : Int) (w : World) (h : srcE s = 0) : Calls Try.prog 34 #[.int .i64 s] w fun e w' => ∃ BS, e = .returned (.tuple #[.pointer (some ⟨BS, 0, none⟩), .int .i64 0]) ∧ w.heap.size ≤ BS ∧ SourceAt w' BS s (0 : Nat) ∧ Ext w w' := by
  have hs : 0 ≤ s ∧ s ≤ 100000000 := by
    unfold srcE at h
    by_cases h1 : s < 0 ∨ 100000000 < s
    · rw [if_pos h1] at h; omega
    · omega
  have t0 : decide (s < 0) = false := decide_eq_false (by omega)
  have t1 : decide (100000000 < s) = false := decide_eq_false (by omega)
  obtain ⟨x1, k1⟩ := blks1 w #[.int .i64 s, .int .i64 0] 123
  have HX := hide x1
  have HK := hide k1
  clear x1 k1
  go_enter Try.func34, Try.ntmps34
  go_wp2
  go_ret2
  exact ⟨_, rfl, Nat.le_refl _, HK.out, HX.out⟩

end Go.Proofs.Ytdoibgmmijhlfaa
namespace Go.Proofs.Ytdoibgmmijhlfaa
open Go.ChangeShapes Go.WideShapes Go.ChangeAt Go.RowKit Go.Shelf
set_option linter.unusedVariables false
set_option linter.unusedSimpArgs false
theorem rootF_stop {n : Int} : ∀ {f : Nat} {k : Int}, ¬ (k + 1) * (k + 1) ≤ n → rootF n f k = k
  | 0, _, _ => rfl
  | _ + 1, _, h => if_neg h
theorem rootF_step {n : Int} {f : Nat} {k : Int} (h : (k + 1) * (k + 1) ≤ n) : rootF n (f + 1) k = rootF n f (k + 1) := if_pos h
theorem self_le_sq {x : Int} (h : 0 ≤ x) : x ≤ x * x := by
  by_cases e : x = 0
  · subst e; simp
  · have := Int.mul_le_mul_of_nonneg_left (show 1 ≤ x by omega) h
    rw [Int.mul_one] at this
    exact this
theorem root_meas {n : Int} {k : Nat} (h : (k : Int) + 1 ≤ n) : n.toNat + 1 - (intOf (.int .i64 ((k : Int) + 1))).toNat < n.toNat + 1 - (intOf (.int .i64 (k : Int))).toNat := by
  simp only [intOf]
  omega
theorem root_any (n : Int) (w : World) (h0 : 0 ≤ n) (h1 : n ≤ 1000000000) : Calls Try.prog 111 #[.int .i64 n] w fun e w' => e = .returned (.int .i64 (rootM n)) ∧ w = w' := by
  go_enter Try.func111, Try.ntmps111
  go_wp2_with fail
  go_loop [3] (fun i => ∃ k : Nat, i = .int .i64 k ∧ Hid ((k : Int) * k ≤ n) ∧ Hid (rootF n (n.toNat - k) k = rootM n)) (fun i => n.toNat + 1 - (intOf i).toNat)
  case atStart => exact ⟨0, rfl, hide (by simpa using h0), hide (by simp [rootM])⟩
  case round =>
    obtain ⟨k, rfl, hk, hr⟩ := hrel
    have hk0 := hk.out
    have hkk : (k : Int) ≤ (k : Int) * k := self_le_sq (by omega)
    have hle : (k : Int) ≤ n := by omega
    have hk5 : (k : Int) < 40000 := by
      by_cases h : (k : Int) < 40000
      · exact h
      · have : (40000 : Int) * 40000 ≤ (k : Int) * k := Int.mul_le_mul (by omega) (by omega) (by omega) (by omega)
        omega
    have hw1 : wrap64 ((k : Int) + 1) = (k : Int) + 1 := by unfold wrap64; omega
    have hq : ((k : Int) + 1) * ((k : Int) + 1) ≤ 40000 * 40000 := Int.mul_le_mul (by omega) (by omega) (by omega) (by omega)
    have hq0 : (0 : Int) ≤ ((k : Int) + 1) * ((k : Int) + 1) := Int.mul_nonneg (by omega) (by omega)
    have hw2 : wrap64 (((k : Int) + 1) * ((k : Int) + 1)) = ((k : Int) + 1) * ((k : Int) + 1) := by unfold wrap64; omega
    have HE := hide (show ((k + 1 : Nat) : Int) = (k : Int) + 1 by omega)
    have HLE := hide hle
    by_cases hc : ((k : Int) + 1) * ((k : Int) + 1) ≤ n
    · have t0 : decide (((k : Int) + 1) * ((k : Int) + 1) ≤ n) = true := decide_eq_true hc
      have HC := hide hc
      clear hq hq0 hkk hle hk0 hk5 hc
      go_wp2
      go_round
      case rel =>
        refine ⟨k + 1, by go_num, hide (by rw [HE.out]; exact HC.out), hide ?_⟩
        have h1' : ((k : Int) + 1) ≤ n := by
          have := self_le_sq (x := (k : Int) + 1) (by omega)
          have := HC.out
          omega
        have hs : n.toNat - k = (n.toNat - (k + 1)) + 1 := by omega
        have h := hr.out
        rw [hs, rootF_step HC.out] at h
        rw [HE.out]
        exact h
      case measure =>
        have h1' : ((k : Int) + 1) ≤ n := by
          have := self_le_sq (x := (k : Int) + 1) (by omega)
          have := HC.out
          omega
        rw [hw1]; exact root_meas h1'
    · have t0 : decide (((k : Int) + 1) * ((k : Int) + 1) ≤ n) = false := decide_eq_false hc
      have HR := hide (show rootM n = (k : Int) by rw [← hr.out]; exact rootF_stop (hc))
      clear hq hq0 hkk hle hk0 hk5 hc
      go_wp2
      go_ret
      exact ⟨by rw [HR.out]; rfl, rfl⟩

end Go.Proofs.Ytdoibgmmijhlfaa
namespace Go.Proofs.Ytdoibgmmijhlfaa
open Go.ChangeShapes Go.WideShapes Go.ChangeAt Go.RowKit Go.Shelf
set_option linter.unusedVariables false
set_option linter.unusedSimpArgs false
theorem zeroI_of {ks : List NT} {i : Nat} (hi : i < ks.length) (h0 : (ks.getD i NT.nil).a = 0) (hb : ∀ j, j < i → (ks.getD j NT.nil).a ≠ 0) : zeroI ks = some i := by
  cases h : zeroI ks with
  | none => exact absurd h0 (zero_none h i hi)
  | some j =>
    obtain ⟨z1, z2, z3⟩ := zero_some h
    by_cases e : j = i
    · rw [e]
    · exfalso
      by_cases hlt : j < i
      · exact hb j hlt z2
      · exact z3 i (by omega) h0
theorem sample_next {R : RulesM} {s : Int} {n : Nat} {P : PosM} {k : Nat} (h : movesM R P ≠ []) : sampleM R s (n + 1) P k = sampleM R s n (makeM R P ((movesM R P).getD (belowM s (k + 1) (movesM R P).length).toNat ⟨0, 0, 0⟩)) (k + 1) := if_neg h
theorem sample_stop {R : RulesM} {s : Int} : ∀ {n : Nat} {P : PosM} {k : Nat}, movesM R P = [] → sampleM R s n P k = (resultM R P, k)
  | 0, _, _, _ => rfl
  | _ + 1, _, _, h => if_pos h
theorem sample_draws (R : RulesM) (s : Int) : ∀ (n : Nat) (P : PosM) (k : Nat), k ≤ (sampleM R s n P k).2 ∧ (sampleM R s n P k).2 ≤ k + n
  | 0, P, k => ⟨Nat.le_refl _, Nat.le_refl _⟩
  | n + 1, P, k => by
    by_cases h : movesM R P = []
    · rw [sample_stop h]; exact ⟨Nat.le_refl _, by show k ≤ k + (n + 1); omega⟩
    · rw [sample_next h]
      have := sample_draws R s n (makeM R P ((movesM R P).getD (belowM s (k + 1) (movesM R P).length).toNat ⟨0, 0, 0⟩)) (k + 1)
      omega
theorem movesM_len {R : RulesM} {P : PosM} (hV : Valid R) (hS : Sound R P) : (movesM R P).length ≤ 1000000 := by
  unfold movesM
  split
  · exact listM_len hV hS
  · simp
def SamplePost (w : World) (BS : Nat) (s : Int) (r : Int × Nat) (e : Ending) (w' : World) : Prop := e = .returned (.int .i64 r.1) ∧ SourceAt w' BS s r.2 ∧ Gr BS w w'
set_option maxHeartbeats 8000000 in
set_option maxRecDepth 100000 in
theorem sample_any {w0 w : World} {BX BS : Nat} {R : RulesM} {s : Int} {k : Nat} {P : PosM} {v : Value} (hV : Valid R) (hS : Sound R P) (x0 : Ext w0 w) (hX : SamplerAt w0 w BX BS R) (hSo : SourceAt w BS s k) (hb : w0.heap.size ≤ BS)
    (s0 : 0 ≤ s) (s1 : s ≤ 100000000) (k1 : k ≤ 90000000) (hP : PosS w0 w v P) :
    Calls Try.prog 65 #[.pointer (some ⟨BX, 0, none⟩), v] w (SamplePost w BS s (sampleM R s 200 P k)) := by
  unfold SamplePost
  obtain ⟨T, hT⟩ : ∃ T, sampleM R s 200 P k = T := ⟨_, rfl⟩
  rw [hT]
  obtain ⟨d0, d1, d2, d3, d4, rfl⟩ : ∃ d0 d1 d2 d3 d4, v = .agg #[d0, d1, d2, d3, d4] := by
    obtain ⟨cA, cc, aA, ac, bA, bc, rfl, -⟩ := hP.at_ x0
    exact ⟨_, _, _, _, _, rfl⟩
  obtain ⟨x1, kb⟩ := blks1 w #[d0, d1, d2, d3, d4] 29
  have HTT := hide hT
  have HV := hide hV
  have HS := hide hS
  have HX := hide (hX.ext x1)
  have HSO : Hid (SourceAt (w.alloc (.cells #[d0, d1, d2, d3, d4] 29)) BS s k) := hide (Blk.ext hSo x1)
  have HBP0 := hide kb
  have HP := hide (hP.tfr (ts := [123]) (by decide) (TFr.of_ext x1))
  have X0 := hide (ext_trans x0 x1)
  have HB := hide hb
  have G0 := hide (Gr.of_ext (B := BS) x1)
  have HSL : Hid (BS < w.heap.size) := hide (Blk.lt hSo)
  have HK1 := hide k1
  clear hT hV hS hX hSo kb hP x0 x1 hb k1
  go_enter Try.func65, Try.ntmps65
  go_upto_region 1 with fail
  generalize w.alloc (.cells #[d0, d1, d2, d3, d4] 29) = w1 at *
  obtain ⟨BP, hBP⟩ : ∃ BP, w.heap.size = BP := ⟨_, rfl⟩
  have HBW : Hid (w.heap.size ≤ BP) := hide (by omega)
  rw [hBP] at HBP0 HSL
  try rw [hBP]
  clear hBP
  go_wp2
  go_loopw [8] (fun i wr => ∃ (j kj : Nat) (Q : PosM) (d0 d1 d2 d3 d4 : Value), j ≤ 200 ∧ i = .int .i64 j ∧ Blk wr BP 29 #[d0, d1, d2, d3, d4] ∧ PosS w0 wr (.agg #[d0, d1, d2, d3, d4]) Q ∧ Hid (Sound R Q) ∧ Hid (sampleM R s (200 - j) Q kj = T) ∧ Hid (kj ≤ k + j) ∧ SourceAt wr BS s kj ∧ SamplerAt w0 wr BX BS R ∧ Ext w0 wr ∧ Gr BS w wr) (fun i _ => 200 - (intOf i).toNat)
  case atStart => exact ⟨0, k, P, d0, d1, d2, d3, d4, by omega, rfl, HBP0.out, HP.out, HS, HTT, hide (by omega), HSO.out, HX.out, X0.out, G0.out⟩
  case round =>
    clear HBP0 HP HS HTT HSO HX X0 G0
    obtain ⟨j, kj, Q, d0, d1, d2, d3, d4, hj, rfl, hBPr, hQ, HSQ, HTQ, HKJ, hSo, hX, hx0, hG⟩ := hrel
    have HBP := hide hBPr
    have HQ := hide hQ
    have HSR := hide hSo
    have X0R := hide hx0
    have HG := hide hG
    obtain ⟨pA, pc, sA, sc, eA, ec, hBX, hR⟩ := hX
    have HBX := hide hBX
    have HR := hide hR
    clear hBPr hQ hSo hx0 hG hBX hR
    have HRS := hide (fun W (x : Ext w0 W) (q : PosS w0 W (.agg #[d0, d1, d2, d3, d4]) Q) => Result_any R Q _ _ W (HR.out.ext x) (q.at_ x) HV.out HSQ.out)
    have HSS := hide (fun (h : movesM R Q = []) => (HTQ.out.symm.trans (sample_stop h)))
    by_cases hlt : j < 200
    · have j1 : (j : Int) < 200 := by omega
      have HMV := hide (fun W (x : Ext wr W) => EMoves_any R Q _ _ W (HR.out.ext (ext_trans X0R.out x)) ((HQ.out.at_ X0R.out).ext x) HV.out HSQ.out)
      have HMK := hide (fun (mv : MoveM) (hm : mv ∈ movesM R Q) (W : World) (v u : Value) (h1 : RulesAt W v R) (h2 : PosAt W u Q) => Make_any R Q mv v u W h1 h2 HV.out HSQ.out (raw_move hm))
      have HSM := hide (fun (mv : MoveM) (hm : mv ∈ movesM R Q) => sound_move HV.out HSQ.out hm)
      have HML := hide (movesM_len HV.out HSQ.out)
      have HSN := hide (fun (h : movesM R Q ≠ []) => (HTQ.out.symm.trans ((congrArg (fun n => sampleM R s n Q kj) (show 200 - j = 200 - (j + 1) + 1 by omega)).trans (sample_next (s := s) (k := kj) h))))
      clear HTQ
      generalize movesM R Q = L at *
      generalize resultM R Q = rq at *
      go_upto_region 3 with fail
      have keepK := hide (fun W (h : Ext wr W) => (show (fun W => W.cell? ⟨BX, 0, none⟩ = some (.string R.name) ∧ W.cell? ⟨BX, 1, none⟩ = some (.int .i64 R.width) ∧ W.cell? ⟨BX, 2, none⟩ = some (.int .i64 R.height) ∧ W.cell? ⟨BX, 3, none⟩ = some (.slice pA R.pieces.length pc) ∧ W.cell? ⟨BX, 4, none⟩ = some (.slice sA R.start.length sc) ∧ W.cell? ⟨BX, 5, none⟩ = some (.bool R.falls) ∧ W.cell? ⟨BX, 6, none⟩ = some (.bool R.keeps) ∧ W.cell? ⟨BX, 7, none⟩ = some (.slice eA R.ends.length ec) ∧ W.cell? ⟨BX, 8, none⟩ = some (.int .i64 R.blocked) ∧ W.cell? ⟨BX, 9, none⟩ = some (.int .i64 R.quiet) ∧ W.cell? ⟨BX, 10, none⟩ = some (.int .i64 R.rept) ∧ W.cell? ⟨BX, 11, none⟩ = some (.pointer (some ⟨BS, 0, none⟩)) ∧ W.cell? ⟨BP, 0, none⟩ = some (d0) ∧ W.cell? ⟨BP, 1, none⟩ = some (d1) ∧ W.cell? ⟨BP, 2, none⟩ = some (d2) ∧ W.cell? ⟨BP, 3, none⟩ = some (d3) ∧ W.cell? ⟨BP, 4, none⟩ = some (d4) ∧ Ext wr W) W from ⟨(HBX.out.ext h).cell 0, (HBX.out.ext h).cell 1, (HBX.out.ext h).cell 2, (HBX.out.ext h).cell 3, (HBX.out.ext h).cell 4, (HBX.out.ext h).cell 5, (HBX.out.ext h).cell 6, (HBX.out.ext h).cell 7, (HBX.out.ext h).cell 8, (HBX.out.ext h).cell 9, (HBX.out.ext h).cell 10, (HBX.out.ext h).cell 11, (HBP.out.ext h).cell 0, (HBP.out.ext h).cell 1, (HBP.out.ext h).cell 2, (HBP.out.ext h).cell 3, (HBP.out.ext h).cell 4, h⟩))
      have yy : Ext wr wr.drew := Below.drew (Below.refl _ _)
      refine region_K (fun W => W.cell? ⟨BX, 0, none⟩ = some (.string R.name) ∧ W.cell? ⟨BX, 1, none⟩ = some (.int .i64 R.width) ∧ W.cell? ⟨BX, 2, none⟩ = some (.int .i64 R.height) ∧ W.cell? ⟨BX, 3, none⟩ = some (.slice pA R.pieces.length pc) ∧ W.cell? ⟨BX, 4, none⟩ = some (.slice sA R.start.length sc) ∧ W.cell? ⟨BX, 5, none⟩ = some (.bool R.falls) ∧ W.cell? ⟨BX, 6, none⟩ = some (.bool R.keeps) ∧ W.cell? ⟨BX, 7, none⟩ = some (.slice eA R.ends.length ec) ∧ W.cell? ⟨BX, 8, none⟩ = some (.int .i64 R.blocked) ∧ W.cell? ⟨BX, 9, none⟩ = some (.int .i64 R.quiet) ∧ W.cell? ⟨BX, 10, none⟩ = some (.int .i64 R.rept) ∧ W.cell? ⟨BX, 11, none⟩ = some (.pointer (some ⟨BS, 0, none⟩)) ∧ W.cell? ⟨BP, 0, none⟩ = some (d0) ∧ W.cell? ⟨BP, 1, none⟩ = some (d1) ∧ W.cell? ⟨BP, 2, none⟩ = some (d2) ∧ W.cell? ⟨BP, 3, none⟩ = some (d3) ∧ W.cell? ⟨BP, 4, none⟩ = some (d4) ∧ Ext wr W) (fun _ => True) [] (by kernel_rfl) ?_
      have hT0 := keepK.out _ yy
      refine anyK_take 0 (oi := ?oo1) ?ho1 (by kernel_rfl) (by kernel_rfl) (by kernel_rfl) (by kernel_rfl) ?hq1 ?hw1 hT0 (fun _ => trivial) (v := ?vv1) ?hy1 ?hk1
      case ho1 => (simp only [List.getElem?_toArray, List.getElem?_cons_succ, List.getElem?_cons_zero]; rfl)
      case hq1 => exact fun _ _ _ h => h
      case hw1 => rfl
      case hy1 =>
        intro W hW
        go_simp
        first | done | with_reducible rfl
      case hk1 =>
      try simp only [Act.put, List.setIfInBounds_toArray, List.set_cons_zero, List.set_cons_succ]
      refine anyK_take 1 (oi := ?oo2) ?ho2 (by kernel_rfl) (by kernel_rfl) (by kernel_rfl) (by kernel_rfl) ?hq2 ?hw2 hT0 (fun _ => trivial) (v := ?vv2) ?hy2 ?hk2
      case ho2 => (simp only [List.getElem?_toArray, List.getElem?_cons_succ, List.getElem?_cons_zero]; rfl)
      case hq2 => exact fun _ _ _ h => h
      case hw2 => rfl
      case hy2 =>
        intro W hW
        go_simp
        first | done | with_reducible rfl
      case hk2 =>
      try simp only [Act.put, List.setIfInBounds_toArray, List.set_cons_zero, List.set_cons_succ]
      refine anyK_take 2 (oi := ?oo3) ?ho3 (by kernel_rfl) (by kernel_rfl) (by kernel_rfl) (by kernel_rfl) ?hq3 ?hw3 hT0 (fun _ => trivial) (v := ?vv3) ?hy3 ?hk3
      case ho3 => (simp only [List.getElem?_toArray, List.getElem?_cons_succ, List.getElem?_cons_zero]; rfl)
      case hq3 => exact fun _ _ _ h => h
      case hw3 => rfl
      case hy3 =>
        intro W hW
        go_simp
        first | done | with_reducible rfl
      case hk3 =>
      try simp only [Act.put, List.setIfInBounds_toArray, List.set_cons_zero, List.set_cons_succ]
      refine anyK_take 3 (oi := ?oo4) ?ho4 (by kernel_rfl) (by kernel_rfl) (by kernel_rfl) (by kernel_rfl) ?hq4 ?hw4 hT0 (fun _ => trivial) (v := ?vv4) ?hy4 ?hk4
      case ho4 => (simp only [List.getElem?_toArray, List.getElem?_cons_succ, List.getElem?_cons_zero]; rfl)
      case hq4 => exact fun _ _ _ h => h
      case hw4 => rfl
      case hy4 =>
        intro W hW
        obtain ⟨z0, z1, z2, z3, z4, z5, z6, z7, z8, z9, z10, z11, z12, z13, z14, z15, z16, z17⟩ := hW
        go_simp
        first | done | with_reducible rfl
      case hk4 =>
      try simp only [Act.put, List.setIfInBounds_toArray, List.set_cons_zero, List.set_cons_succ]
      refine anyK_take 4 (oi := ?oo5) ?ho5 (by kernel_rfl) (by kernel_rfl) (by kernel_rfl) (by kernel_rfl) ?hq5 ?hw5 hT0 (fun _ => trivial) (v := ?vv5) ?hy5 ?hk5
      case ho5 => (simp only [List.getElem?_toArray, List.getElem?_cons_succ, List.getElem?_cons_zero]; rfl)
      case hq5 => exact fun _ _ _ h => h
      case hw5 => rfl
      case hy5 =>
        intro W hW
        obtain ⟨z0, z1, z2, z3, z4, z5, z6, z7, z8, z9, z10, z11, z12, z13, z14, z15, z16, z17⟩ := hW
        go_simp
        first | done | with_reducible rfl
      case hk5 =>
      try simp only [Act.put, List.setIfInBounds_toArray, List.set_cons_zero, List.set_cons_succ]
      refine anyK_on1 5 (by kernel_rfl) ?_
      refine anyK_one 5 (o := ?oo6) ?ho6 ?hk6
      case ho6 => (simp only [List.getElem?_toArray, List.getElem?_cons_succ, List.getElem?_cons_zero]; rfl)
      case hk6 =>
      intro K hK
      go_simp
      refine (HMV.out _ yy).mono ?_
      rintro e wz ⟨vz, rfl, hz, xx⟩
      try go_wp2_with fail
      replace yy := ext_trans yy xx
      have HZ := hide hz
      obtain ⟨lA, lc, rfl, -⟩ := hz
      have hT1 := keepK.out _ yy
      refine hK.out _ _ hT1 (fun _ => trivial) ?_
      clear hK K
      try simp only [Act.put, List.setIfInBounds_toArray, List.set_cons_zero, List.set_cons_succ]
      refine anyK_take 6 (oi := ?oo7) ?ho7 (by kernel_rfl) (by kernel_rfl) (by kernel_rfl) (by kernel_rfl) ?hq7 ?hw7 hT1 (fun _ => trivial) (v := ?vv7) ?hy7 ?hk7
      case ho7 => (simp only [List.getElem?_toArray, List.getElem?_cons_succ, List.getElem?_cons_zero]; rfl)
      case hq7 => exact fun _ _ _ h => h
      case hw7 => rfl
      case hy7 =>
        intro W hW
        go_simp
        first | done | with_reducible rfl
      case hk7 =>
      try simp only [Act.put, List.setIfInBounds_toArray, List.set_cons_zero, List.set_cons_succ]
      refine anyK_done (by kernel_rfl) ?_ _
      clear keepK hT0 hT1
      have HB4 := hide (HBP.out.ext yy)
      have HX4 := hide (HBX.out.ext yy)
      have HS4 : Hid (SourceAt wz BS s kj) := hide (Blk.ext HSR.out yy)
      have HQ4 := hide (HQ.out.tfr (ts := [123]) (by decide) (TFr.of_ext yy))
      have X04 := hide (ext_trans X0R.out yy)
      have HG4 := hide (HG.out.ext yy)
      clear yy xx HMV HBP HBX HSR HQ X0R HG
      by_cases hL : L.length = 0
      · have t0 : ((L.length : Int) == 0) = true := by simpa using hL
        clear HSN HMK HSM HML HZ
        have HFIN := hide (HSS.out (List.eq_nil_of_length_eq_zero hL))
        go_upto_region 8 with fail
        have keepK := hide (fun W (h : Ext wz W) => (show (fun W => W.cell? ⟨BX, 0, none⟩ = some (.string R.name) ∧ W.cell? ⟨BX, 1, none⟩ = some (.int .i64 R.width) ∧ W.cell? ⟨BX, 2, none⟩ = some (.int .i64 R.height) ∧ W.cell? ⟨BX, 3, none⟩ = some (.slice pA R.pieces.length pc) ∧ W.cell? ⟨BX, 4, none⟩ = some (.slice sA R.start.length sc) ∧ W.cell? ⟨BX, 5, none⟩ = some (.bool R.falls) ∧ W.cell? ⟨BX, 6, none⟩ = some (.bool R.keeps) ∧ W.cell? ⟨BX, 7, none⟩ = some (.slice eA R.ends.length ec) ∧ W.cell? ⟨BX, 8, none⟩ = some (.int .i64 R.blocked) ∧ W.cell? ⟨BX, 9, none⟩ = some (.int .i64 R.quiet) ∧ W.cell? ⟨BX, 10, none⟩ = some (.int .i64 R.rept) ∧ W.cell? ⟨BX, 11, none⟩ = some (.pointer (some ⟨BS, 0, none⟩)) ∧ W.cell? ⟨BP, 0, none⟩ = some (d0) ∧ W.cell? ⟨BP, 1, none⟩ = some (d1) ∧ W.cell? ⟨BP, 2, none⟩ = some (d2) ∧ W.cell? ⟨BP, 3, none⟩ = some (d3) ∧ W.cell? ⟨BP, 4, none⟩ = some (d4) ∧ Ext wz W) W from ⟨(HX4.out.ext h).cell 0, (HX4.out.ext h).cell 1, (HX4.out.ext h).cell 2, (HX4.out.ext h).cell 3, (HX4.out.ext h).cell 4, (HX4.out.ext h).cell 5, (HX4.out.ext h).cell 6, (HX4.out.ext h).cell 7, (HX4.out.ext h).cell 8, (HX4.out.ext h).cell 9, (HX4.out.ext h).cell 10, (HX4.out.ext h).cell 11, (HB4.out.ext h).cell 0, (HB4.out.ext h).cell 1, (HB4.out.ext h).cell 2, (HB4.out.ext h).cell 3, (HB4.out.ext h).cell 4, h⟩))
        have yy : Ext wz wz.drew := Below.drew (Below.refl _ _)
        refine region_K (fun W => W.cell? ⟨BX, 0, none⟩ = some (.string R.name) ∧ W.cell? ⟨BX, 1, none⟩ = some (.int .i64 R.width) ∧ W.cell? ⟨BX, 2, none⟩ = some (.int .i64 R.height) ∧ W.cell? ⟨BX, 3, none⟩ = some (.slice pA R.pieces.length pc) ∧ W.cell? ⟨BX, 4, none⟩ = some (.slice sA R.start.length sc) ∧ W.cell? ⟨BX, 5, none⟩ = some (.bool R.falls) ∧ W.cell? ⟨BX, 6, none⟩ = some (.bool R.keeps) ∧ W.cell? ⟨BX, 7, none⟩ = some (.slice eA R.ends.length ec) ∧ W.cell? ⟨BX, 8, none⟩ = some (.int .i64 R.blocked) ∧ W.cell? ⟨BX, 9, none⟩ = some (.int .i64 R.quiet) ∧ W.cell? ⟨BX, 10, none⟩ = some (.int .i64 R.rept) ∧ W.cell? ⟨BX, 11, none⟩ = some (.pointer (some ⟨BS, 0, none⟩)) ∧ W.cell? ⟨BP, 0, none⟩ = some (d0) ∧ W.cell? ⟨BP, 1, none⟩ = some (d1) ∧ W.cell? ⟨BP, 2, none⟩ = some (d2) ∧ W.cell? ⟨BP, 3, none⟩ = some (d3) ∧ W.cell? ⟨BP, 4, none⟩ = some (d4) ∧ Ext wz W) (fun _ => True) [] (by kernel_rfl) ?_
        have hT0 := keepK.out _ yy
        refine anyK_take 0 (oi := ?oo8) ?ho8 (by kernel_rfl) (by kernel_rfl) (by kernel_rfl) (by kernel_rfl) ?hq8 ?hw8 hT0 (fun _ => trivial) (v := ?vv8) ?hy8 ?hk8
        case ho8 => (simp only [List.getElem?_toArray, List.getElem?_cons_succ, List.getElem?_cons_zero]; rfl)
        case hq8 => exact fun _ _ _ h => h
        case hw8 => rfl
        case hy8 =>
          intro W hW
          go_simp
          first | done | with_reducible rfl
        case hk8 =>
        try simp only [Act.put, List.setIfInBounds_toArray, List.set_cons_zero, List.set_cons_succ]
        refine anyK_take 1 (oi := ?oo9) ?ho9 (by kernel_rfl) (by kernel_rfl) (by kernel_rfl) (by kernel_rfl) ?hq9 ?hw9 hT0 (fun _ => trivial) (v := ?vv9) ?hy9 ?hk9
        case ho9 => (simp only [List.getElem?_toArray, List.getElem?_cons_succ, List.getElem?_cons_zero]; rfl)
        case hq9 => exact fun _ _ _ h => h
        case hw9 => rfl
        case hy9 =>
          intro W hW
          go_simp
          first | done | with_reducible rfl
        case hk9 =>
        try simp only [Act.put, List.setIfInBounds_toArray, List.set_cons_zero, List.set_cons_succ]
        refine anyK_take 2 (oi := ?oo10) ?ho10 (by kernel_rfl) (by kernel_rfl) (by kernel_rfl) (by kernel_rfl) ?hq10 ?hw10 hT0 (fun _ => trivial) (v := ?vv10) ?hy10 ?hk10
        case ho10 => (simp only [List.getElem?_toArray, List.getElem?_cons_succ, List.getElem?_cons_zero]; rfl)
        case hq10 => exact fun _ _ _ h => h
        case hw10 => rfl
        case hy10 =>
          intro W hW
          go_simp
          first | done | with_reducible rfl
        case hk10 =>
        try simp only [Act.put, List.setIfInBounds_toArray, List.set_cons_zero, List.set_cons_succ]
        refine anyK_take 3 (oi := ?oo11) ?ho11 (by kernel_rfl) (by kernel_rfl) (by kernel_rfl) (by kernel_rfl) ?hq11 ?hw11 hT0 (fun _ => trivial) (v := ?vv11) ?hy11 ?hk11
        case ho11 => (simp only [List.getElem?_toArray, List.getElem?_cons_succ, List.getElem?_cons_zero]; rfl)
        case hq11 => exact fun _ _ _ h => h
        case hw11 => rfl
        case hy11 =>
          intro W hW
          obtain ⟨z0, z1, z2, z3, z4, z5, z6, z7, z8, z9, z10, z11, z12, z13, z14, z15, z16, z17⟩ := hW
          go_simp
          first | done | with_reducible rfl
        case hk11 =>
        try simp only [Act.put, List.setIfInBounds_toArray, List.set_cons_zero, List.set_cons_succ]
        refine anyK_take 4 (oi := ?oo12) ?ho12 (by kernel_rfl) (by kernel_rfl) (by kernel_rfl) (by kernel_rfl) ?hq12 ?hw12 hT0 (fun _ => trivial) (v := ?vv12) ?hy12 ?hk12
        case ho12 => (simp only [List.getElem?_toArray, List.getElem?_cons_succ, List.getElem?_cons_zero]; rfl)
        case hq12 => exact fun _ _ _ h => h
        case hw12 => rfl
        case hy12 =>
          intro W hW
          obtain ⟨z0, z1, z2, z3, z4, z5, z6, z7, z8, z9, z10, z11, z12, z13, z14, z15, z16, z17⟩ := hW
          go_simp
          first | done | with_reducible rfl
        case hk12 =>
        try simp only [Act.put, List.setIfInBounds_toArray, List.set_cons_zero, List.set_cons_succ]
        refine anyK_on1 5 (by kernel_rfl) ?_
        refine anyK_one 5 (o := ?oo13) ?ho13 ?hk13
        case ho13 => (simp only [List.getElem?_toArray, List.getElem?_cons_succ, List.getElem?_cons_zero]; rfl)
        case hk13 =>
        intro K hK
        go_simp
        refine (HRS.out _ (ext_trans X04.out yy) (HQ4.out.tfr (ts := [123]) (by decide) (TFr.of_ext yy))).mono ?_
        rintro e wy ⟨rfl, xx⟩
        try go_wp2_with fail
        replace yy := ext_trans yy xx
        have hT1 := keepK.out _ yy
        refine hK.out _ _ hT1 (fun _ => trivial) ?_
        clear hK K
        try simp only [Act.put, List.setIfInBounds_toArray, List.set_cons_zero, List.set_cons_succ]
        refine anyK_take 6 (oi := ?oo14) ?ho14 (by kernel_rfl) (by kernel_rfl) (by kernel_rfl) (by kernel_rfl) ?hq14 ?hw14 hT1 (fun _ => trivial) (v := ?vv14) ?hy14 ?hk14
        case ho14 => (simp only [List.getElem?_toArray, List.getElem?_cons_succ, List.getElem?_cons_zero]; rfl)
        case hq14 => exact fun _ _ _ h => h
        case hw14 => rfl
        case hy14 =>
          intro W hW
          go_simp
          first | done | with_reducible rfl
        case hk14 =>
        try simp only [Act.put, List.setIfInBounds_toArray, List.set_cons_zero, List.set_cons_succ]
        refine anyK_done (by kernel_rfl) ?_ _
        clear keepK hT0 hT1
        go_wp2
        go_ret
        exact ⟨by rw [HFIN.out]; rfl, by rw [HFIN.out]; exact Blk.ext HS4.out yy, HG4.out.ext yy⟩
      · have t0 : ((L.length : Int) == 0) = false := by simp; intro h; subst h; exact hL rfl
        have HNX := hide (HSN.out (fun e => hL (by rw [e]; rfl)))
        have hl1 : 1 ≤ (L.length : Int) := by omega
        have hl2 : (L.length : Int) ≤ 100000000 := by have := HML.out; omega
        have HBE := hide (below_any (n := (L.length : Int)) HS4.out s0 s1 (by have := HKJ.out; have := HK1.out; omega) hl1 hl2)
        obtain ⟨b0, b1⟩ := below_bd (seed := s) (k := kj + 1) hl1
        clear HSN HSS hL HML HRS
        have f11 : wz.cell? ⟨BX, 11, none⟩ = some (.pointer (some ⟨BS, 0, none⟩)) := HX4.out.cell 11
        go_wp2_with fail
        clear f11
        refine HBE.out.mono ?_
        rintro e w5 ⟨rfl, hs5, g5⟩
        generalize belowM s (kj + 1) (L.length : Int) = r at *
        obtain ⟨q, rfl⟩ := Int.eq_ofNat_of_zero_le b0
        have hq : q < L.length := by omega
        have hmv := List.getElem?_eq_getElem hq
        generalize L[q] = mv at hmv
        have hgd : L.getD (((q : Nat) : Int)).toNat ⟨0, 0, 0⟩ = mv := by rw [Int.toNat_natCast, List.getD_eq_getElem?_getD, hmv]; rfl
        rw [hgd] at HNX
        have TF5 := tfr_source g5 HS4.out
        have HB5 := hide (TF5 _ _ _ HB4.out (by decide))
        have HX5 := hide (TF5 _ _ _ HX4.out (by decide))
        have HS5 := hide hs5
        have HQ5 := hide (HQ4.out.tfr (by decide) TF5)
        have X05 := hide (g5.to_ext X04.out HB.out)
        have HG5 := hide (HG4.out.trans g5)
        have HXB := hide (blk_ne HX5.out HB5.out (by decide))
        have HSB := hide (blk_ne HS5.out HB5.out (by decide))
        obtain ⟨lA', lc', e9, o9⟩ := HZ.out.tfr (ts := [123]) (by decide) TF5
        simp only [Value.slice.injEq, true_and] at e9
        obtain ⟨rfl, rfl⟩ := e9
        obtain ⟨b', o', rfl, m0, m1, m2⟩ := moves_get (own_cells o9).1 hmv
        have HO9 := hide (own_blk_ne o9 HB5.out (by decide))
        have HM1 := hide (HMK.out mv (List.mem_of_getElem? hmv))
        have HS1 := hide (HSM.out mv (List.mem_of_getElem? hmv))
        have i0 : (0 : Int) ≤ (q : Int) := b0
        have M0 := hide m0
        have M1 := hide m1
        have M2 := hide m2
        have HBL : Hid (some b' ≠ some BP) := hide HO9.out
        clear hs5 g5 TF5 HB4 HX4 HS4 HQ4 X04 HG4 HBE HMK HSM HZ hgd hmv o9 m0 m1 m2 b0 hl1 hl2 t0 HO9
        go_upto_region 6 with fail
        have zz : Ext w5 w5.drew := Below.drew (Below.refl _ _)
        have ss := HB5.out.ext zz
        have keepK := hide (fun W (h : Gr BP w5 W) => (show (fun W => W.cell? ⟨BX, 0, none⟩ = some (.string R.name) ∧ W.cell? ⟨BX, 1, none⟩ = some (.int .i64 R.width) ∧ W.cell? ⟨BX, 2, none⟩ = some (.int .i64 R.height) ∧ W.cell? ⟨BX, 3, none⟩ = some (.slice pA R.pieces.length pc) ∧ W.cell? ⟨BX, 4, none⟩ = some (.slice sA R.start.length sc) ∧ W.cell? ⟨BX, 5, none⟩ = some (.bool R.falls) ∧ W.cell? ⟨BX, 6, none⟩ = some (.bool R.keeps) ∧ W.cell? ⟨BX, 7, none⟩ = some (.slice eA R.ends.length ec) ∧ W.cell? ⟨BX, 8, none⟩ = some (.int .i64 R.blocked) ∧ W.cell? ⟨BX, 9, none⟩ = some (.int .i64 R.quiet) ∧ W.cell? ⟨BX, 10, none⟩ = some (.int .i64 R.rept) ∧ W.cell? ⟨b', o' + q * 3, none⟩ = some (.int .i64 mv.src) ∧ W.cell? ⟨b', o' + q * 3 + 1, none⟩ = some (.int .i64 mv.dst) ∧ W.cell? ⟨b', o' + q * 3 + 2, none⟩ = some (.int .i64 mv.piece) ∧ Gr BP w5 W) W from ⟨(h.blk HX5.out HXB.out).cell 0, (h.blk HX5.out HXB.out).cell 1, (h.blk HX5.out HXB.out).cell 2, (h.blk HX5.out HXB.out).cell 3, (h.blk HX5.out HXB.out).cell 4, (h.blk HX5.out HXB.out).cell 5, (h.blk HX5.out HXB.out).cell 6, (h.blk HX5.out HXB.out).cell 7, (h.blk HX5.out HXB.out).cell 8, (h.blk HX5.out HXB.out).cell 9, (h.blk HX5.out HXB.out).cell 10, h.cell M0.out HBL.out, h.cell M1.out HBL.out, h.cell M2.out HBL.out, h⟩))
        have yy := Gr.of_ext (B := BP) zz
        refine region_K (fun W => W.cell? ⟨BX, 0, none⟩ = some (.string R.name) ∧ W.cell? ⟨BX, 1, none⟩ = some (.int .i64 R.width) ∧ W.cell? ⟨BX, 2, none⟩ = some (.int .i64 R.height) ∧ W.cell? ⟨BX, 3, none⟩ = some (.slice pA R.pieces.length pc) ∧ W.cell? ⟨BX, 4, none⟩ = some (.slice sA R.start.length sc) ∧ W.cell? ⟨BX, 5, none⟩ = some (.bool R.falls) ∧ W.cell? ⟨BX, 6, none⟩ = some (.bool R.keeps) ∧ W.cell? ⟨BX, 7, none⟩ = some (.slice eA R.ends.length ec) ∧ W.cell? ⟨BX, 8, none⟩ = some (.int .i64 R.blocked) ∧ W.cell? ⟨BX, 9, none⟩ = some (.int .i64 R.quiet) ∧ W.cell? ⟨BX, 10, none⟩ = some (.int .i64 R.rept) ∧ W.cell? ⟨b', o' + q * 3, none⟩ = some (.int .i64 mv.src) ∧ W.cell? ⟨b', o' + q * 3 + 1, none⟩ = some (.int .i64 mv.dst) ∧ W.cell? ⟨b', o' + q * 3 + 2, none⟩ = some (.int .i64 mv.piece) ∧ Gr BP w5 W) (fun W => W.cell? ⟨BP, 0, none⟩ = some (d0) ∧ W.cell? ⟨BP, 1, none⟩ = some (d1) ∧ W.cell? ⟨BP, 2, none⟩ = some (d2) ∧ W.cell? ⟨BP, 3, none⟩ = some (d3) ∧ W.cell? ⟨BP, 4, none⟩ = some (d4)) [10] (by kernel_rfl) ?_
        have hS0 := And.intro (ss.cell 0) (And.intro (ss.cell 1) (And.intro (ss.cell 2) (And.intro (ss.cell 3) (ss.cell 4))))
        have hT0 := keepK.out _ yy
        refine anyK_take 0 (oi := ?oo15) ?ho15 (by kernel_rfl) (by kernel_rfl) (by kernel_rfl) (by kernel_rfl) ?hq15 ?hw15 hT0 (fun _ => hS0) (v := ?vv15) ?hy15 ?hk15
        case ho15 => (simp only [List.getElem?_toArray, List.getElem?_cons_succ, List.getElem?_cons_zero]; rfl)
        case hq15 => exact fun _ _ _ h => h
        case hw15 => rfl
        case hy15 =>
          intro W hW
          go_simp
          first | done | with_reducible rfl
        case hk15 =>
        try simp only [Act.put, List.setIfInBounds_toArray, List.set_cons_zero, List.set_cons_succ]
        refine anyK_take 1 (oi := ?oo16) ?ho16 (by kernel_rfl) (by kernel_rfl) (by kernel_rfl) (by kernel_rfl) ?hq16 ?hw16 hT0 (fun _ => hS0) (v := ?vv16) ?hy16 ?hk16
        case ho16 => (simp only [List.getElem?_toArray, List.getElem?_cons_succ, List.getElem?_cons_zero]; rfl)
        case hq16 => exact fun _ _ _ h => h
        case hw16 => rfl
        case hy16 =>
          intro W hW
          go_simp
          first | done | with_reducible rfl
        case hk16 =>
        try simp only [Act.put, List.setIfInBounds_toArray, List.set_cons_zero, List.set_cons_succ]
        refine anyK_take 2 (oi := ?oo17) ?ho17 (by kernel_rfl) (by kernel_rfl) (by kernel_rfl) (by kernel_rfl) ?hq17 ?hw17 hT0 (fun _ => hS0) (v := ?vv17) ?hy17 ?hk17
        case ho17 => (simp only [List.getElem?_toArray, List.getElem?_cons_succ, List.getElem?_cons_zero]; rfl)
        case hq17 => exact fun _ _ _ h => h
        case hw17 => rfl
        case hy17 =>
          intro W hW
          go_simp
          first | done | with_reducible rfl
        case hk17 =>
        try simp only [Act.put, List.setIfInBounds_toArray, List.set_cons_zero, List.set_cons_succ]
        refine anyK_take 3 (oi := ?oo18) ?ho18 (by kernel_rfl) (by kernel_rfl) (by kernel_rfl) (by kernel_rfl) ?hq18 ?hw18 hT0 (fun _ => hS0) (v := ?vv18) ?hy18 ?hk18
        case ho18 => (simp only [List.getElem?_toArray, List.getElem?_cons_succ, List.getElem?_cons_zero]; rfl)
        case hq18 => exact fun _ _ _ h => h
        case hw18 => rfl
        case hy18 =>
          intro W hW
          obtain ⟨z0, z1, z2, z3, z4, z5, z6, z7, z8, z9, z10, z11, z12, z13, z14⟩ := hW
          go_simp
          first | done | with_reducible rfl
        case hk18 =>
        try simp only [Act.put, List.setIfInBounds_toArray, List.set_cons_zero, List.set_cons_succ]
        refine anyK_load 4 (oi := ?oo19) ?ho19 (by kernel_rfl) (by kernel_rfl) (by kernel_rfl) (by kernel_rfl) (by kernel_rfl) (by kernel_rfl) ?hq19 ?hw19 hT0 hS0 (v := ?vv19) ?hy19 ?hk19
        case ho19 => (simp only [List.getElem?_toArray, List.getElem?_cons_succ, List.getElem?_cons_zero]; rfl)
        case hq19 => exact fun _ _ _ h => h
        case hw19 => rfl
        case hy19 =>
          intro W hW1 hW
          obtain ⟨y0, y1, y2, y3, y4⟩ := hW
          go_simp
          first | done | with_reducible rfl
        case hk19 =>
        try simp only [Act.put, List.setIfInBounds_toArray, List.set_cons_zero, List.set_cons_succ]
        refine anyK_take 5 (oi := ?oo20) ?ho20 (by kernel_rfl) (by kernel_rfl) (by kernel_rfl) (by kernel_rfl) ?hq20 ?hw20 hT0 (fun _ => hS0) (v := ?vv20) ?hy20 ?hk20
        case ho20 => (simp only [List.getElem?_toArray, List.getElem?_cons_succ, List.getElem?_cons_zero]; rfl)
        case hq20 => exact fun _ _ _ h => h
        case hw20 => rfl
        case hy20 =>
          intro W hW
          go_simp
          first | done | with_reducible rfl
        case hk20 =>
        try simp only [Act.put, List.setIfInBounds_toArray, List.set_cons_zero, List.set_cons_succ]
        refine anyK_take 6 (oi := ?oo21) ?ho21 (by kernel_rfl) (by kernel_rfl) (by kernel_rfl) (by kernel_rfl) ?hq21 ?hw21 hT0 (fun _ => hS0) (v := ?vv21) ?hy21 ?hk21
        case ho21 => (simp only [List.getElem?_toArray, List.getElem?_cons_succ, List.getElem?_cons_zero]; rfl)
        case hq21 => exact fun _ _ _ h => h
        case hw21 => rfl
        case hy21 =>
          intro W hW
          go_simp
          first | done | with_reducible rfl
        case hk21 =>
        try simp only [Act.put, List.setIfInBounds_toArray, List.set_cons_zero, List.set_cons_succ]
        refine anyK_take 7 (oi := ?oo22) ?ho22 (by kernel_rfl) (by kernel_rfl) (by kernel_rfl) (by kernel_rfl) ?hq22 ?hw22 hT0 (fun _ => hS0) (v := ?vv22) ?hy22 ?hk22
        case ho22 => (simp only [List.getElem?_toArray, List.getElem?_cons_succ, List.getElem?_cons_zero]; rfl)
        case hq22 => exact fun _ _ _ h => h
        case hw22 => rfl
        case hy22 =>
          intro W hW
          go_simp
          first | done | with_reducible rfl
        case hk22 =>
        try simp only [Act.put, List.setIfInBounds_toArray, List.set_cons_zero, List.set_cons_succ]
        refine anyK_take 8 (oi := ?oo23) ?ho23 (by kernel_rfl) (by kernel_rfl) (by kernel_rfl) (by kernel_rfl) ?hq23 ?hw23 hT0 (fun _ => hS0) (v := ?vv23) ?hy23 ?hk23
        case ho23 => (simp only [List.getElem?_toArray, List.getElem?_cons_succ, List.getElem?_cons_zero]; rfl)
        case hq23 => exact fun _ _ _ h => h
        case hw23 => rfl
        case hy23 =>
          intro W hW
          obtain ⟨z0, z1, z2, z3, z4, z5, z6, z7, z8, z9, z10, z11, z12, z13, z14⟩ := hW
          go_simp
          first | done | with_reducible rfl
        case hk23 =>
        try simp only [Act.put, List.setIfInBounds_toArray, List.set_cons_zero, List.set_cons_succ]
        refine anyK_on1 9 (by kernel_rfl) ?_
        refine anyK_one 9 (o := ?oo24) ?ho24 ?hk24
        case ho24 => (simp only [List.getElem?_toArray, List.getElem?_cons_succ, List.getElem?_cons_zero]; rfl)
        case hk24 =>
        intro K hK
        go_simp
        refine (HM1.out _ _ _ (HR.out.ext (ext_trans X05.out zz)) ((HQ5.out.at_ X05.out).ext zz)).mono ?_
        rintro e w6 ⟨v6, rfl, own6, xx⟩
        try go_wp2_with fail
        replace yy := Gr.of_ext (B := BP) (ext_trans zz xx)
        replace zz := ext_trans zz xx
        replace ss := HB5.out.ext zz
        have HP6 := hide own6.toI
        have hp6 := own6.toI
        obtain ⟨g0, e0, g1, e1, g2, e2, rfl, -⟩ := hp6
        clear own6
        have hT1 := keepK.out _ yy
        have hS1 := And.intro (ss.cell 0) (And.intro (ss.cell 1) (And.intro (ss.cell 2) (And.intro (ss.cell 3) (ss.cell 4))))
        refine hK.out _ _ hT1 (fun _ => hS1) ?_
        clear hK K
        try simp only [Act.put, List.setIfInBounds_toArray, List.set_cons_zero, List.set_cons_succ]
        refine anyK_on1 10 (by kernel_rfl) ?_
        refine anyK_one 10 (o := ?oo25) ?ho25 ?hk25
        case ho25 => (simp only [List.getElem?_toArray, List.getElem?_cons_succ, List.getElem?_cons_zero]; rfl)
        case hk25 =>
        intro K hK
        have gz := ss.frozen
        have gc := ss.cell
        have K7 := hide (blk_set5 ss (u0 := .slice (some ⟨g0, 0, none⟩) (makeM R Q mv).cells.length e0) (u1 := .slice (some ⟨g1, 0, none⟩) (makeM R Q mv).hand0.length e1) (u2 := .slice (some ⟨g2, 0, none⟩) (makeM R Q mv).hand1.length e2) (u3 := .int .i64 (makeM R Q mv).turn) (u4 := .int .i64 (makeM R Q mv).quiet))
        have PI7 := hide (HP6.out.far5 (u0 := .slice (some ⟨g0, 0, none⟩) (makeM R Q mv).cells.length e0) (u1 := .slice (some ⟨g1, 0, none⟩) (makeM R Q mv).hand0.length e1) (u2 := .slice (some ⟨g2, 0, none⟩) (makeM R Q mv).hand1.length e2) (u3 := .int .i64 (makeM R Q mv).turn) (u4 := .int .i64 (makeM R Q mv).quiet) ss)
        replace yy := ((((((Gr.of_ext (B := BP) zz).set 0 (.slice (some ⟨g0, 0, none⟩) (makeM R Q mv).cells.length e0)).set 1 (.slice (some ⟨g1, 0, none⟩) (makeM R Q mv).hand0.length e1)).set 2 (.slice (some ⟨g2, 0, none⟩) (makeM R Q mv).hand1.length e2)).set 3 (.int .i64 (makeM R Q mv).turn)).set 4 (.int .i64 (makeM R Q mv).quiet))
        go_simp
        clear gz gc
        have hT2 := keepK.out _ yy
        refine hK.out _ _ hT2 (fun h => by cases h) ?_
        clear hK K
        try simp only [Act.put, List.setIfInBounds_toArray, List.set_cons_zero, List.set_cons_succ]
        refine anyK_done (by kernel_rfl) ?_ _
        clear keepK hT0 hT1 hT2
        try clear keepS hS0 hS1
        have G7 := hide yy
        clear yy zz ss xx
        generalize (((((w6.setCell ⟨BP, 0, none⟩ (.slice (some ⟨g0, 0, none⟩) (makeM R Q mv).cells.length e0)).setCell ⟨BP, 1, none⟩ (.slice (some ⟨g1, 0, none⟩) (makeM R Q mv).hand0.length e1)).setCell ⟨BP, 2, none⟩ (.slice (some ⟨g2, 0, none⟩) (makeM R Q mv).hand1.length e2)).setCell ⟨BP, 3, none⟩ (.int .i64 (makeM R Q mv).turn)).setCell ⟨BP, 4, none⟩ (.int .i64 (makeM R Q mv).quiet)) = w7 at *
        have X07 := hide (G7.out.to_ext X05.out (by have := HBW.out; have := HSL.out; have := HB.out; omega))
        have HX7 := hide (G7.out.blk HX5.out HXB.out)
        have HS7 := hide (G7.out.blk HS5.out HSB.out)
        have HG7 := hide (HG5.out.own G7.out (fun k hk => by cases hk; exact HBW.out))
        go_wp2
        go_roundw
        case rel => exact ⟨j + 1, kj + 1, makeM R Q mv, _, _, _, _, _, by omega, by go_num, K7.out, .inr PI7.out, HS1, hide HNX.out.symm, hide (by have := HKJ.out; omega), HS7.out, ⟨_, _, _, _, _, _, HX7.out, HR.out⟩, X07.out, HG7.out⟩
        case measure => simp [intOf]; omega
    · obtain rfl : j = 200 := by omega
      have HZ200 := hide (HTQ.out.symm)
      have t0 : decide (((200 : Nat) : Int) < 200) = false := by decide
      clear HTQ HSS
      generalize hrq : resultM R Q = rq at *
      have HQF := hide (HZ200.out.trans (show sampleM R s 0 Q kj = (rq, kj) by rw [← hrq]; rfl))
      clear hrq HZ200
      have HFIN := hide (HQF.out)
      go_upto_region 8 with fail
      have keepK := hide (fun W (h : Ext wr W) => (show (fun W => W.cell? ⟨BX, 0, none⟩ = some (.string R.name) ∧ W.cell? ⟨BX, 1, none⟩ = some (.int .i64 R.width) ∧ W.cell? ⟨BX, 2, none⟩ = some (.int .i64 R.height) ∧ W.cell? ⟨BX, 3, none⟩ = some (.slice pA R.pieces.length pc) ∧ W.cell? ⟨BX, 4, none⟩ = some (.slice sA R.start.length sc) ∧ W.cell? ⟨BX, 5, none⟩ = some (.bool R.falls) ∧ W.cell? ⟨BX, 6, none⟩ = some (.bool R.keeps) ∧ W.cell? ⟨BX, 7, none⟩ = some (.slice eA R.ends.length ec) ∧ W.cell? ⟨BX, 8, none⟩ = some (.int .i64 R.blocked) ∧ W.cell? ⟨BX, 9, none⟩ = some (.int .i64 R.quiet) ∧ W.cell? ⟨BX, 10, none⟩ = some (.int .i64 R.rept) ∧ W.cell? ⟨BX, 11, none⟩ = some (.pointer (some ⟨BS, 0, none⟩)) ∧ W.cell? ⟨BP, 0, none⟩ = some (d0) ∧ W.cell? ⟨BP, 1, none⟩ = some (d1) ∧ W.cell? ⟨BP, 2, none⟩ = some (d2) ∧ W.cell? ⟨BP, 3, none⟩ = some (d3) ∧ W.cell? ⟨BP, 4, none⟩ = some (d4) ∧ Ext wr W) W from ⟨(HBX.out.ext h).cell 0, (HBX.out.ext h).cell 1, (HBX.out.ext h).cell 2, (HBX.out.ext h).cell 3, (HBX.out.ext h).cell 4, (HBX.out.ext h).cell 5, (HBX.out.ext h).cell 6, (HBX.out.ext h).cell 7, (HBX.out.ext h).cell 8, (HBX.out.ext h).cell 9, (HBX.out.ext h).cell 10, (HBX.out.ext h).cell 11, (HBP.out.ext h).cell 0, (HBP.out.ext h).cell 1, (HBP.out.ext h).cell 2, (HBP.out.ext h).cell 3, (HBP.out.ext h).cell 4, h⟩))
      have yy : Ext wr wr.drew := Below.drew (Below.refl _ _)
      refine region_K (fun W => W.cell? ⟨BX, 0, none⟩ = some (.string R.name) ∧ W.cell? ⟨BX, 1, none⟩ = some (.int .i64 R.width) ∧ W.cell? ⟨BX, 2, none⟩ = some (.int .i64 R.height) ∧ W.cell? ⟨BX, 3, none⟩ = some (.slice pA R.pieces.length pc) ∧ W.cell? ⟨BX, 4, none⟩ = some (.slice sA R.start.length sc) ∧ W.cell? ⟨BX, 5, none⟩ = some (.bool R.falls) ∧ W.cell? ⟨BX, 6, none⟩ = some (.bool R.keeps) ∧ W.cell? ⟨BX, 7, none⟩ = some (.slice eA R.ends.length ec) ∧ W.cell? ⟨BX, 8, none⟩ = some (.int .i64 R.blocked) ∧ W.cell? ⟨BX, 9, none⟩ = some (.int .i64 R.quiet) ∧ W.cell? ⟨BX, 10, none⟩ = some (.int .i64 R.rept) ∧ W.cell? ⟨BX, 11, none⟩ = some (.pointer (some ⟨BS, 0, none⟩)) ∧ W.cell? ⟨BP, 0, none⟩ = some (d0) ∧ W.cell? ⟨BP, 1, none⟩ = some (d1) ∧ W.cell? ⟨BP, 2, none⟩ = some (d2) ∧ W.cell? ⟨BP, 3, none⟩ = some (d3) ∧ W.cell? ⟨BP, 4, none⟩ = some (d4) ∧ Ext wr W) (fun _ => True) [] (by kernel_rfl) ?_
      have hT0 := keepK.out _ yy
      refine anyK_take 0 (oi := ?oo26) ?ho26 (by kernel_rfl) (by kernel_rfl) (by kernel_rfl) (by kernel_rfl) ?hq26 ?hw26 hT0 (fun _ => trivial) (v := ?vv26) ?hy26 ?hk26
      case ho26 => (simp only [List.getElem?_toArray, List.getElem?_cons_succ, List.getElem?_cons_zero]; rfl)
      case hq26 => exact fun _ _ _ h => h
      case hw26 => rfl
      case hy26 =>
        intro W hW
        go_simp
        first | done | with_reducible rfl
      case hk26 =>
      try simp only [Act.put, List.setIfInBounds_toArray, List.set_cons_zero, List.set_cons_succ]
      refine anyK_take 1 (oi := ?oo27) ?ho27 (by kernel_rfl) (by kernel_rfl) (by kernel_rfl) (by kernel_rfl) ?hq27 ?hw27 hT0 (fun _ => trivial) (v := ?vv27) ?hy27 ?hk27
      case ho27 => (simp only [List.getElem?_toArray, List.getElem?_cons_succ, List.getElem?_cons_zero]; rfl)
      case hq27 => exact fun _ _ _ h => h
      case hw27 => rfl
      case hy27 =>
        intro W hW
        go_simp
        first | done | with_reducible rfl
      case hk27 =>
      try simp only [Act.put, List.setIfInBounds_toArray, List.set_cons_zero, List.set_cons_succ]
      refine anyK_take 2 (oi := ?oo28) ?ho28 (by kernel_rfl) (by kernel_rfl) (by kernel_rfl) (by kernel_rfl) ?hq28 ?hw28 hT0 (fun _ => trivial) (v := ?vv28) ?hy28 ?hk28
      case ho28 => (simp only [List.getElem?_toArray, List.getElem?_cons_succ, List.getElem?_cons_zero]; rfl)
      case hq28 => exact fun _ _ _ h => h
      case hw28 => rfl
      case hy28 =>
        intro W hW
        go_simp
        first | done | with_reducible rfl
      case hk28 =>
      try simp only [Act.put, List.setIfInBounds_toArray, List.set_cons_zero, List.set_cons_succ]
      refine anyK_take 3 (oi := ?oo29) ?ho29 (by kernel_rfl) (by kernel_rfl) (by kernel_rfl) (by kernel_rfl) ?hq29 ?hw29 hT0 (fun _ => trivial) (v := ?vv29) ?hy29 ?hk29
      case ho29 => (simp only [List.getElem?_toArray, List.getElem?_cons_succ, List.getElem?_cons_zero]; rfl)
      case hq29 => exact fun _ _ _ h => h
      case hw29 => rfl
      case hy29 =>
        intro W hW
        obtain ⟨z0, z1, z2, z3, z4, z5, z6, z7, z8, z9, z10, z11, z12, z13, z14, z15, z16, z17⟩ := hW
        go_simp
        first | done | with_reducible rfl
      case hk29 =>
      try simp only [Act.put, List.setIfInBounds_toArray, List.set_cons_zero, List.set_cons_succ]
      refine anyK_take 4 (oi := ?oo30) ?ho30 (by kernel_rfl) (by kernel_rfl) (by kernel_rfl) (by kernel_rfl) ?hq30 ?hw30 hT0 (fun _ => trivial) (v := ?vv30) ?hy30 ?hk30
      case ho30 => (simp only [List.getElem?_toArray, List.getElem?_cons_succ, List.getElem?_cons_zero]; rfl)
      case hq30 => exact fun _ _ _ h => h
      case hw30 => rfl
      case hy30 =>
        intro W hW
        obtain ⟨z0, z1, z2, z3, z4, z5, z6, z7, z8, z9, z10, z11, z12, z13, z14, z15, z16, z17⟩ := hW
        go_simp
        first | done | with_reducible rfl
      case hk30 =>
      try simp only [Act.put, List.setIfInBounds_toArray, List.set_cons_zero, List.set_cons_succ]
      refine anyK_on1 5 (by kernel_rfl) ?_
      refine anyK_one 5 (o := ?oo31) ?ho31 ?hk31
      case ho31 => (simp only [List.getElem?_toArray, List.getElem?_cons_succ, List.getElem?_cons_zero]; rfl)
      case hk31 =>
      intro K hK
      go_simp
      refine (HRS.out _ (ext_trans X0R.out yy) (HQ.out.tfr (ts := [123]) (by decide) (TFr.of_ext yy))).mono ?_
      rintro e wy ⟨rfl, xx⟩
      try go_wp2_with fail
      replace yy := ext_trans yy xx
      have hT1 := keepK.out _ yy
      refine hK.out _ _ hT1 (fun _ => trivial) ?_
      clear hK K
      try simp only [Act.put, List.setIfInBounds_toArray, List.set_cons_zero, List.set_cons_succ]
      refine anyK_take 6 (oi := ?oo32) ?ho32 (by kernel_rfl) (by kernel_rfl) (by kernel_rfl) (by kernel_rfl) ?hq32 ?hw32 hT1 (fun _ => trivial) (v := ?vv32) ?hy32 ?hk32
      case ho32 => (simp only [List.getElem?_toArray, List.getElem?_cons_succ, List.getElem?_cons_zero]; rfl)
      case hq32 => exact fun _ _ _ h => h
      case hw32 => rfl
      case hy32 =>
        intro W hW
        go_simp
        first | done | with_reducible rfl
      case hk32 =>
      try simp only [Act.put, List.setIfInBounds_toArray, List.set_cons_zero, List.set_cons_succ]
      refine anyK_done (by kernel_rfl) ?_ _
      clear keepK hT0 hT1
      go_wp2
      go_ret
      exact ⟨by rw [HFIN.out]; rfl, by rw [HFIN.out]; exact Blk.ext HSR.out yy, HG.out.ext yy⟩

end Go.Proofs.Ytdoibgmmijhlfaa
namespace Go.Proofs.Ytdoibgmmijhlfaa
open Go.ChangeShapes Go.WideShapes Go.ChangeAt Go.RowKit Go.Shelf
set_option linter.unusedVariables false
set_option linter.unusedSimpArgs false
theorem wrap_mul {x y : Int} (x0 : 0 ≤ x) (x1 : x ≤ 600000) (y0 : 0 ≤ y) (y1 : y ≤ 5000) : IntKind.i64.wrap (x * y) = x * y := by
  have h1 : x * y ≤ 600000 * 5000 := Int.mul_le_mul x1 y1 y0 (by omega)
  have h0 : 0 ≤ x * y := Int.mul_nonneg x0 y0
  rw [IntKind.wrap_i64]
  omega
theorem zeroI_no {ks : List NT} (h : ∀ j, j < ks.length → (ks.getD j NT.nil).a ≠ 0) : zeroI ks = none := by
  cases e : zeroI ks with
  | none => rfl
  | some j =>
    obtain ⟨z1, z2, -⟩ := zero_some e
    exact absurd z2 (h j z1)

set_option maxHeartbeats 4000000 in
set_option maxRecDepth 100000 in
theorem choose_any {w : World} {B : Nat} {P : PosM} {x y : Int} {ex : Bool} {ks : List NT} {bs : List Nat} {A : Option Addr} {c : Nat} {c0 c1 c2 c3 c4 : Value}
    (KB : Blk w B 86 #[c0, c1, c2, c3, c4, .int .i64 x, .int .i64 y, .slice A ks.length c]) (hrow : CellsAt w A (bs.map ptrV)) (hl : bs.length = ks.length) (hl2 : ks.length ≤ 1000000) (hne : ks ≠ []) (hx0 : 0 ≤ x) (hx1 : x ≤ 5000)
    (HK : ∀ (i : Nat) (k : NT) (b : Nat), ks[i]? = some k → bs[i]? = some b → w.cell? ⟨b, 5, none⟩ = some (.int .i64 k.a) ∧ w.cell? ⟨b, 6, none⟩ = some (.int .i64 k.b) ∧ 0 ≤ k.a ∧ k.a ≤ 5000 ∧ 0 ≤ k.b ∧ k.b ≤ 10000) :
    Calls Try.prog 66 #[.pointer (some ⟨B, 0, none⟩)] w fun e w' => ∃ b, e = .returned (ptrV b) ∧ bs[chooseW (.node P x y ex ks)]? = some b ∧ Ext w w' := by
  have HCH := hide (show chooseW (.node P x y ex ks) = match zeroI ks with | some i => i | none => promI (rootM (100 * x)) ks ks.length from rfl)
  generalize chooseW (.node P x y ex ks) = ch at *
  have f := KB.cell
  have HKK := hide HK
  have HRW := hide hrow
  have HNE := hide (List.length_pos_iff.2 hne)
  clear KB HK hrow hne
  go_enter Try.func66, Try.ntmps66
  go_wp2
  go_loop [14] (fun i => ∃ k : Nat, k ≤ ks.length ∧ i = .int .i64 k ∧ Hid (∀ j, j < k → (ks.getD j NT.nil).a ≠ 0)) (fun i => ks.length - (intOf i).toNat)
  case atStart => exact ⟨0, Nat.zero_le _, rfl, hide (fun j h => by omega)⟩
  case round =>
    obtain ⟨k, hk, rfl, hz⟩ := hrel
    by_cases hlt : k < ks.length
    · obtain ⟨kk, b, hkk, hb⟩ := kid_of hl hlt
      obtain ⟨n5, n6, m0, m1, m2, m3⟩ := HKK.out k kk b hkk hb
      obtain ⟨bR, oR, rfl, hcell⟩ := HRW.out k (ptrV b) (by rw [List.getElem?_map, hb]; rfl)
      have hkd : ks.getD k NT.nil = kk := by rw [List.getD_eq_getElem?_getD, hkk]; rfl
      have j0 : (0 : Int) ≤ (k : Int) := by omega
      have j1 : (k : Int) < (ks.length : Int) := by omega
      unfold ptrV at hcell
      clear m0 m1 m2 m3 n6
      by_cases ha : kk.a = 0
      · have HF := hide (show ch = k by rw [HCH.out, zeroI_of hlt (by rw [hkd]; exact ha) hz.out])
        have HB := hide hb
        rw [ha] at n5
        clear ha hkd hkk hb
        go_wp2
        go_ret
        exact ⟨b, rfl, by rw [HF.out]; exact HB.out, Below.refl _ _⟩
      · have t0 : (kk.a == 0) = false := by simpa using ha
        have HZ : Hid (∀ j, j < k + 1 → (ks.getD j NT.nil).a ≠ 0) := hide (fun j hj => by
          by_cases e : j = k
          · rw [e, hkd]; exact ha
          · exact hz.out j (by omega))
        clear ha hkd hkk hb hz
        generalize kk.a = ka at *
        go_wp2
        go_round
        case rel => exact ⟨k + 1, by omega, by go_num, HZ⟩
        case measure => simp [intOf]; omega
    · obtain rfl : k = ks.length := by omega
      have HPR := hide (HCH.out.trans (by rw [zeroI_no hz.out]))
      have hw1 : IntKind.i64.wrap (100 * x) = 100 * x := by rw [IntKind.wrap_i64]; omega
      have HRT := hide (fun W => root_any (100 * x) W (by omega) (by omega))
      obtain ⟨r0, r1⟩ := root_bd (n := 100 * x) (by omega)
      generalize rootM (100 * x) = r at *
      have r2 : r ≤ 500000 := by omega
      clear hz HCH r1
      go_wp2_with fail
      refine (HRT.out _).mono ?_
      rintro e w' ⟨rfl, rfl⟩
      clear HRT hw1 hx0 hx1
      obtain ⟨k0, b0, hk0, hb0⟩ := kid_of hl (show 0 < ks.length by have := HNE.out; omega)
      obtain ⟨bR, oR, rfl, hcell0⟩ := HRW.out 0 (ptrV b0) (by rw [List.getElem?_map, hb0]; rfl)
      have HB0 := hide hb0
      unfold ptrV at hcell0
      simp only [Nat.add_zero] at hcell0
      have j0 : (0 : Int) < (ks.length : Int) := by have := HNE.out; omega
      have j0' : 0 < ks.length := by omega
      clear hk0 hb0
      go_wp2
      clear hcell0 f
      go_loopw [6, 42] (fun best i wr => ∃ k q : Nat, k ≤ ks.length ∧ i = .int .i64 k ∧ wr = w.drewN q ∧ Hid (∃ b : Nat, bs[promI r ks k]? = some b ∧ best = .pointer (some ⟨b, 0, none⟩))) (fun _ i _ => ks.length - (intOf i).toNat)
      case atStart => exact ⟨0, 0, Nat.zero_le _, rfl, rfl, hide ⟨b0, HB0.out, rfl⟩⟩
      case round =>
        obtain ⟨k, q, hk, rfl, rfl, hbest⟩ := hrel
        obtain ⟨bb, hbb, rfl⟩ := hbest.out
        clear hbest
        by_cases hlt : k < ks.length
        · obtain ⟨kk, b, hkk, hb⟩ := kid_of hl hlt
          have hjl : promI r ks k < ks.length := by have := (List.getElem?_eq_some_iff.1 hbb).1; rw [hl] at this; exact this
          have hgb := getD_get' hjl
          have hkd := getD_get' hlt
          have HST := hide (show promI r ks (k + 1) = if (10 * (ks.getD (promI r ks k) NT.nil).b + r) * (ks.getD k NT.nil).a < (10 * (ks.getD k NT.nil).b + r) * (ks.getD (promI r ks k) NT.nil).a then k else promI r ks k from rfl)
          generalize ks.getD (promI r ks k) NT.nil = kb at *
          generalize ks.getD k NT.nil = kc at *
          obtain rfl : kk = kc := by rw [hkk] at hkd; exact Option.some.inj hkd
          obtain ⟨n5, n6, p0, p1, p2, p3⟩ := HKK.out k kk b hkk hb
          obtain ⟨m5, m6, q0, q1, q2, q3⟩ := HKK.out _ kb bb hgb hbb
          obtain ⟨bR', oR', e, hcell⟩ := HRW.out k (ptrV b) (by rw [List.getElem?_map, hb]; rfl)
          simp only [Option.some.injEq, Addr.mk.injEq, and_true] at e
          obtain ⟨rfl, rfl⟩ := e
          unfold ptrV at hcell
          have HBB := hide hbb
          have HB := hide hb
          generalize kk.a = ka at *
          generalize kk.b = kp at *
          generalize kb.a = ba at *
          generalize kb.b = bp at *
          have hw1 : IntKind.i64.wrap (10 * kp) = 10 * kp := by rw [IntKind.wrap_i64]; omega
          have hw2 : IntKind.i64.wrap (10 * kp + r) = 10 * kp + r := by rw [IntKind.wrap_i64]; omega
          have hw3 : IntKind.i64.wrap (10 * bp) = 10 * bp := by rw [IntKind.wrap_i64]; omega
          have hw4 : IntKind.i64.wrap (10 * bp + r) = 10 * bp + r := by rw [IntKind.wrap_i64]; omega
          have hw5 : IntKind.i64.wrap ((10 * kp + r) * ba) = (10 * kp + r) * ba := wrap_mul (by omega) (by omega) q0 q1
          have hw6 : IntKind.i64.wrap ((10 * bp + r) * ka) = (10 * bp + r) * ka := wrap_mul (by omega) (by omega) p0 p1
          have j0 : (0 : Int) ≤ (k : Int) := by omega
          have j1 : (k : Int) < (ks.length : Int) := by omega
          clear hkk hb hjl hgb hkd hbb p0 p1 p2 p3 q0 q1 q2 q3
          by_cases hc : (10 * bp + r) * ka < (10 * kp + r) * ba
          · have t1 : decide ((10 * bp + r) * ka < (10 * kp + r) * ba) = true := decide_eq_true hc
            have HS2 := hide (HST.out.trans (if_pos hc))
            clear hc HST
            go_wp2_with (go_quiet (fail))
            go_roundw
            case rel => exact ⟨k + 1, _, by omega, by go_num, rfl, hide ⟨b, by rw [HS2.out]; exact HB.out, rfl⟩⟩
            case measure => simp [intOf]; omega
          · have t1 : decide ((10 * bp + r) * ka < (10 * kp + r) * ba) = false := decide_eq_false hc
            have HS2 := hide (HST.out.trans (if_neg hc))
            clear hc HST
            go_wp2_with (go_quiet (fail))
            go_roundw
            case rel => exact ⟨k + 1, _, by omega, by go_num, rfl, hide ⟨bb, by rw [HS2.out]; exact HBB.out, rfl⟩⟩
            case measure => simp [intOf]; omega
        · obtain rfl : k = ks.length := by omega
          have HBB := hide hbb
          clear hbb
          go_wp2
          go_ret
          exact ⟨bb, rfl, by rw [HPR.out]; exact HBB.out, ext_drewN (Below.refl _ _) q⟩

end Go.Proofs.Ytdoibgmmijhlfaa
