/- Memory: the map of a valuer (states under way, states whose value is known), and the set of the numbers seen. -/
import Derived.Maps.OwnSet
import Derived.DataShut
import Derived.Test.YthgbdonjheengaaMem2
import Derived.Test.YthgbdonjheengaaNimP
import Derived.Test.YthgbdonjheengaaProg
namespace Go.Proofs.Ythgbdonjheengaa
open Go.Maps
set_option linter.unusedVariables false
theorem own_tight {tk : TypeId} {R : Value → Option (DataW Unit × List MemPlace)} {w : World} {B n : Nat} {D : DataW Unit} (h : w.ownsMap Try.prog tk R B n D) : w.ownsMap Try.prog tk R B (Maps.size D) D := by
  obtain ⟨es, clock, hb, F, _, rfl⟩ := h
  exact ⟨es, clock, hb, F, by simp [Maps.size, length_sorted], rfl⟩
theorem zero_int (w : World) : (zeroValue 3).run Try.prog w = .ok (.int .i64 0) w := by kernel_rfl
theorem zero_bool (w : World) : (zeroValue 4).run Try.prog w = .ok (.bool false) w := by kernel_rfl
theorem lit_inj {q : IntKind} {a b : Int} (h : (DataW.lit (.int q a) : DataW Unit) = .lit (.int q b)) : a = b := (Lit.int.inj (DataW.lit.inj h)).2
/-- How states are keys. -/
structure KeyAs (σ : Type) where
  tk : TypeId
  kv : σ → Value
  ok : σ → Prop
structure KeyAs.Good {σ : Type} (K : KeyAs σ) : Prop where
  keyed : Keyed Try.prog K.tk
  inj : ∀ a b, K.ok a → K.ok b → K.kv a = K.kv b → a = b
  key : ∀ a, K.ok a → ∃ l, keyOf Try.prog K.tk (K.kv a) = some l
section
variable {σ : Type} {K : KeyAs σ} {g : σ → Nat} {w : World} {B : Nat} {U F : List σ}
/-- Block B is the map of a valuer: the states of U are under way, those of F have their values. -/
def MapN (K : KeyAs σ) (g : σ → Nat) (w : World) (B : Nat) (U F : List σ) : Prop :=
  ∃ D : DataW Unit, w.ownsMap Try.prog K.tk (plainElem Try.prog 3) B (U.length + F.length) D ∧ Maps.size D = U.length + F.length ∧ (U ++ F).Nodup ∧ (∀ s ∈ U ++ F, K.ok s) ∧
    ∀ s l, K.ok s → keyOf Try.prog K.tk (K.kv s) = some l → (Maps.has D l = true ↔ s ∈ U ++ F) ∧ (s ∈ U → D.atKey l (.lit (.int .i64 0)) = .lit (.int .i64 (-1))) ∧ (s ∈ F → D.atKey l (.lit (.int .i64 0)) = .lit (.int .i64 (g s : Int)))
theorem mapN_made (w : World) : MapN K g (w.alloc (.map #[] 0)) w.heap.size [] [] := by
  refine ⟨.map [], World.ownsMap_made _ _ _ _, rfl, List.nodup_nil, fun s h => absurd h List.not_mem_nil, fun s l _ _ => ⟨⟨fun h => ?_, fun h => absurd h List.not_mem_nil⟩, fun h => absurd h List.not_mem_nil, fun h => absurd h List.not_mem_nil⟩⟩
  exact absurd h (by simp [Maps.has])
theorem MapN.lt (h : MapN K g w B U F) : B < w.heap.size := by
  obtain ⟨D, h, _⟩ := h
  exact h.lt
theorem MapN.kept {w' : World} {row : Option Nat} (h : MapN K g w B U F) (hg : w.grownBy w' row) (hne : some B ≠ row) : MapN K g w' B U F := by
  obtain ⟨D, h, r⟩ := h
  exact ⟨D, h.kept hg hne, r⟩
theorem MapN.ext {w' : World} (h : MapN K g w B U F) (he : Ext w w') : MapN K g w' B U F := by
  obtain ⟨D, ⟨es, clock, hb, r1⟩, r⟩ := h
  exact ⟨D, ⟨es, clock, (he.block B (Array.getElem?_eq_some_iff.1 hb).1).trans hb, r1⟩, r⟩
theorem MapN.nodup (h : MapN K g w B U F) : (U ++ F).Nodup := by
  obtain ⟨D, _, _, h, _⟩ := h
  exact h
theorem MapN.oks (h : MapN K g w B U F) : ∀ s ∈ U ++ F, K.ok s := by
  obtain ⟨D, _, _, _, h, _⟩ := h
  exact h
theorem MapN.len {t : TypeId} (h : MapN K g w B U F) (ht : Try.prog.underlying t = some (.map K.tk 3)) (ty : TypeId) : (Builtin.len_ #[t] ty #[.map (some B)]).run Try.prog w = .ok (.int .i64 ((U.length + F.length : Nat) : Int)) w := by
  obtain ⟨D, h, hs, _⟩ := h
  rw [h.len ht ty, hs]
theorem MapN.look_some {t : TypeId} (G : K.Good) (h : MapN K g w B U F) (ht : Try.prog.underlying t = some (.map K.tk 3)) {s : σ} (hs : s ∈ F) : (Instr.lookup t (.map (some B)) (K.kv s) true).run Try.prog w = .ok (.tuple #[.int .i64 (g s : Int), .bool true]) w := by
  obtain ⟨D, h, _, hn, ho, hf⟩ := h
  have hok := ho s (List.mem_append.2 (.inr hs))
  obtain ⟨l, hl⟩ := G.key s hok
  obtain ⟨h1, _, h3⟩ := hf s l hok hl
  obtain ⟨v, ps, hrun, hv⟩ := h.look_ok G.keyed ht (zero_int w) (plainElem_int Try.underlying3 (by decide)) hl
  rw [h1.2 (List.mem_append.2 (.inr hs))] at hrun
  rw [h3 hs] at hv
  obtain ⟨a, rfl, ha, _⟩ := plainElem_int_inv Try.underlying3 hv
  rw [lit_inj (congrArg Prod.fst ha)]
  exact hrun
theorem MapN.look {t : TypeId} (G : K.Good) (h : MapN K g w B U F) (ht : Try.prog.underlying t = some (.map K.tk 3)) {s : σ} (hs : s ∈ F) : (Instr.lookup t (.map (some B)) (K.kv s) false).run Try.prog w = .ok (.int .i64 (g s : Int)) w := by
  obtain ⟨D, h, _, hn, ho, hf⟩ := h
  have hok := ho s (List.mem_append.2 (.inr hs))
  obtain ⟨l, hl⟩ := G.key s hok
  obtain ⟨h1, _, h3⟩ := hf s l hok hl
  obtain ⟨c, hrun, hat, _⟩ := h.lookup_int G.keyed ht Try.underlying3 (zero_int w) hl
  rw [h3 hs] at hat
  rw [lit_inj hat]
  exact hrun
theorem MapN.look_none {t : TypeId} (G : K.Good) (h : MapN K g w B U F) (ht : Try.prog.underlying t = some (.map K.tk 3)) {s : σ} (hok : K.ok s) (hs : s ∉ U ++ F) : (Instr.lookup t (.map (some B)) (K.kv s) true).run Try.prog w = .ok (.tuple #[.int .i64 0, .bool false]) w := by
  obtain ⟨D, h, _, hn, ho, hf⟩ := h
  obtain ⟨l, hl⟩ := G.key s hok
  obtain ⟨h1, _, _⟩ := hf s l hok hl
  obtain ⟨v, ps, hrun, hv⟩ := h.look_ok G.keyed ht (zero_int w) (plainElem_int Try.underlying3 (by decide)) hl
  have hno : Maps.has D l = false := by
    cases e : Maps.has D l
    · rfl
    · exact absurd (h1.1 e) hs
  rw [hno] at hrun
  rw [atKey_of_not_has hno] at hv
  obtain ⟨a, rfl, ha, _⟩ := plainElem_int_inv Try.underlying3 hv
  rw [lit_inj (congrArg Prod.fst ha)]
  exact hrun
theorem key_ne (G : K.Good) {s s' : σ} {l l' : Lit} (h : keyOf Try.prog K.tk (K.kv s) = some l) (h' : keyOf Try.prog K.tk (K.kv s') = some l') (ho : K.ok s) (ho' : K.ok s') (hne : s' ≠ s) : l' ≠ l := by
  rintro rfl
  exact hne (G.inj s' s ho' ho (G.keyed.inj h' h))
/-- A state begins. -/
theorem MapN.push {t : TypeId} (G : K.Good) (h : MapN K g w B U F) (ht : Try.prog.underlying t = some (.map K.tk 3)) (hn : U.length + F.length < maxLen) {s : σ} (hok : K.ok s) (hs : s ∉ U ++ F) :
    ∃ w', (Instr.mapUpdate t (.map (some B)) (K.kv s) (.int .i64 (-1))).run Try.prog w = .ok () w' ∧ MapN K g w' B (s :: U) F ∧ w.grownBy w' (some B) := by
  obtain ⟨D, h, hsz, hnd, ho, hf⟩ := h
  obtain ⟨l, hl⟩ := G.key s hok
  obtain ⟨w', hrun, hown, hgrow⟩ := h.update G.keyed ht hn hl (plainElem_int (H := Unit) (a := -1) Try.underlying3 (by decide))
  have hno : Maps.has D l = false := by
    cases e : Maps.has D l
    · rfl
    · exact absurd ((hf s l hok hl).1.1 e) hs
  have hlit := G.keyed.key hl
  refine ⟨w', hrun, ⟨D.put l (.lit (.int .i64 (-1))), ?_, ?_, ?_, ?_, ?_⟩, hgrow⟩
  · rw [show (s :: U).length + F.length = U.length + F.length + 1 by simp; omega]
    exact hown
  · rw [size_put (h.tidy G.keyed), hno, if_neg (by decide), hsz, List.length_cons]
    omega
  · exact List.nodup_cons.2 ⟨hs, hnd⟩
  · intro x hx
    rcases List.mem_cons.1 hx with rfl | hx
    · exact hok
    · exact ho x hx
  · intro x lx hox hlx
    by_cases hxs : x = s
    · subst hxs
      obtain rfl : l = lx := Option.some.inj (hl.symm.trans hlx)
      refine ⟨⟨fun _ => List.mem_cons_self .., fun _ => has_put_same h.isMap hlit _⟩, fun _ => atKey_put_same h.isMap hlit _ _, fun hx => absurd (List.mem_append.2 (.inr hx)) hs⟩
    · have hne := key_ne G hl hlx hok hox hxs
      obtain ⟨f1, f2, f3⟩ := hf x lx hox hlx
      rw [has_put_other hne, atKey_put_other hne]
      refine ⟨f1.trans ⟨fun hx => List.mem_cons_of_mem _ hx, fun hx => (List.mem_cons.1 hx).resolve_left hxs⟩, fun hx => f2 ((List.mem_cons.1 hx).resolve_left hxs), f3⟩
/-- A state is done. -/
theorem MapN.done {t : TypeId} (G : K.Good) {s : σ} (h : MapN K g w B (s :: U) F) (ht : Try.prog.underlying t = some (.map K.tk 3)) (hn : U.length + F.length + 1 < maxLen) (hgs : g s ≤ 1000000) :
    ∃ w', (Instr.mapUpdate t (.map (some B)) (K.kv s) (.int .i64 (g s : Int))).run Try.prog w = .ok () w' ∧ MapN K g w' B U (s :: F) ∧ w.grownBy w' (some B) := by
  obtain ⟨D, h, hsz, hnd, ho, hf⟩ := h
  have hok := ho s (List.mem_cons_self ..)
  obtain ⟨l, hl⟩ := G.key s hok
  have hw : (Lit.int .i64 (g s : Int)).wf = true := (Lit.wf_int_iff _ _).2 ⟨by show (-9223372036854775808 : Int) ≤ _; omega, by show _ ≤ (9223372036854775807 : Int); omega⟩
  obtain ⟨w', hrun, hown, hgrow⟩ := h.update G.keyed ht (by simp only [List.length_cons]; omega) hl (plainElem_int (H := Unit) Try.underlying3 hw)
  have hyes : Maps.has D l = true := (hf s l hok hl).1.2 (List.mem_cons_self ..)
  have hlit := G.keyed.key hl
  have hsz' : Maps.size (D.put l (.lit (.int .i64 (g s : Int)))) = U.length + (s :: F).length := by
    rw [size_put (h.tidy G.keyed), hyes, if_pos rfl, hsz]
    simp
    omega
  have hp : (s :: (U ++ F)).Perm (U ++ s :: F) := List.perm_middle.symm
  have hmem : ∀ x, x ∈ s :: (U ++ F) ↔ x ∈ U ++ s :: F := fun x => hp.mem_iff
  refine ⟨w', hrun, ⟨_, ?_, hsz', ?_, ?_, ?_⟩, hgrow⟩
  · rw [← hsz']
    exact own_tight hown
  · exact hp.nodup_iff.1 hnd
  · intro x hx
    exact ho x ((hmem x).2 hx)
  · intro x lx hox hlx
    by_cases hxs : x = s
    · subst hxs
      obtain rfl : l = lx := Option.some.inj (hl.symm.trans hlx)
      refine ⟨⟨fun _ => (hmem x).1 (List.mem_cons_self ..), fun _ => has_put_same h.isMap hlit _⟩, fun hx => absurd (List.mem_append.2 (.inl hx)) (List.nodup_cons.1 hnd).1, fun _ => atKey_put_same h.isMap hlit _ _⟩
    · have hne := key_ne G hl hlx hok hox hxs
      obtain ⟨f1, f2, f3⟩ := hf x lx hox hlx
      rw [has_put_other hne, atKey_put_other hne]
      exact ⟨f1.trans (hmem x), fun hx => f2 (List.mem_cons_of_mem _ hx), fun hx => f3 ((List.mem_cons.1 hx).resolve_left hxs)⟩
end
/-- Block S is the set of the numbers of L. -/
def SeenN (w : World) (S : Nat) (L : List Nat) : Prop :=
  ∃ D : DataW Unit, w.ownsMap Try.prog 3 (plainElem Try.prog 4) S L.length D ∧ ∀ k : Nat, D.atKey (.int .i64 (k : Int)) (.lit (.bool false)) = .lit (.bool (decide (k ∈ L)))
section
variable {w : World} {S : Nat} {L : List Nat}
theorem seenN_made (w : World) : SeenN (w.alloc (.map #[] 0)) w.heap.size [] := ⟨.map [], World.ownsMap_made _ _ _ _, fun k => by simp [DataW.atKey]⟩
theorem SeenN.lt (h : SeenN w S L) : S < w.heap.size := by
  obtain ⟨D, h, _⟩ := h
  exact h.lt
theorem SeenN.kept {w' : World} {row : Option Nat} (h : SeenN w S L) (hg : w.grownBy w' row) (hne : some S ≠ row) : SeenN w' S L := by
  obtain ⟨D, h, r⟩ := h
  exact ⟨D, h.kept hg hne, r⟩
theorem wf_small {k : Nat} (hk : k ≤ 1000000) : (Lit.int .i64 (k : Int)).wf = true := (Lit.wf_int_iff _ _).2 ⟨by show (-9223372036854775808 : Int) ≤ _; omega, by show _ ≤ (9223372036854775807 : Int); omega⟩
theorem bool_inv {P : Program} {e : TypeId} (he : P.underlying e = some .bool) {v : Value} {z : DataW Unit × List MemPlace} (h : plainElem P e v = some z) : ∃ b, v = .bool b ∧ z = (.lit (.bool b), []) := by
  unfold plainElem at h
  rw [he] at h
  cases v <;> simp at h
  exact ⟨_, rfl, h.symm⟩
theorem SeenN.look {t : TypeId} (h : SeenN w S L) (ht : Try.prog.underlying t = some (.map 3 4)) {k : Nat} (hk : k ≤ 1000000) : (Instr.lookup t (.map (some S)) (.int .i64 (k : Int)) false).run Try.prog w = .ok (.bool (decide (k ∈ L))) w := by
  obtain ⟨D, h, hf⟩ := h
  obtain ⟨v, ps, hrun, hv⟩ := h.lookup (int_keyed Try.underlying3) ht (zero_bool w) (plainElem_bool (H := Unit) Try.underlying4 false) (keyOf_int_mk Try.underlying3 (wf_small hk))
  rw [hf k] at hv
  obtain ⟨b, rfl, hb⟩ := bool_inv Try.underlying4 hv
  rw [Lit.bool.inj (DataW.lit.inj (congrArg Prod.fst hb))]
  exact hrun
theorem SeenN.put {t : TypeId} (h : SeenN w S L) (ht : Try.prog.underlying t = some (.map 3 4)) (hn : L.length < maxLen) {k : Nat} (hk : k ≤ 1000000) :
    ∃ w', (Instr.mapUpdate t (.map (some S)) (.int .i64 (k : Int)) (.bool true)).run Try.prog w = .ok () w' ∧ SeenN w' S (L ++ [k]) ∧ w.grownBy w' (some S) := by
  obtain ⟨D, h, hf⟩ := h
  have hkey := keyOf_int_mk (P := Try.prog) Try.underlying3 (wf_small hk)
  obtain ⟨w', hrun, hown, hgrow⟩ := h.update (int_keyed Try.underlying3) ht hn hkey (plainElem_bool (H := Unit) Try.underlying4 true)
  refine ⟨w', hrun, ⟨_, by rw [List.length_append]; exact hown, fun x => ?_⟩, hgrow⟩
  by_cases hx : x = k
  · subst hx
    rw [atKey_put_same (k := .int .i64 (x : Int)) h.isMap (show WideAt.IsKeyLit (.int .i64 (x : Int)) from trivial)]
    simp
  · have hne : (Lit.int .i64 (x : Int)) ≠ .int .i64 (k : Int) := fun e => hx (by have := (Lit.int.inj e).2; omega)
    rw [atKey_put_other hne, hf x]
    simp [hx]
end
end Go.Proofs.Ythgbdonjheengaa
