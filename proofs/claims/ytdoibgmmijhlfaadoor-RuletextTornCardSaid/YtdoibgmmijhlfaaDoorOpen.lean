/- An argument that is rules, or a position, opened: it lies in memory as the model has it. -/
import Derived.Test.YtdoibgmmijhlfaaDoorRows
import Derived.Test.YtdoibgmmijhlfaaDoorGBase
import Derived.ProofKit
import Derived.OpenShut
import Derived.Deep.Slices
namespace Go.Proofs.YtdoibgmmijhlfaaDoor
open Go.ChangeShapes Go.WideShapes Go.ChangeAt Go.RowKit Go.Deep
set_option linter.unusedVariables false
theorem spot_none {w : World} {x : Addr} {v : Value} (h : w.cell? x = some v) : x = ⟨x.block, x.off, none⟩ := by
  obtain ⟨b, o, s⟩ := x
  cases s with
  | none => rfl
  | some s =>
    exfalso
    unfold World.cell? at h
    simp only at h
    split at h
    · simp at h
    · cases h
theorem list_of {α : Type} (p : Nat → α → Prop) : ∀ n, (∀ i, i < n → ∃ x, p i x) → ∃ l : List α, l.length = n ∧ ∀ (i : Nat) (x : α), l[i]? = some x → p i x
  | 0, _ => ⟨[], rfl, fun i x h => by simp at h⟩
  | n + 1, h => by
    obtain ⟨l, hl, hp⟩ := list_of p n (fun i hi => h i (by omega))
    obtain ⟨x, hx⟩ := h n (by omega)
    refine ⟨l ++ [x], by simp [hl], fun i y hy => ?_⟩
    by_cases e : i < n
    · rw [List.getElem?_append_left (by omega)] at hy
      exact hp i y hy
    · rw [List.getElem?_append_right (by omega)] at hy
      by_cases e2 : i = n
      · subst e2
        rw [hl] at hy
        simp at hy
        subst hy
        exact hx
      · match hk : i - l.length, hy with
        | 0, _ => omega
        | k + 1, hy => simp at hy
/-- Place t of rows of s cells each: row i, place j. -/
theorem flatten_inv (s : Nat) : ∀ (l : List (List Value)), (∀ x ∈ l, x.length = s) → ∀ (t : Nat) (v : Value), l.flatten[t]? = some v → ∃ i j x, l[i]? = some x ∧ j < s ∧ t = i * s + j ∧ x[j]? = some v
  | [], _, t, v, h => by simp at h
  | a :: l, hl, t, v, h => by
    have ha := hl a (by simp)
    rw [List.flatten_cons] at h
    by_cases e : t < s
    · rw [List.getElem?_append_left (by omega)] at h
      exact ⟨0, t, a, rfl, e, by omega, h⟩
    · rw [List.getElem?_append_right (by omega), ha] at h
      obtain ⟨i, j, x, h1, h2, h3, h4⟩ := flatten_inv s l (fun x hx => hl x (by simp [hx])) (t - s) v h
      refine ⟨i + 1, j, x, by simpa using h1, h2, ?_, h4⟩
      rw [Nat.add_mul]; omega
section
variable {H : Type} {enc : TypeId × Value → H} {w : World} {spare : Nat → Bool} {held : Bool}
theorem field_at {P : Program} {n : Nat} {t : TypeId} {c : List Value} {xs : List (DataW H × List MemPlace)} {i : Nat} (h : DataW.trod enc P w 0 spare held n t c = xs[i]?) (hi : i < xs.length) : DataW.trod enc P w 0 spare held n t c = some xs[i] := by
  rw [h, List.getElem?_eq_getElem hi]
theorem one_int {fuel : Nat} {cs : List Value} {x : DataW H × List MemPlace} (h : DataW.trod enc Tryd.prog w 0 spare held fuel 3 cs = some x) : ∃ n, cs = [.int .i64 n] := by
  obtain ⟨n, e, _⟩ := DataW.trod_int Tryd.underlying3 h
  exact ⟨n, e⟩
set_option maxRecDepth 100000 in
theorem way_open {fuel : Nat} {cs : List Value} {x : DataW H × List MemPlace} (h : DataW.trod enc Tryd.prog w 0 spare held fuel 67 cs = some x) : ∃ m : WayM, cs = m.vals := by
  obtain ⟨xs, n, _, _, hlen, hxl, hg⟩ := DataW.trod_struct Tryd.underlying67 h
  have hlen' : cs.length = 4 := hlen.trans (by kernel_rfl)
  have hxl' : xs.length = 4 := hxl
  match cs, hlen' with
  | [c0, c1, c2, c3], _ =>
    have g0 := field_at (hg 0 _ rfl) (by omega)
    have g0' : DataW.trod enc Tryd.prog w 0 spare held n 3 [c0] = some xs[0] := g0
    obtain ⟨n0, e0⟩ := one_int g0'
    injection e0 with e0 _
    subst e0
    have g1 := field_at (hg 1 _ rfl) (by omega)
    have g1' : DataW.trod enc Tryd.prog w 0 spare held n 3 [c1] = some xs[1] := g1
    obtain ⟨n1, e1⟩ := one_int g1'
    injection e1 with e1 _
    subst e1
    have g2 := field_at (hg 2 _ rfl) (by omega)
    have g2' : DataW.trod enc Tryd.prog w 0 spare held n 3 [c2] = some xs[2] := g2
    obtain ⟨n2, e2⟩ := one_int g2'
    injection e2 with e2 _
    subst e2
    have g3 := field_at (hg 3 _ rfl) (by omega)
    have g3' : DataW.trod enc Tryd.prog w 0 spare held n 3 [c3] = some xs[3] := g3
    obtain ⟨n3, e3⟩ := one_int g3'
    injection e3 with e3 _
    subst e3
    exact ⟨⟨n0, n1, n2, n3⟩, rfl⟩
set_option maxRecDepth 100000 in
theorem end_open {fuel : Nat} {cs : List Value} {x : DataW H × List MemPlace} (h : DataW.trod enc Tryd.prog w 0 spare held fuel 73 cs = some x) : ∃ m : EndM, cs = m.vals := by
  obtain ⟨xs, n, _, _, hlen, hxl, hg⟩ := DataW.trod_struct Tryd.underlying73 h
  have hlen' : cs.length = 4 := hlen.trans (by kernel_rfl)
  have hxl' : xs.length = 4 := hxl
  match cs, hlen' with
  | [c0, c1, c2, c3], _ =>
    have g0 := field_at (hg 0 _ rfl) (by omega)
    have g0' : DataW.trod enc Tryd.prog w 0 spare held n 3 [c0] = some xs[0] := g0
    obtain ⟨n0, e0⟩ := one_int g0'
    injection e0 with e0 _
    subst e0
    have g1 := field_at (hg 1 _ rfl) (by omega)
    have g1' : DataW.trod enc Tryd.prog w 0 spare held n 3 [c1] = some xs[1] := g1
    obtain ⟨n1, e1⟩ := one_int g1'
    injection e1 with e1 _
    subst e1
    have g2 := field_at (hg 2 _ rfl) (by omega)
    have g2' : DataW.trod enc Tryd.prog w 0 spare held n 3 [c2] = some xs[2] := g2
    obtain ⟨n2, e2⟩ := one_int g2'
    injection e2 with e2 _
    subst e2
    have g3 := field_at (hg 3 _ rfl) (by omega)
    have g3' : DataW.trod enc Tryd.prog w 0 spare held n 4 [c3] = some xs[3] := g3
    obtain ⟨n3, e3, _⟩ := DataW.trod_bool Tryd.underlying4 g3'
    injection e3 with e3 _
    subst e3
    exact ⟨⟨n0, n1, n2, n3⟩, rfl⟩
/-- A slice of rows of s cells each, every row opened by p. -/
theorem slice_open {α : Type} {st et : TypeId} {s : Nat} (p : α → List Value → Prop) (hst : Tryd.prog.underlying st = some (.slice et)) (hs : Tryd.prog.cellsOf et = s) (hs0 : 0 < s)
    (hp : ∀ (fuel : Nat) (cs : List Value) (x : DataW H × List MemPlace), DataW.trod enc Tryd.prog w 0 spare held fuel et cs = some x → ∃ m, p m cs) {fuel : Nat} {cs : List Value} {x : DataW H × List MemPlace} (h : DataW.trod enc Tryd.prog w 0 spare held fuel st cs = some x) :
    ∃ A n c, ∃ vss : List (List Value), ∃ ms : List α, cs = [.slice A n c] ∧ n ≤ c ∧ vss.length = n ∧ ms.length = n ∧ CellsAt w A vss.flatten ∧ (∀ l ∈ vss, l.length = s) ∧ ∀ (i : Nat) (m : α) (l : List Value), ms[i]? = some m → vss[i]? = some l → p m l := by
  rcases open_slice hst h with ⟨rfl, _⟩ | ⟨a, len, cap, m, n, D, Pl, rfl, _, hl, hm, hmm, _, hi⟩
  · exact ⟨none, 0, 0, [], [], rfl, Nat.le_refl _, rfl, rfl, cellsAt_nil _ _, by simp, fun i m l a b => by simp at a⟩
  · have hlm : len ≤ m := by rw [hmm]; split <;> omega
    have key : ∀ i, i < len → ∃ y : α × List Value, p y.1 y.2 ∧ y.2.length = s ∧ ∀ j, j < s → w.cell? ((a.add (i * s)).add j) = y.2[j]? := fun i hil => by
      obtain ⟨cs', hc, ht⟩ := hi i (by omega)
      obtain ⟨mm, hmm'⟩ := hp _ _ _ ht
      rw [hs] at hc
      obtain ⟨_, hcl, hat⟩ := World.cells?_some hc
      exact ⟨(mm, cs'), hmm', hcl, hat⟩
    obtain ⟨ys, hyl, hy⟩ := list_of _ len key
    refine ⟨some a, len, cap, ys.map (·.2), ys.map (·.1), rfl, hl, by simp [hyl], by simp [hyl], ?_, ?_, ?_⟩
    · have hall : ∀ x ∈ ys.map (·.2), x.length = s := by
        intro x hx
        obtain ⟨y, hy', rfl⟩ := List.mem_map.1 hx
        obtain ⟨i, hi', rfl⟩ := List.mem_iff_getElem.1 hy'
        exact (hy i _ (List.getElem?_eq_getElem hi')).2.1
      intro t v ht
      obtain ⟨i, j, x, h1, h2, h3, h4⟩ := flatten_inv s _ hall t v ht
      rw [List.getElem?_map, Option.map_eq_some_iff] at h1
      obtain ⟨y, h1, rfl⟩ := h1
      have hlen : i < ys.length := (List.getElem?_eq_some_iff.1 h1).1
      have hc := (hy i y h1).2.2 j h2
      rw [h4] at hc
      -- the slice's address bears no spot: its first cell is there
      have h0 : 0 < ys.length := by omega
      have hy0 := hy 0 ys[0] (List.getElem?_eq_getElem h0)
      have hc0 := hy0.2.2 0 hs0
      have hv0 : (ys[0].2)[0]? = some ((ys[0].2)[0]'(by rw [hy0.2.1]; exact hs0)) := List.getElem?_eq_getElem _
      rw [hv0] at hc0
      have ea : (a.add (0 * s)).add 0 = a := by rw [Nat.zero_mul]; rfl
      rw [ea] at hc0
      have hsp := spot_none hc0
      refine ⟨a.block, a.off, by rw [← hsp], ?_⟩
      rw [hsp, add_lit, add_lit] at hc
      rw [h3, ← Nat.add_assoc]
      exact hc
    · intro x hx
      obtain ⟨y, hy', rfl⟩ := List.mem_map.1 hx
      obtain ⟨i, hi', rfl⟩ := List.mem_iff_getElem.1 hy'
      exact (hy i _ (List.getElem?_eq_getElem hi')).2.1
    · intro i mm l h1 h2
      rw [List.getElem?_map, Option.map_eq_some_iff] at h1 h2
      obtain ⟨y, h1, rfl⟩ := h1
      obtain ⟨y', h2, rfl⟩ := h2
      rw [h1] at h2
      injection h2 with h2
      subst h2
      exact (hy i y h1).1
theorem flat_of {α : Type} (f : α → List Value) : ∀ (vss : List (List Value)) (ms : List α), vss.length = ms.length → (∀ (i : Nat) (m : α) (l : List Value), ms[i]? = some m → vss[i]? = some l → l = f m) → vss.flatten = ms.flatMap f
  | [], [], _, _ => rfl
  | [], m :: ms, h, _ => by simp at h
  | l :: vss, [], h, _ => by simp at h
  | l :: vss, m :: ms, h, hp => by
    rw [List.flatten_cons, List.flatMap_cons, hp 0 m l rfl rfl, flat_of f vss ms (by simpa using h) (fun i m' l' a b => hp (i + 1) m' l' (by simpa using a) (by simpa using b))]
theorem flat_one (ms : List Int) : ms.flatMap (fun m => [Value.int .i64 m]) = ms.map (Value.int .i64) := by
  induction ms with
  | nil => rfl
  | cons a l ih => rw [List.flatMap_cons, List.map_cons, ih]; rfl
theorem ways_open {fuel : Nat} {cs : List Value} {x : DataW H × List MemPlace} (h : DataW.trod enc Tryd.prog w 0 spare held fuel 62 cs = some x) : ∃ A n c, ∃ ws : List WayM, cs = [.slice A n c] ∧ ws.length = n ∧ WaysAt w A ws ∧ n ≤ c := by
  obtain ⟨A, n, c, vss, ms, e, h1, h2, h3, h4, _, h5⟩ := slice_open (s := 4) (fun (m : WayM) l => l = m.vals) Tryd.underlying62 (by kernel_rfl) (by omega) (fun _ _ _ h => way_open h) h
  exact ⟨A, n, c, ms, e, h3, by unfold WaysAt; rw [← flat_of WayM.vals vss ms (by omega) h5]; exact h4, h1⟩
theorem ends_open {fuel : Nat} {cs : List Value} {x : DataW H × List MemPlace} (h : DataW.trod enc Tryd.prog w 0 spare held fuel 24 cs = some x) : ∃ A n c, ∃ es : List EndM, cs = [.slice A n c] ∧ es.length = n ∧ EndsAt w A es ∧ n ≤ c := by
  obtain ⟨A, n, c, vss, ms, e, h1, h2, h3, h4, _, h5⟩ := slice_open (s := 4) (fun (m : EndM) l => l = m.vals) Tryd.underlying24 (by kernel_rfl) (by omega) (fun _ _ _ h => end_open h) h
  exact ⟨A, n, c, ms, e, h3, by unfold EndsAt; rw [← flat_of EndM.vals vss ms (by omega) h5]; exact h4, h1⟩
theorem ints_open {fuel : Nat} {cs : List Value} {x : DataW H × List MemPlace} (h : DataW.trod enc Tryd.prog w 0 spare held fuel 23 cs = some x) : ∃ A n c, ∃ zs : List Int, cs = [.slice A n c] ∧ zs.length = n ∧ IntsAt w A zs ∧ n ≤ c := by
  obtain ⟨A, n, c, vss, ms, e, h1, h2, h3, h4, _, h5⟩ := slice_open (s := 1) (fun (m : Int) l => l = [.int .i64 m]) Tryd.underlying23 (by kernel_rfl) (by omega) (fun _ _ _ h => one_int h) h
  refine ⟨A, n, c, ms, e, h3, cells_ints ?_, h1⟩
  have : vss.flatten = ms.map (Value.int .i64) := by
    rw [flat_of (fun m => [Value.int .i64 m]) vss ms (by omega) h5]
    exact flat_one ms
  rw [← this]
  exact h4
set_option maxRecDepth 100000 in
theorem piece_open {fuel : Nat} {cs : List Value} {x : DataW H × List MemPlace} (h : DataW.trod enc Tryd.prog w 0 spare held fuel 64 cs = some x) : ∃ m : PieceM, PieceVals w m cs := by
  obtain ⟨xs, n, _, _, hlen, hxl, hg⟩ := DataW.trod_struct Tryd.underlying64 h
  have hlen' : cs.length = 4 := hlen.trans (by kernel_rfl)
  have hxl' : xs.length = 4 := hxl
  match cs, hlen' with
  | [c0, c1, c2, c3], _ =>
    have g0 := field_at (hg 0 _ rfl) (by omega)
    have g0' : DataW.trod enc Tryd.prog w 0 spare held n 5 [c0] = some xs[0] := g0
    obtain ⟨n0, e0, _⟩ := DataW.trod_int Tryd.underlying5 g0'
    injection e0 with e0 _
    subst e0
    have g1 := field_at (hg 1 _ rfl) (by omega)
    have g1' : DataW.trod enc Tryd.prog w 0 spare held n 3 [c1] = some xs[1] := g1
    obtain ⟨n1, e1⟩ := one_int g1'
    injection e1 with e1 _
    subst e1
    have g2 := field_at (hg 2 _ rfl) (by omega)
    have g2' : DataW.trod enc Tryd.prog w 0 spare held n 3 [c2] = some xs[2] := g2
    obtain ⟨n2, e2⟩ := one_int g2'
    injection e2 with e2 _
    subst e2
    have g3 := field_at (hg 3 _ rfl) (by omega)
    have g3' : DataW.trod enc Tryd.prog w 0 spare held n 62 [c3] = some xs[3] := g3
    obtain ⟨A3, m3, k3, ws, e3, hl, hw, _⟩ := ways_open g3'
    injection e3 with e3 _
    subst e3
    exact ⟨⟨n0, n1, n2, ws⟩, A3, k3, by show _ = [_, _, _, Value.slice A3 ws.length k3]; rw [hl], hw⟩
theorem pieces_open {fuel : Nat} {cs : List Value} {x : DataW H × List MemPlace} (h : DataW.trod enc Tryd.prog w 0 spare held fuel 22 cs = some x) : ∃ A n c, ∃ ps : List PieceM, cs = [.slice A n c] ∧ ps.length = n ∧ PiecesAt w A ps ∧ n ≤ c := by
  obtain ⟨A, n, c, vss, ms, e, h1, h2, h3, h4, _, h5⟩ := slice_open (s := 4) (fun (m : PieceM) l => PieceVals w m l) Tryd.underlying22 (by kernel_rfl) (by omega) (fun _ _ _ h => piece_open h) h
  exact ⟨A, n, c, ms, e, h3, ⟨vss, h4, by omega, h5⟩, h1⟩
set_option maxRecDepth 100000 in
theorem rules_open {r : Reach} {b0 : Nat} {v : Value} {d : DataW H} {pl : List MemPlace} (hv : Value.okWide Tryd.prog w r b0 26 v) (h : DataW.Trod enc Tryd.prog w 0 spare held 26 v d pl) : ∃ R, RulesAt w v R := by
  obtain ⟨cs, rfl, hsz⟩ := okWide_struct Tryd.underlying26 hv
  obtain ⟨fuel, h⟩ := h
  obtain ⟨cs⟩ := cs
  obtain ⟨xs, n, _, _, hlen, hxl, hg⟩ := DataW.trod_struct Tryd.underlying26 h
  have hlen' : cs.length = 11 := hlen.trans (by kernel_rfl)
  have hxl' : xs.length = 11 := hxl
  match cs, hlen' with
  | [c0, c1, c2, c3, c4, c5, c6, c7, c8, c9, c10], _ =>
    have g0 := field_at (hg 0 _ rfl) (by omega)
    have g0' : DataW.trod enc Tryd.prog w 0 spare held n 9 [c0] = some xs[0] := g0
    obtain ⟨n0, e0, _, hsz0⟩ := DataW.trod_string Tryd.underlying9 g0'
    injection e0 with e0 _
    subst e0
    have g1 := field_at (hg 1 _ rfl) (by omega)
    have g1' : DataW.trod enc Tryd.prog w 0 spare held n 3 [c1] = some xs[1] := g1
    obtain ⟨n1, e1⟩ := one_int g1'
    injection e1 with e1 _
    subst e1
    have g2 := field_at (hg 2 _ rfl) (by omega)
    have g2' : DataW.trod enc Tryd.prog w 0 spare held n 3 [c2] = some xs[2] := g2
    obtain ⟨n2, e2⟩ := one_int g2'
    injection e2 with e2 _
    subst e2
    have g3 := field_at (hg 3 _ rfl) (by omega)
    have g3' : DataW.trod enc Tryd.prog w 0 spare held n 22 [c3] = some xs[3] := g3
    obtain ⟨A3, m3, k3, l3, e3, hl3, hw3, hc3⟩ := pieces_open g3'
    injection e3 with e3 _
    subst e3
    subst hl3
    have g4 := field_at (hg 4 _ rfl) (by omega)
    have g4' : DataW.trod enc Tryd.prog w 0 spare held n 23 [c4] = some xs[4] := g4
    obtain ⟨A4, m4, k4, l4, e4, hl4, hw4, hc4⟩ := ints_open g4'
    injection e4 with e4 _
    subst e4
    subst hl4
    have g5 := field_at (hg 5 _ rfl) (by omega)
    have g5' : DataW.trod enc Tryd.prog w 0 spare held n 4 [c5] = some xs[5] := g5
    obtain ⟨n5, e5, _⟩ := DataW.trod_bool Tryd.underlying4 g5'
    injection e5 with e5 _
    subst e5
    have g6 := field_at (hg 6 _ rfl) (by omega)
    have g6' : DataW.trod enc Tryd.prog w 0 spare held n 4 [c6] = some xs[6] := g6
    obtain ⟨n6, e6, _⟩ := DataW.trod_bool Tryd.underlying4 g6'
    injection e6 with e6 _
    subst e6
    have g7 := field_at (hg 7 _ rfl) (by omega)
    have g7' : DataW.trod enc Tryd.prog w 0 spare held n 24 [c7] = some xs[7] := g7
    obtain ⟨A7, m7, k7, l7, e7, hl7, hw7, hc7⟩ := ends_open g7'
    injection e7 with e7 _
    subst e7
    subst hl7
    have g8 := field_at (hg 8 _ rfl) (by omega)
    have g8' : DataW.trod enc Tryd.prog w 0 spare held n 3 [c8] = some xs[8] := g8
    obtain ⟨n8, e8⟩ := one_int g8'
    injection e8 with e8 _
    subst e8
    have g9 := field_at (hg 9 _ rfl) (by omega)
    have g9' : DataW.trod enc Tryd.prog w 0 spare held n 3 [c9] = some xs[9] := g9
    obtain ⟨n9, e9⟩ := one_int g9'
    injection e9 with e9 _
    subst e9
    have g10 := field_at (hg 10 _ rfl) (by omega)
    have g10' : DataW.trod enc Tryd.prog w 0 spare held n 3 [c10] = some xs[10] := g10
    obtain ⟨n10, e10⟩ := one_int g10'
    injection e10 with e10 _
    subst e10
    exact ⟨⟨n0, n1, n2, l3, l4, n5, n6, l7, n8, n9, n10⟩, A3, k3, A4, k4, A7, k7, rfl, hw3, hw4, hw7, hc3, hc4, hc7, by simpa [maxLen] using hsz0⟩
set_option maxRecDepth 100000 in
theorem pos_open {r : Reach} {b0 : Nat} {v : Value} {d : DataW H} {pl : List MemPlace} (hv : Value.okWide Tryd.prog w r b0 29 v) (h : DataW.Trod enc Tryd.prog w 0 spare held 29 v d pl) : ∃ P, PosAt w v P := by
  obtain ⟨cs, rfl, hsz⟩ := okWide_struct Tryd.underlying29 hv
  obtain ⟨fuel, h⟩ := h
  obtain ⟨cs⟩ := cs
  obtain ⟨xs, n, _, _, hlen, hxl, hg⟩ := DataW.trod_struct Tryd.underlying29 h
  have hlen' : cs.length = 5 := hlen.trans (by kernel_rfl)
  have hxl' : xs.length = 4 := hxl
  have hc23 : Tryd.prog.cellsOf 23 = 1 := by kernel_rfl
  have hc34 : Tryd.prog.cellsOf 27 = 2 := by kernel_rfl
  have hc3 : Tryd.prog.cellsOf 3 = 1 := by kernel_rfl
  match cs, hlen' with
  | [c0, c1, c2, c3, c4], _ =>
    have g0 := field_at (hg 0 _ rfl) (by omega)
    have g1 := field_at (hg 1 _ rfl) (by omega)
    have g2 := field_at (hg 2 _ rfl) (by omega)
    have g3 := field_at (hg 3 _ rfl) (by omega)
    have g0' : DataW.trod enc Tryd.prog w 0 spare held n 23 [c0] = some xs[0] := g0
    have g1' : DataW.trod enc Tryd.prog w 0 spare held n 27 [c1, c2] = some xs[1] := g1
    have g2' : DataW.trod enc Tryd.prog w 0 spare held n 3 [c3] = some xs[2] := g2
    have g3' : DataW.trod enc Tryd.prog w 0 spare held n 3 [c4] = some xs[3] := g3
    obtain ⟨ys, m, _, _, _, hyl, hy⟩ := DataW.trod_array Tryd.underlying27 g1'
    have y0 := field_at (hy 0 (by omega)) (by omega)
    have y1 := field_at (hy 1 (by omega)) (by omega)
    rw [hc23] at y0 y1
    have y0' : DataW.trod enc Tryd.prog w 0 spare held m 23 [c1] = some ys[0] := y0
    have y1' : DataW.trod enc Tryd.prog w 0 spare held m 23 [c2] = some ys[1] := y1
    obtain ⟨A0, m0, k0, l0, e0, hl0, hw0, hc50⟩ := ints_open g0'
    injection e0 with e0 _
    subst e0
    subst hl0
    obtain ⟨A1, m1, k1, l1, e1, hl1, hw1, hc51⟩ := ints_open y0'
    injection e1 with e1 _
    subst e1
    subst hl1
    obtain ⟨A2, m2, k2, l2, e2, hl2, hw2, hc52⟩ := ints_open y1'
    injection e2 with e2 _
    subst e2
    subst hl2
    obtain ⟨n3, e3⟩ := one_int g2'
    injection e3 with e3 _
    subst e3
    obtain ⟨n4, e4⟩ := one_int g3'
    injection e4 with e4 _
    subst e4
    exact ⟨⟨l0, l1, l2, n3, n4⟩, A0, k0, A1, k1, A2, k2, rfl, hw0, hw1, hw2, hc50, hc51, hc52⟩
end
end Go.Proofs.YtdoibgmmijhlfaaDoor
