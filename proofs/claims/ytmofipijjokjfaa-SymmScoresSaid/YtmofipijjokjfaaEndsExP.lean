/- The result of the position in which the players are exchanged, as plain data. No program. -/
import Derived.Test.YtmofipijjokjfaaGEnds
import Derived.Test.YtmofipijjokjfaaExchP
namespace Go.Proofs.Ytmofipijjokjfaa
set_option linter.unusedVariables false
theorem own_turn {a b p : Int} {cs : List Int} (h : okSide a b) (hl : (cs.length : Int) = a * b) (hc : GoodC cs) (hp : p = 0 ∨ p = 1) (x y : Int) :
    ownXY a b (turnCells a b cs) (1 - p) x y = ownXY a b cs p x (b - 1 - y) := by
  unfold ownXY
  by_cases hin : x < 0 ∨ a ≤ x ∨ y < 0 ∨ b ≤ y
  · rw [if_pos hin, if_pos (by omega)]
  · rw [if_neg hin, if_neg (by omega)]
    have g := turn_get h hl (x := x) (y := y) (by omega) (by omega) (by omega) (by omega)
    rw [g]
    have h0 := goodC_get hc ((b - 1 - y) * a + x).toNat
    generalize cs.getD ((b - 1 - y) * a + x).toNat 0 = c at *
    have e2 : decide (0 < flipC c) = decide (0 < c) := decide_eq_decide.2 (flip_pos h0)
    rw [e2]
    by_cases hq : 0 < c
    · have := flip_mod hq
      congr 1
      exact decide_eq_decide.2 ⟨fun k => by omega, fun k => by omega⟩
    · simp [hq]
theorem run_turn {a b p : Int} {cs : List Int} (h : okSide a b) (hl : (cs.length : Int) = a * b) (hc : GoodC cs) (hp : p = 0 ∨ p = 1) (dx dy : Int) :
    ∀ n x y, runXY a b (turnCells a b cs) (1 - p) dx dy n x y = runXY a b cs p dx (-dy) n x (b - 1 - y)
  | 0, _, _ => rfl
  | n + 1, x, y => by
    rw [runXY_succ, runXY_succ, own_turn h hl hc hp, run_turn h hl hc hp dx dy n]
    rw [show b - 1 - (y + dy) = b - 1 - y + -dy by omega]
theorem run_iff {W H p dx dy : Int} {cs : List Int} : ∀ n x y, runXY W H cs p dx dy n x y = true ↔ ∀ i : Nat, i < n → ownXY W H cs p (x + (i : Int) * dx) (y + (i : Int) * dy) = true
  | 0, x, y => by simp [runXY]
  | n + 1, x, y => by
    rw [runXY_succ, Bool.and_eq_true, run_iff n]
    constructor
    · rintro ⟨h0, h1⟩ i hi
      rcases i with _ | i
      · simpa using h0
      · have := h1 i (by omega)
        have e1 : x + dx + (i : Int) * dx = x + ((i + 1 : Nat) : Int) * dx := by rw [Int.natCast_add, Int.add_mul]; simp; omega
        have e2 : y + dy + (i : Int) * dy = y + ((i + 1 : Nat) : Int) * dy := by rw [Int.natCast_add, Int.add_mul]; simp; omega
        rw [e1, e2] at this
        exact this
    · intro h
      refine ⟨by simpa using h 0 (by omega), fun i hi => ?_⟩
      have := h (i + 1) (by omega)
      have e1 : x + dx + (i : Int) * dx = x + ((i + 1 : Nat) : Int) * dx := by rw [Int.natCast_add, Int.add_mul]; simp; omega
      have e2 : y + dy + (i : Int) * dy = y + ((i + 1 : Nat) : Int) * dy := by rw [Int.natCast_add, Int.add_mul]; simp; omega
      rw [e1, e2]
      exact this
theorem own_in {W H p x y : Int} {cs : List Int} (h : ownXY W H cs p x y = true) : 0 ≤ x ∧ x < W ∧ 0 ≤ y ∧ y < H := by
  unfold ownXY at h
  split at h
  · cases h
  · omega
/-- A run downward is a run upward. -/
theorem run_down {W H p : Int} {cs : List Int} {n : Nat} {x y : Int} (h : runXY W H cs p 0 (-1) n x y = true) : runXY W H cs p 0 1 n x (y - (n : Int) + 1) = true := by
  rw [run_iff] at h ⊢
  intro i hi
  have := h (n - 1 - i) (by omega)
  have e : ((n - 1 - i : Nat) : Int) = (n : Int) - 1 - i := by omega
  rw [e] at this
  simp only [Int.mul_zero, Int.add_zero, Int.mul_one, Int.mul_neg] at this ⊢
  rw [show y - (n : Int) + 1 + (i : Int) = y + -((n : Int) - 1 - i) by omega]
  exact this
section
variable {R : RulesM} {P : PosM}
theorem line_turn (hV : Valid R) (hS : Sound R P) {p : Int} {n : Nat} (hp : p = 0 ∨ p = 1) (hn : 1 ≤ n) (h : lineB R (otherP R P) (1 - p) n = true) : lineB R P p n = true := by
  have ha := hS.area
  have hlen : (otherP R P).cells.length = P.cells.length := turnCells_length _ _ _
  unfold lineB at h ⊢
  rw [hlen] at h
  obtain ⟨s, hs, h⟩ := List.any_eq_true.1 h
  rw [List.mem_range] at hs
  obtain ⟨x0, x1, y0, y1⟩ := sq_bd R.width R.height (s : Int) hV.side (by omega) (by omega)
  have hr := fun dx dy => run_turn hV.side ha (goodP hS) hp dx dy n ((s : Int) % R.width) ((s : Int) / R.width)
  have key : ∀ y : Int, 0 ≤ y → y < R.height → (runXY R.width R.height P.cells p 1 0 n ((s : Int) % R.width) y = true ∨ runXY R.width R.height P.cells p 0 1 n ((s : Int) % R.width) y = true ∨ runXY R.width R.height P.cells p 1 1 n ((s : Int) % R.width) y = true ∨ runXY R.width R.height P.cells p 1 (-1) n ((s : Int) % R.width) y = true) →
      (List.range P.cells.length).any (lineAt R.width R.height P.cells p n) = true := by
    intro y hy0 hy1 hd
    obtain ⟨q0, q1⟩ := sq_mk x0 x1 hy0 hy1
    obtain ⟨k, hk⟩ := Int.eq_ofNat_of_zero_le q0
    have hk' : y * R.width + (s : Int) % R.width = (k : Int) := hk
    refine List.any_eq_true.2 ⟨k, List.mem_range.2 (by omega), ?_⟩
    unfold lineAt
    rw [← hk', (coords x0 x1).1, (coords x0 x1).2]
    rcases hd with h | h | h | h <;> simp [h]
  unfold lineAt at h
  simp only [Bool.or_eq_true] at h
  rcases h with h | h | h | h
  · have h2 := (hr 1 0).symm.trans h
    exact key (R.height - 1 - (s : Int) / R.width) (by omega) (by omega) (.inl (by simpa using h2))
  · have h2 := (hr 0 1).symm.trans h
    have h3 := run_down h2
    have h4 := own_in ((run_iff _ _ _).1 h3 0 (by omega))
    simp only [Int.natCast_zero, Int.zero_mul, Int.add_zero] at h4
    exact key _ h4.2.2.1 h4.2.2.2 (.inr (.inl h3))
  · have h2 := (hr 1 1).symm.trans h
    exact key (R.height - 1 - (s : Int) / R.width) (by omega) (by omega) (.inr (.inr (.inr h2)))
  · have h2 := (hr 1 (-1)).symm.trans h
    exact key (R.height - 1 - (s : Int) / R.width) (by omega) (by omega) (.inr (.inr (.inl (by simpa using h2))))
theorem line_exch (hV : Valid R) (hS : Sound R P) {p : Int} {n : Nat} (hp : p = 0 ∨ p = 1) (hn : 1 ≤ n) : lineB R (otherP R P) (1 - p) n = lineB R P p n := by
  apply Bool.eq_iff_iff.2
  refine ⟨line_turn hV hS hp hn, fun h => ?_⟩
  have := line_turn hV (sound_other' hV hS) (p := 1 - p) (n := n) (by omega) hn
  rw [other_back hV hS, show 1 - (1 - p) = p by omega] at this
  exact this h
theorem flip_piece {c q p : Int} (hc : 0 ≤ c) (hq : 0 ≤ q) (hp : p = 0 ∨ p = 1) : flipC c = 2 * q + (1 - p) + 1 ↔ c = 2 * q + p + 1 := by
  unfold flipC
  split
  · split <;> omega
  · omega
theorem reach_turn (hV : Valid R) (hS : Sound R P) {p q : Int} (hp : p = 0 ∨ p = 1) (hq : 0 ≤ q) (h : reachB R P q p = true) : reachB R (otherP R P) q (1 - p) = true := by
  have ha := hS.area
  have hlen : (otherP R P).cells.length = P.cells.length := turnCells_length _ _ _
  unfold reachB at h ⊢
  rw [hlen]
  obtain ⟨s, hs, h⟩ := List.any_eq_true.1 h
  rw [List.mem_range] at hs
  obtain ⟨t, ht, htl, g⟩ := other_cell hV hS hs
  refine List.any_eq_true.2 ⟨t, List.mem_range.2 htl, ?_⟩
  rw [g, ht, last_turn hV.side (by omega) (by omega) hp]
  rw [Bool.and_eq_true] at h ⊢
  refine ⟨?_, h.2⟩
  rw [decide_eq_true_eq] at h ⊢
  exact (flip_piece (goodC_get (goodP hS) s) hq hp).2 h.1
theorem reach_exch (hV : Valid R) (hS : Sound R P) {p q : Int} (hp : p = 0 ∨ p = 1) (hq : 0 ≤ q) : reachB R (otherP R P) q (1 - p) = reachB R P q p := by
  apply Bool.eq_iff_iff.2
  refine ⟨fun h => ?_, reach_turn hV hS hp hq⟩
  have := reach_turn hV (sound_other' hV hS) (p := 1 - p) (q := q) (by omega) hq h
  rw [other_back hV hS, show 1 - (1 - p) = p by omega] at this
  exact this
theorem count_range (cs : List Int) (c : Int) : countC cs c = ((List.range cs.length).filter fun s => decide (cs.getD s 0 = c)).length := by
  have h : cs = (List.range cs.length).map (fun s => cs.getD s 0) := by
    apply List.ext_getElem
    · simp
    · intro i h1 h2
      simp [h1]
  unfold countC
  conv => lhs; rw [h]
  rw [List.filter_map, List.length_map]
  rfl
theorem count_turn (hV : Valid R) (hS : Sound R P) {p q : Int} (hp : p = 0 ∨ p = 1) (hq : 0 ≤ q) : countC P.cells (2 * q + p + 1) ≤ countC (otherP R P).cells (2 * q + (1 - p) + 1) := by
  have ha := hS.area
  have hlen : (otherP R P).cells.length = P.cells.length := turnCells_length _ _ _
  rw [count_range, count_range]
  have h := len_sub (((List.range P.cells.length).filter fun s => decide (P.cells.getD s 0 = 2 * q + p + 1)).map fun (s : Nat) => (turnI R.width R.height (s : Int)).toNat) ((List.range (otherP R P).cells.length).filter fun s => decide ((otherP R P).cells.getD s 0 = 2 * q + (1 - p) + 1)) ?_ ?_
  · rwa [List.length_map] at h
  · refine nodup_map _ _ (fun x hx y hy he => ?_) (List.Pairwise.filter _ List.nodup_range)
    have hx' := List.mem_range.1 (List.mem_filter.1 hx).1
    have hy' := List.mem_range.1 (List.mem_filter.1 hy).1
    obtain ⟨a1, a2, _, _, a3⟩ := turnI_bd (s := (x : Int)) hV.side (by omega) (by omega)
    obtain ⟨b1, b2, _, _, b3⟩ := turnI_bd (s := (y : Int)) hV.side (by omega) (by omega)
    have e : turnI R.width R.height (x : Int) = turnI R.width R.height (y : Int) := by omega
    rw [e] at a3
    omega
  · intro t ht
    obtain ⟨s, hs, rfl⟩ := List.mem_map.1 ht
    obtain ⟨hs1, hs2⟩ := List.mem_filter.1 hs
    rw [List.mem_range] at hs1
    obtain ⟨t, ht, htl, g⟩ := other_cell hV hS hs1
    rw [← ht, Int.toNat_natCast]
    refine List.mem_filter.2 ⟨List.mem_range.2 (by omega), ?_⟩
    rw [decide_eq_true_eq] at hs2 ⊢
    rw [g]
    exact (flip_piece (goodC_get (goodP hS) s) hq hp).2 hs2
theorem count_exch (hV : Valid R) (hS : Sound R P) {p q : Int} (hp : p = 0 ∨ p = 1) (hq : 0 ≤ q) : countC (otherP R P).cells (2 * q + (1 - p) + 1) = countC P.cells (2 * q + p + 1) := by
  refine Nat.le_antisymm ?_ (count_turn hV hS hp hq)
  have := count_turn hV (sound_other' hV hS) (p := 1 - p) (q := q) (by omega) hq
  rw [other_back hV hS, show 1 - (1 - p) = p by omega] at this
  exact this
theorem holds_exch (hV : Valid R) (hS : Sound R P) {p : Int} (hp : p = 0 ∨ p = 1) {x : EndM} (hx : x ∈ R.ends) : holdsB R (otherP R P) (1 - p) x = holdsB R P p x := by
  rcases ends_facts hV hx with ⟨h, h1, h2⟩ | ⟨h, h1, h2⟩ | ⟨h, h1, h2, h3, h4⟩
  · unfold holdsB
    rw [if_pos h, if_pos h]
    exact line_exch hV hS hp (by omega)
  · unfold holdsB
    have k0 : ¬ x.kind = 0 := by omega
    simp only [if_neg k0, if_pos h]
    exact reach_exch hV hS hp h1
  · unfold holdsB
    have k0 : ¬ x.kind = 0 := by omega
    have k1 : ¬ x.kind = 1 := by omega
    simp only [if_neg k0, if_neg k1]
    have := count_exch hV hS (p := 1 - p) (q := x.piece) (by omega) h3
    rw [show 2 * x.piece + 1 - (1 - p) + 1 = 2 * x.piece + (1 - (1 - p)) + 1 by omega, this, show 2 * x.piece + 1 - p + 1 = 2 * x.piece + (1 - p) + 1 by omega]
theorem find_congr {es : List EndM} {f g : EndM → Bool} : (∀ x ∈ es, f x = g x) → es.find? f = es.find? g := by
  induction es with
  | nil => intro _; rfl
  | cons a l ih =>
    intro h
    rw [List.find?_cons, List.find?_cons, h a (by simp), ih (fun x hx => h x (by simp [hx]))]
/-- The exchanged result. -/
def swapR (z : Int) : Int := if z = 1 then 2 else if z = 2 then 1 else z
theorem result_exch (hV : Valid R) (hS : Sound R P) (hf : R.falls = false) : resultM R (otherP R P) = swapR (resultM R P) := by
  have ht := hS.turn
  have hm : (1 - (otherP R P).turn) = 1 - (1 - P.turn) := rfl
  have hff : R.ends.find? (holdsB R (otherP R P) (1 - (otherP R P).turn)) = R.ends.find? (holdsB R P (1 - P.turn)) := by
    rw [hm]
    exact find_congr (fun x hx => holds_exch hV hS (p := 1 - P.turn) (by omega) hx)
  have hlen := (exch_law hV hS hf).1
  have e1 : (otherP R P).turn = 1 - P.turn := rfl
  have e2 : (otherP R P).quiet = P.quiet := rfl
  unfold resultM
  rw [hff]
  cases hc : R.ends.find? (holdsB R P (1 - P.turn)) with
  | some x =>
    simp only
    rw [e1]
    unfold swapR
    rcases ht with h | h <;> rw [h] <;> cases x.loses <;> decide
  | none =>
    simp only
    unfold restM
    rw [hlen, e1, e2]
    unfold swapR
    split
    · decide
    · split
      · decide
      · split
        · rcases ht with h | h <;> rw [h] <;> decide
        · split
          · rcases ht with h | h <;> rw [h] <;> decide
          · decide
end
end Go.Proofs.Ytmofipijjokjfaa
