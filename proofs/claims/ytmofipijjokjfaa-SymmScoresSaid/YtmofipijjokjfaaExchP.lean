/- The moves of the position in which the players are exchanged, as plain data. No program. -/
import Derived.Test.YtmofipijjokjfaaGMakeP
import Derived.Test.YtmofipijjokjfaaGSamples
namespace Go.Proofs.Ytmofipijjokjfaa
set_option linter.unusedVariables false
/-- The square of the mirrored board; -1 stays. -/
def turnI (a b s : Int) : Int := if s < 0 then s else (b - 1 - s / a) * a + s % a
def turnMv (R : RulesM) (m : MoveM) : MoveM := ⟨turnI R.width R.height m.src, turnI R.width R.height m.dst, m.piece⟩
theorem flip_zero {c : Int} (h : 0 ≤ c) : flipC c = 0 ↔ c = 0 := by
  unfold flipC; split
  · split <;> omega
  · omega
theorem flip_pos {c : Int} (h : 0 ≤ c) : 0 < flipC c ↔ 0 < c := by
  unfold flipC; split
  · split <;> omega
  · omega
theorem flip_mod {c : Int} (h : 0 < c) : (flipC c - 1) % 2 = 1 - (c - 1) % 2 := by
  unfold flipC; rw [if_pos h]; split <;> omega
theorem flip_div {c : Int} (h : 0 < c) : (flipC c - 1) / 2 = (c - 1) / 2 := by
  unfold flipC; rw [if_pos h]; split <;> omega
theorem getD_map0 {f : Int → Int} (hf : f 0 = 0) (l : List Int) (i : Nat) : (l.map f).getD i 0 = f (l.getD i 0) := by
  by_cases h : i < l.length
  · simp [h]
  · simp only [List.getD_eq_getElem?_getD, List.getElem?_map]
    rw [List.getElem?_eq_none (by omega)]
    simp [hf]
theorem turn_get {a b : Int} {cells : List Int} (h : okSide a b) (hl : (cells.length : Int) = a * b) {x y : Int} (x0 : 0 ≤ x) (x1 : x < a) (y0 : 0 ≤ y) (y1 : y < b) :
    (turnCells a b cells).getD (y * a + x).toNat 0 = flipC (cells.getD ((b - 1 - y) * a + x).toNat 0) := by
  obtain ⟨q0, q1⟩ := sq_mk x0 x1 y0 y1
  obtain ⟨q, hq⟩ := Int.eq_ofNat_of_zero_le q0
  obtain ⟨c1, c2⟩ := coords (y := y) x0 x1
  have hq' : y * a + x = (q : Int) := hq
  have hlt : q < (cells.map flipC).length := by rw [List.length_map]; omega
  rw [hq', Int.toNat_natCast]
  unfold turnCells
  rw [movedL_getD a b 2 (cells.map flipC) hlt, show invL 2 = 2 from by decide +kernel, toL_two, getD_map0 (by decide), ← hq', c1, c2]
def GoodC (cs : List Int) : Prop := ∀ c ∈ cs, 0 ≤ c
theorem goodC_get {cs : List Int} (h : GoodC cs) (i : Nat) : 0 ≤ cs.getD i 0 := by
  by_cases hi : i < cs.length
  · exact h _ (getD_mem hi)
  · simp only [List.getD_eq_getElem?_getD]
    rw [List.getElem?_eq_none (by omega)]
    simp
theorem ends_flip {t take c : Int} (hc : 0 ≤ c) (ht : t = 0 ∨ t = 1) : endsB (1 - t) take (flipC c) = endsB t take c := by
  unfold endsB
  have e1 : decide (flipC c = 0) = decide (c = 0) := decide_eq_decide.2 (flip_zero hc)
  have e2 : decide (0 < flipC c) = decide (0 < c) := decide_eq_decide.2 (flip_pos hc)
  have e3 : (decide (0 < c) && decide ((flipC c - 1) % 2 ≠ 1 - t)) = (decide (0 < c) && decide ((c - 1) % 2 ≠ t)) := by
    by_cases hp : 0 < c
    · have := flip_mod hp
      have e4 : decide ((flipC c - 1) % 2 ≠ 1 - t) = decide ((c - 1) % 2 ≠ t) := decide_eq_decide.2 ⟨fun k => by omega, fun k => by omega⟩
      rw [e4]
    · simp [hp]
  rw [e1, e2, e3]
theorem turn_sq {a b x y : Int} (x0 : 0 ≤ x) (x1 : x < a) (y0 : 0 ≤ y) (y1 : y < b) : turnI a b (y * a + x) = (b - 1 - y) * a + x := by
  obtain ⟨q0, q1⟩ := sq_mk x0 x1 y0 y1
  obtain ⟨c1, c2⟩ := coords (y := y) x0 x1
  unfold turnI
  rw [if_neg (by omega), c1, c2]
theorem wayFrom_turn {a b t take dx dy : Int} {cs : List Int} (h : okSide a b) (hl : (cs.length : Int) = a * b) (hc : GoodC cs) (ht : t = 0 ∨ t = 1) :
    ∀ n x y, wayFrom a b (1 - t) take dx (-dy) (turnCells a b cs) n x (b - 1 - y) = (wayFrom a b t take dx dy cs n x y).map (turnI a b)
  | 0, _, _ => rfl
  | n + 1, x, y => by
    unfold wayFrom
    by_cases hb : x + dx < 0 ∨ a ≤ x + dx ∨ y + dy < 0 ∨ b ≤ y + dy
    · rw [if_pos (by omega), if_pos hb]; rfl
    · rw [if_neg (by omega), if_neg hb]
      have e0 : b - 1 - y + -dy = b - 1 - (y + dy) := by omega
      rw [e0]
      have g := turn_get h hl (x := x + dx) (y := b - 1 - (y + dy)) (by omega) (by omega) (by omega) (by omega)
      rw [show b - 1 - (b - 1 - (y + dy)) = y + dy from by omega] at g
      rw [g]
      have hc0 := goodC_get hc ((y + dy) * a + (x + dx)).toNat
      have ih := wayFrom_turn h hl hc ht n (x + dx) (y + dy) (take := take) (dx := dx) (dy := dy)
      have hs := turn_sq (a := a) (b := b) (x := x + dx) (y := y + dy) (by omega) (by omega) (by omega) (by omega)
      generalize cs.getD ((y + dy) * a + (x + dx)).toNat 0 = c at *
      rw [ends_flip hc0 ht, List.map_append]
      congr 1
      · split
        · rw [List.map_cons, List.map_nil, hs]
        · rfl
      · by_cases hz : c = 0
        · rw [if_pos ((flip_zero hc0).2 hz), if_pos hz, ih]
        · rw [if_neg (fun k => hz ((flip_zero hc0).1 k)), if_neg hz]; rfl
theorem turnI_bd {a b s : Int} (h : okSide a b) (h0 : 0 ≤ s) (h1 : s < a * b) : 0 ≤ turnI a b s ∧ turnI a b s < a * b ∧ turnI a b s % a = s % a ∧ turnI a b s / a = b - 1 - s / a ∧ turnI a b (turnI a b s) = s := by
  obtain ⟨x0, x1, y0, y1⟩ := sq_bd a b s h h0 h1
  have e := sq_self a s
  have hs := turn_sq (a := a) (b := b) x0 x1 y0 y1
  rw [e] at hs
  have hs2 := turn_sq (a := a) (b := b) (x := s % a) (y := b - 1 - s / a) x0 x1 (by omega) (by omega)
  obtain ⟨q0, q1⟩ := sq_mk (a := a) (b := b) (x := s % a) (y := b - 1 - s / a) x0 x1 (by omega) (by omega)
  obtain ⟨c1, c2⟩ := coords (y := b - 1 - s / a) x0 x1
  rw [hs]
  exact ⟨q0, q1, c1, c2, by rw [hs2, show b - 1 - (b - 1 - s / a) = s / a from by omega, e]⟩
theorem last_turn {R : RulesM} {t s : Int} (h : okSide R.width R.height) (h0 : 0 ≤ s) (h1 : s < R.width * R.height) (ht : t = 0 ∨ t = 1) : lastM R (1 - t) (turnI R.width R.height s) = lastM R t s := by
  obtain ⟨_, _, _, e, _⟩ := turnI_bd h h0 h1
  unfold lastM
  rw [e]
  rcases ht with rfl | rfl
  · rw [if_neg (by omega), if_pos rfl]
    exact decide_eq_decide.2 ⟨fun _ => by omega, fun _ => by omega⟩
  · rw [if_pos (by omega), if_neg (by omega)]
    exact decide_eq_decide.2 ⟨fun _ => by omega, fun _ => by omega⟩
section
variable {R : RulesM} {P : PosM}
theorem other_cell (hV : Valid R) (hS : Sound R P) {s : Nat} (hs : s < P.cells.length) : ∃ t : Nat, (t : Int) = turnI R.width R.height s ∧ t < P.cells.length ∧ (otherP R P).cells.getD t 0 = flipC (P.cells.getD s 0) := by
  have ha := hS.area
  obtain ⟨q0, q1, e1, e2, _⟩ := turnI_bd (s := (s : Int)) hV.side (by omega) (by omega)
  obtain ⟨t, ht⟩ := Int.eq_ofNat_of_zero_le q0
  obtain ⟨x0, x1, y0, y1⟩ := sq_bd R.width R.height (s : Int) hV.side (by omega) (by omega)
  refine ⟨t, ht.symm, by omega, ?_⟩
  have g := turn_get hV.side ha (x := (s : Int) % R.width) (y := R.height - 1 - (s : Int) / R.width) x0 x1 (by omega) (by omega)
  have e := sq_self R.width (s : Int)
  rw [show R.height - 1 - (R.height - 1 - (s : Int) / R.width) = (s : Int) / R.width from by omega, e, Int.toNat_natCast] at g
  have e3 : (R.height - 1 - (s : Int) / R.width) * R.width + (s : Int) % R.width = t := by
    have := turn_sq (a := R.width) (b := R.height) x0 x1 y0 y1
    rw [e] at this
    omega
  rw [e3, Int.toNat_natCast] at g
  exact g
theorem goodP (hS : Sound R P) : GoodC P.cells := fun c hc => (hS.cells c hc).1
theorem other_hand (hS : Sound R P) : (otherP R P).hand = P.hand := by
  unfold PosM.hand otherP
  rcases hS.turn with h | h <;> simp [h]
theorem wayM_turn (hV : Valid R) (hS : Sound R P) {s t : Nat} (hs : s < P.cells.length) (ht : (t : Int) = turnI R.width R.height s) (x : WayM) :
    wayM R (otherP R P) t x = (wayM R P s x).map (turnI R.width R.height) := by
  have ha := hS.area
  obtain ⟨_, _, e1, e2, _⟩ := turnI_bd (s := (s : Int)) hV.side (by omega) (by omega)
  rw [← ht] at e1 e2
  unfold wayM
  rw [e1, e2]
  have hd : (if (otherP R P).turn = 1 then -x.dy else x.dy) = -(if P.turn = 1 then -x.dy else x.dy) := by
    show (if 1 - P.turn = 1 then -x.dy else x.dy) = _
    rcases hS.turn with h | h <;> simp [h]
  rw [hd]
  exact wayFrom_turn hV.side ha (goodP hS) hS.turn _ _ _
theorem own_flip (hS : Sound R P) {s t : Nat} (g : (otherP R P).cells.getD t 0 = flipC (P.cells.getD s 0)) : ownB (otherP R P) t = ownB P s := by
  have h0 := goodC_get (goodP hS) s
  unfold ownB
  rw [g]
  show (decide (flipC (P.cells.getD s 0) ≠ 0) && decide ((flipC (P.cells.getD s 0) - 1) % 2 = 1 - P.turn)) = _
  generalize P.cells.getD s 0 = c at *
  by_cases hz : c = 0
  · subst hz; simp [flipC]
  · have hp : 0 < c := by omega
    have := flip_mod hp
    have e1 : decide (flipC c ≠ 0) = decide (c ≠ 0) := decide_eq_decide.2 (not_congr (flip_zero h0))
    rw [e1]
    congr 1
    exact decide_eq_decide.2 ⟨fun _ => by omega, fun _ => by omega⟩
theorem mem_turn (hV : Valid R) (hS : Sound R P) (hf : R.falls = false) {m : MoveM} (h : m ∈ rawM R P) : turnMv R m ∈ rawM R (otherP R P) := by
  have ha := hS.area
  unfold rawM at h ⊢
  have hlen : (otherP R P).cells.length = P.cells.length := turnCells_length _ _ _
  rcases List.mem_append.1 h with h | h
  · refine List.mem_append.2 (.inl ?_)
    unfold putsM putsTo at h ⊢
    rw [hlen, other_hand hS]
    obtain ⟨d, hd, h⟩ := List.mem_flatMap.1 h
    rw [List.mem_range] at hd
    obtain ⟨t, ht, htl, g⟩ := other_cell hV hS hd
    refine List.mem_flatMap.2 ⟨t, List.mem_range.2 htl, ?_⟩
    split at h
    · rename_i hp
      have hp' : putB R (otherP R P) t = true := by
        unfold putB at hp ⊢
        rw [hf] at hp ⊢
        simp only [Bool.not_false, Bool.true_or, Bool.and_true, decide_eq_true_eq] at hp ⊢
        rw [g, hp]; decide
      rw [if_pos hp']
      unfold putsAt at h ⊢
      obtain ⟨q, hq, h⟩ := List.mem_flatMap.1 h
      refine List.mem_flatMap.2 ⟨q, hq, ?_⟩
      split at h
      · rename_i h0
        simp only [List.mem_singleton] at h
        subst h
        rw [if_pos h0]
        unfold turnMv
        simp only [List.mem_singleton]
        rw [← ht]
        simp [turnI]
      · simp at h
    · simp at h
  · refine List.mem_append.2 (.inr ?_)
    unfold stepsToM at h ⊢
    rw [hlen]
    obtain ⟨s, hs, h⟩ := List.mem_flatMap.1 h
    rw [List.mem_range] at hs
    obtain ⟨t, ht, htl, g⟩ := other_cell hV hS hs
    refine List.mem_flatMap.2 ⟨t, List.mem_range.2 htl, ?_⟩
    have ho := own_flip hS g
    unfold stepsAt at h ⊢
    rw [ho]
    split at h
    · rename_i hown
      rw [if_pos hown]
      have hpos : 0 < P.cells.getD s 0 := by
        have h0 := goodC_get (goodP hS) s
        unfold ownB at hown
        simp only [Bool.and_eq_true, decide_eq_true_eq] at hown
        omega
      rw [g, flip_div hpos]
      cases hp : R.pieces[((P.cells.getD s 0 - 1) / 2).toNat]? with
      | none => rw [hp] at h; simp at h
      | some p =>
        rw [hp] at h
        simp only at h ⊢
        unfold stepsBy at h ⊢
        obtain ⟨x, hx, h⟩ := List.mem_flatMap.1 h
        obtain ⟨u, hu, rfl⟩ := List.mem_map.1 h
        refine List.mem_flatMap.2 ⟨x, hx, ?_⟩
        rw [wayM_turn hV hS hs ht x, List.map_map]
        refine List.mem_map.2 ⟨u, hu, ?_⟩
        have hub := wayM_mem hu
        show stepTo R (otherP R P) t _ p.promote (turnI R.width R.height u) = turnMv R (stepTo R P s _ p.promote u)
        unfold stepTo turnMv
        have hl : lastM R (otherP R P).turn (turnI R.width R.height u) = lastM R P.turn u := last_turn hV.side hub.1 hub.2 hS.turn
        rw [hl, ht]
    · simp at h
theorem sound_other' (hV : Valid R) (hS : Sound R P) : Sound R (otherP R P) := by
  have h := sound_other hV hS
  exact ⟨h.area, h.len0, h.len1, h.cells, h.held0, h.held1, h.turn, h.quiet⟩
theorem turn_turn_mv (hV : Valid R) (hS : Sound R P) {m : MoveM} (h : m ∈ rawM R P) : turnMv R (turnMv R m) = m := by
  have ha := hS.area
  rcases rawM_cases hV hS h with ⟨d, q, rfl, hc, -⟩ | ⟨s, d, q, rfl, hc, -, -⟩
  · have hd := hc.dst
    obtain ⟨_, _, _, _, e⟩ := turnI_bd (s := (d : Int)) hV.side (by omega) (by omega)
    unfold turnMv
    simp only [e]
    simp [turnI]
  · have hd := hc.dst
    have hs := hc.src
    obtain ⟨_, _, _, _, e⟩ := turnI_bd (s := (d : Int)) hV.side (by omega) (by omega)
    obtain ⟨_, _, _, _, e'⟩ := turnI_bd (s := (s : Int)) hV.side (by omega) (by omega)
    unfold turnMv
    simp only [e, e']
end
theorem len_sub {α : Type} [DecidableEq α] : ∀ (l l' : List α), l.Nodup → (∀ x ∈ l, x ∈ l') → l.length ≤ l'.length
  | [], _, _, _ => by simp
  | a :: l, l', hn, hs => by
    have hn' := List.nodup_cons.1 hn
    have ha := hs a (by simp)
    have ih := len_sub l (l'.erase a) hn'.2 (fun x hx => by
      have hne : x ≠ a := by rintro rfl; exact hn'.1 hx
      exact (List.mem_erase_of_ne hne).2 (hs x (by simp [hx])))
    rw [List.length_erase_of_mem ha] at ih
    have : 0 < l'.length := List.length_pos_of_mem ha
    rw [List.length_cons]
    omega
theorem strict_nodup : ∀ {l : List MoveM}, Strict l → l.Nodup
  | [], _ => List.nodup_nil
  | x :: l, h => by
    have h' := List.pairwise_cons.1 h
    exact List.nodup_cons.2 ⟨fun hx => ltM_irrefl x (h'.1 x hx), strict_nodup h'.2⟩
theorem nodup_listM (R : RulesM) (P : PosM) : (listM R P).Nodup := strict_nodup (strict_listOf _)
theorem nodup_map {α β : Type} (f : α → β) : ∀ (l : List α), (∀ x ∈ l, ∀ y ∈ l, f x = f y → x = y) → l.Nodup → (l.map f).Nodup
  | [], _, _ => List.nodup_nil
  | x :: l, hi, hn => by
    have h' := List.nodup_cons.1 hn
    rw [List.map_cons]
    refine List.nodup_cons.2 ⟨fun hx => ?_, nodup_map f l (fun a ha b hb => hi a (by simp [ha]) b (by simp [hb])) h'.2⟩
    obtain ⟨y, hy, e⟩ := List.mem_map.1 hx
    have := hi y (by simp [hy]) x (by simp) e
    subst this
    exact h'.1 hy
theorem len_turn_le {R : RulesM} {P : PosM} (hV : Valid R) (hS : Sound R P) (hf : R.falls = false) : (listM R P).length ≤ (listM R (otherP R P)).length := by
  have h := len_sub ((listM R P).map (turnMv R)) (listM R (otherP R P)) ?_ ?_
  · simpa using h
  · refine nodup_map _ _ (fun x hx y hy he => ?_) (nodup_listM R P)
    rw [← turn_turn_mv hV hS (mem_listM.1 hx), ← turn_turn_mv hV hS (mem_listM.1 hy), he]
  · intro x hx
    obtain ⟨m, hm, rfl⟩ := List.mem_map.1 hx
    exact mem_listM.2 (mem_turn hV hS hf (mem_listM.1 hm))
theorem other_back {R : RulesM} {P : PosM} (hV : Valid R) (hS : Sound R P) : otherP R (otherP R P) = P := other_other hV hS
/-- The moves of the exchanged position are the moves, seen by the other player. -/
theorem exch_law {R : RulesM} {P : PosM} (hV : Valid R) (hS : Sound R P) (hf : R.falls = false) :
    (listM R (otherP R P)).length = (listM R P).length ∧ ∀ m ∈ listM R P, turnMv R m ∈ listM R (otherP R P) := by
  refine ⟨Nat.le_antisymm ?_ (len_turn_le hV hS hf), fun m hm => mem_listM.2 (mem_turn hV hS hf (mem_listM.1 hm))⟩
  have h := len_turn_le hV (sound_other' hV hS) hf
  rw [other_back hV hS] at h
  exact h
end Go.Proofs.Ytmofipijjokjfaa
