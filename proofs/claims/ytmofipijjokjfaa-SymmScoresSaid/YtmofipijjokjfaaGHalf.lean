/- Walk: slices.Clone over the pieces of rules. The moves of the position that is mirrored from left to right, where the ways are the same to both sides, as plain data. No program. Rules whose ways are made the same to both sides, and a score that stays under a mirroring, as plain data. No program. Rules opened: what rules_open says, and the rows of ways have room for what they hold. The pieces of rules while their ways are made the same to both sides, one after the other, in memory. -/
import Derived.Test.YtmofipijjokjfaaGCopy
import Derived.Test.YtmofipijjokjfaaExchP
import Derived.Test.YtmofipijjokjfaaEndsExP
import Derived.Test.YtmofipijjokjfaaMiniR
import Derived.Test.YtmofipijjokjfaaGMovesA
import Derived.Test.YtmofipijjokjfaaGMini
import Derived.Test.YtmofipijjokjfaaGOpen
namespace Go.Proofs.Ytmofipijjokjfaa
open Go.ChangeShapes Go.WideShapes Go.ChangeAt Go.RowKit
set_option linter.unusedVariables false
theorem len_flat4 : ∀ (vss : List (List Value)), (∀ l ∈ vss, l.length = 4) → vss.flatten.length = vss.length * 4
  | [], _ => rfl
  | l :: vss, h => by
    rw [List.flatten_cons, List.length_append, len_flat4 vss (fun x hx => h x (List.mem_cons_of_mem _ hx)), h l (List.mem_cons_self ..), List.length_cons, Nat.add_mul]
    omega
theorem clone_Pieces (A : Option Addr) (n c : Nat) (vss : List (List Value)) (w : World) (hn : vss.length = n) (hm : n ≤ 1000) (h4 : ∀ l ∈ vss, l.length = 4) (h1 : ∀ l ∈ vss, ∀ u ∈ l, u.oneCell' = true) (hz : CellsAt w A vss.flatten) :
    Calls Try.prog 50 #[.slice A n c] w fun e w' => ∃ A' c', e = .returned (.slice A' n c') ∧ w'.ownsRow w.heap.size 82 4 (.slice A' n c') n vss.flatten ∧ Ext w w' := by
  have hlen := len_flat4 vss h4
  have hone : ∀ u ∈ vss.flatten, u.oneCell' = true := fun u hu => by
    obtain ⟨l, hl, hu⟩ := List.mem_flatten.1 hu
    exact h1 l hl u hu
  clear h4 h1
  have hA : A = none → n = 0 := by
    intro e
    subst e
    by_cases h0 : n = 0
    · exact h0
    · obtain ⟨b, o, e, _⟩ := hz 0 (vss.flatten[0]'(by rw [hlen]; omega)) (List.getElem?_eq_getElem _)
      cases e
  have hnil := fun W => Lib.run_eql_slice_nil (P := Try.prog) W 22 82 A n c 0 0 Try.underlying22
  obtain ⟨i0, hi, hz0, hz1, hz2⟩ := info_parts pieceInfo
  rw [hn] at hlen
  cases A with
  | none =>
    obtain rfl := hA rfl
    have h0 : vss = [] := List.eq_nil_of_length_eq_zero hn
    subst h0
    go_enter Try.func50, Try.ntmps50
    go_wp2
    go_ret
    exact ⟨none, 0, rfl, World.ownsRow_nil _ _ _ _, Below.refl _ _⟩
  | some ad =>
    clear hA
    have hown := World.ownsRow_made w #[] 0 (base := w.heap.size) (e := 82) (size := 4) (Nat.le_refl _) (by simp [maxLen]) rfl
    generalize vss.flatten = vs at *
    have HO := hide hone
    have HL := hide hlen
    clear hone hlen hn
    go_enter Try.func50, Try.ntmps50
    go_wp2_with (at_builtin; refine wpList_append_cells _ rfl (.tmp 5) (.tmp 6) 22 rfl w.heap.size 82 i0 (.agg #[.int .u8 0, .int .i64 0, .int .i64 0, .slice none 0 0]) 4 48 Try.underlying22 hi hz0 hz1 hz2 rfl (by decide) _ 0 [] rfl hown (some ad) n c vs rfl HL.out (hz.ext (ext_alloc (Below.refl _ _) _)) HO.out (by simp only [maxLen]; omega) (by omega) (by simp) (by simp) ?_; intro v' w1 hown1 hgrow)
    obtain ⟨A', c', rfl, _, _⟩ := own_shape hown1
    go_ret
    simp only [Nat.zero_add, List.nil_append] at hown1
    exact ⟨A', c', by simp, hown1, ext_grown (ext_alloc (Below.refl _ _) _) hgrow (own_row hown)⟩
end Go.Proofs.Ytmofipijjokjfaa
namespace Go.Proofs.Ytmofipijjokjfaa
set_option linter.unusedVariables false
/-- The square on the other side; -1 stays. -/
def mirI (a s : Int) : Int := if s < 0 then s else s / a * a + (a - 1 - s % a)
def mirMv (R : RulesM) (m : MoveM) : MoveM := ⟨mirI R.width m.src, mirI R.width m.dst, m.piece⟩
def mirP (R : RulesM) (P : PosM) : PosM := { P with cells := movedL R.width R.height 1 P.cells }
/-- The ways are the same to the left and to the right. -/
def Both (R : RulesM) : Prop := ∀ p ∈ R.pieces, ∀ x ∈ p.ways, { x with dx := -x.dx } ∈ p.ways
theorem toL_one (a b q : Int) : toL a b 1 q = q / a * a + (a - 1 - q % a) := by
  unfold toL toX toY
  have e0 : b0 1 = true := by decide
  have e1 : b1 1 = false := by decide
  have e2 : b2 1 = false := by decide
  simp [e0, e1, e2]
theorem mir_get {a b : Int} {cells : List Int} (h : okSide a b) (hl : (cells.length : Int) = a * b) {x y : Int} (x0 : 0 ≤ x) (x1 : x < a) (y0 : 0 ≤ y) (y1 : y < b) :
    (movedL a b 1 cells).getD (y * a + x).toNat 0 = cells.getD (y * a + (a - 1 - x)).toNat 0 := by
  obtain ⟨q0, q1⟩ := sq_mk x0 x1 y0 y1
  obtain ⟨q, hq⟩ := Int.eq_ofNat_of_zero_le q0
  obtain ⟨c1, c2⟩ := coords (y := y) x0 x1
  have hq' : y * a + x = (q : Int) := hq
  have hlt : q < cells.length := by omega
  rw [hq', Int.toNat_natCast, movedL_getD a b 1 cells hlt, show invL 1 = 1 from by decide +kernel, toL_one, ← hq', c1, c2]
theorem mir_sq {a x y : Int} (x0 : 0 ≤ x) (x1 : x < a) (y0 : 0 ≤ y) : mirI a (y * a + x) = y * a + (a - 1 - x) := by
  obtain ⟨c1, c2⟩ := coords (y := y) x0 x1
  have h0 : 0 ≤ y * a := Int.mul_nonneg y0 (by omega)
  unfold mirI
  rw [if_neg (by omega), c1, c2]
theorem mirI_bd {a b s : Int} (h : okSide a b) (h0 : 0 ≤ s) (h1 : s < a * b) : 0 ≤ mirI a s ∧ mirI a s < a * b ∧ mirI a s % a = a - 1 - s % a ∧ mirI a s / a = s / a ∧ mirI a (mirI a s) = s := by
  obtain ⟨x0, x1, y0, y1⟩ := sq_bd a b s h h0 h1
  have e := sq_self a s
  have hs := mir_sq (a := a) x0 x1 y0
  rw [e] at hs
  have hs2 := mir_sq (a := a) (x := a - 1 - s % a) (y := s / a) (by omega) (by omega) y0
  obtain ⟨q0, q1⟩ := sq_mk (a := a) (b := b) (x := a - 1 - s % a) (y := s / a) (by omega) (by omega) y0 y1
  obtain ⟨c1, c2⟩ := coords (a := a) (x := a - 1 - s % a) (y := s / a) (by omega) (by omega)
  rw [hs]
  exact ⟨q0, q1, c1, c2, by rw [hs2, show a - 1 - (a - 1 - s % a) = s % a from by omega, e]⟩
theorem wayFrom_mir {a b t take dx dy : Int} {cs : List Int} (h : okSide a b) (hl : (cs.length : Int) = a * b) :
    ∀ n x y, wayFrom a b t take (-dx) dy (movedL a b 1 cs) n (a - 1 - x) y = (wayFrom a b t take dx dy cs n x y).map (mirI a)
  | 0, _, _ => rfl
  | n + 1, x, y => by
    unfold wayFrom
    by_cases hb : x + dx < 0 ∨ a ≤ x + dx ∨ y + dy < 0 ∨ b ≤ y + dy
    · rw [if_pos (by omega), if_pos hb]; rfl
    · rw [if_neg (by omega), if_neg hb]
      have e0 : a - 1 - x + -dx = a - 1 - (x + dx) := by omega
      rw [e0]
      have g := mir_get h hl (x := a - 1 - (x + dx)) (y := y + dy) (by omega) (by omega) (by omega) (by omega)
      rw [show a - 1 - (a - 1 - (x + dx)) = x + dx from by omega] at g
      rw [g]
      have ih := wayFrom_mir h hl n (x + dx) (y + dy) (t := t) (take := take) (dx := dx) (dy := dy)
      have hs := mir_sq (a := a) (x := x + dx) (y := y + dy) (by omega) (by omega) (by omega)
      generalize cs.getD ((y + dy) * a + (x + dx)).toNat 0 = c at *
      rw [List.map_append]
      congr 1
      · split
        · rw [List.map_cons, List.map_nil, hs]
        · rfl
      · by_cases hz : c = 0
        · rw [if_pos hz, if_pos hz, ih]
        · rw [if_neg hz, if_neg hz]; rfl
theorem fill_mir {a b : Int} {cs : List Int} (h : okSide a b) (hl : (cs.length : Int) = a * b) : ∀ (n : Nat) (s t : Nat), (s : Int) < a * b → (t : Int) = mirI a s → fillB (movedL a b 1 cs) a.toNat n t = fillB cs a.toNat n s
  | 0, _, _, _, _ => rfl
  | n + 1, s, t, hs, ht => by
    obtain ⟨m0, m1, m2, m3, m4⟩ := mirI_bd (s := (s : Int)) h (by omega) hs
    obtain ⟨x0, x1, y0, y1⟩ := sq_bd a b (s : Int) h (by omega) hs
    obtain ⟨z0, z1, w0, w1⟩ := sq_bd a b (t : Int) h (by omega) (by omega)
    have es := sq_self a (s : Int)
    have et := sq_self a (t : Int)
    rw [← ht] at m2 m3
    have ha : 1 ≤ a := h.1
    unfold fillB
    by_cases hlt : s < a.toNat
    · have h0 : (s : Int) / a = 0 := Int.ediv_eq_zero_of_lt (by omega) (by omega)
      rw [h0] at m3
      rw [m3] at et
      rw [if_pos hlt, if_pos (by omega)]
    · have h1 : 1 ≤ (s : Int) / a := by
        by_cases hk : 1 ≤ (s : Int) / a
        · exact hk
        · have : (s : Int) / a = 0 := by omega
          rw [this] at es
          omega
      have hge : ¬ t < a.toNat := by
        intro hlt2
        have : (t : Int) / a = 0 := Int.ediv_eq_zero_of_lt (by omega) (by omega)
        omega
      rw [if_neg hlt, if_neg hge]
      have e1 : ((s - a.toNat : Nat) : Int) = ((s : Int) / a - 1) * a + (s : Int) % a := by
        rw [Int.sub_mul, Int.one_mul]; omega
      have e2 : ((t - a.toNat : Nat) : Int) = ((s : Int) / a - 1) * a + (a - 1 - (s : Int) % a) := by
        rw [Int.sub_mul, Int.one_mul, ← m3, ← m2]; omega
      have g := mir_get h hl (x := a - 1 - (s : Int) % a) (y := (s : Int) / a - 1) (by omega) (by omega) (by omega) (by omega)
      rw [show a - 1 - (a - 1 - (s : Int) % a) = (s : Int) % a by omega, ← e1, ← e2, Int.toNat_natCast, Int.toNat_natCast] at g
      rw [g]
      have ih := fill_mir h hl n (s - a.toNat) (t - a.toNat) (by omega) (by
        rw [e1, e2]; exact (mir_sq (a := a) x0 x1 (by omega)).symm)
      rw [ih]
section
variable {R : RulesM} {P : PosM}
theorem mir_len : (mirP R P).cells.length = P.cells.length := movedL_length _ _ _ _
theorem mir_cell (hV : Valid R) (hS : Sound R P) {s : Nat} (hs : s < P.cells.length) : ∃ t : Nat, (t : Int) = mirI R.width s ∧ t < P.cells.length ∧ (mirP R P).cells.getD t 0 = P.cells.getD s 0 := by
  have ha := hS.area
  obtain ⟨q0, q1, e1, e2, _⟩ := mirI_bd (s := (s : Int)) hV.side (by omega) (by omega)
  obtain ⟨t, ht⟩ := Int.eq_ofNat_of_zero_le q0
  obtain ⟨x0, x1, y0, y1⟩ := sq_bd R.width R.height (s : Int) hV.side (by omega) (by omega)
  refine ⟨t, ht.symm, by omega, ?_⟩
  have g := mir_get hV.side ha (x := R.width - 1 - (s : Int) % R.width) (y := (s : Int) / R.width) (by omega) (by omega) y0 y1
  have e := sq_self R.width (s : Int)
  rw [show R.width - 1 - (R.width - 1 - (s : Int) % R.width) = (s : Int) % R.width from by omega, e, Int.toNat_natCast] at g
  have e3 : (s : Int) / R.width * R.width + (R.width - 1 - (s : Int) % R.width) = t := by
    have := mir_sq (a := R.width) x0 x1 y0
    rw [e] at this
    omega
  rw [e3, Int.toNat_natCast] at g
  exact g
theorem last_mir {t s : Int} (h : okSide R.width R.height) (h0 : 0 ≤ s) (h1 : s < R.width * R.height) : lastM R t (mirI R.width s) = lastM R t s := by
  obtain ⟨_, _, _, e, _⟩ := mirI_bd h h0 h1
  unfold lastM
  rw [e]
theorem wayM_mir (hV : Valid R) (hS : Sound R P) {s t : Nat} (hs : s < P.cells.length) (ht : (t : Int) = mirI R.width s) (x : WayM) :
    wayM R (mirP R P) t { x with dx := -x.dx } = (wayM R P s x).map (mirI R.width) := by
  have ha := hS.area
  obtain ⟨_, _, e1, e2, _⟩ := mirI_bd (s := (s : Int)) hV.side (by omega) (by omega)
  rw [← ht] at e1 e2
  unfold wayM
  rw [e1, e2]
  exact wayFrom_mir hV.side ha _ _ _
theorem mem_mir (hV : Valid R) (hS : Sound R P) (hB : Both R) {m : MoveM} (h : m ∈ rawM R P) : mirMv R m ∈ rawM R (mirP R P) := by
  have ha := hS.area
  unfold rawM at h ⊢
  have hlen : (mirP R P).cells.length = P.cells.length := mir_len
  rcases List.mem_append.1 h with h | h
  · refine List.mem_append.2 (.inl ?_)
    unfold putsM putsTo at h ⊢
    rw [hlen, show (mirP R P).hand = P.hand from rfl]
    obtain ⟨d, hd, h⟩ := List.mem_flatMap.1 h
    rw [List.mem_range] at hd
    obtain ⟨t, ht, htl, g⟩ := mir_cell hV hS hd
    refine List.mem_flatMap.2 ⟨t, List.mem_range.2 htl, ?_⟩
    split at h
    · rename_i hp
      have hp' : putB R (mirP R P) t = true := by
        unfold putB at hp ⊢
        rw [g]
        obtain ⟨_, _, e1, e2, _⟩ := mirI_bd (s := (d : Int)) hV.side (by omega) (by omega)
        rw [← ht] at e1 e2
        have hw := hV.side.1
        have f1 := fill_mir hV.side ha (d + t) d t (by omega) ht
        rw [fillB_fuel _ _ (by omega) (d + t) t (by omega), fillB_fuel _ _ (by omega) (d + t) d (by omega)] at f1
        have es := sq_self R.width (d : Int)
        have et := sq_self R.width (t : Int)
        obtain ⟨x0, x1, y0, y1⟩ := sq_bd R.width R.height (d : Int) hV.side (by omega) (by omega)
        have f2 : decide (t < R.width.toNat) = decide (d < R.width.toNat) := decide_eq_decide.2 (by
          rw [e2, e1] at et
          constructor
          · intro hk
            have : (t : Int) / R.width = 0 := Int.ediv_eq_zero_of_lt (by omega) (by omega)
            rw [e2] at this
            rw [this] at es
            omega
          · intro hk
            have : (d : Int) / R.width = 0 := Int.ediv_eq_zero_of_lt (by omega) (by omega)
            rw [this] at et
            omega)
        rw [show fillB (mirP R P).cells R.width.toNat t t = fillB P.cells R.width.toNat d d from f1, f2]
        exact hp
      rw [if_pos hp']
      unfold putsAt at h ⊢
      obtain ⟨q, hq, h⟩ := List.mem_flatMap.1 h
      refine List.mem_flatMap.2 ⟨q, hq, ?_⟩
      split at h
      · rename_i h0
        simp only [List.mem_singleton] at h
        subst h
        rw [if_pos h0]
        unfold mirMv
        simp only [List.mem_singleton]
        rw [← ht]
        simp [mirI]
      · simp at h
    · simp at h
  · refine List.mem_append.2 (.inr ?_)
    unfold stepsToM at h ⊢
    rw [hlen]
    obtain ⟨s, hs, h⟩ := List.mem_flatMap.1 h
    rw [List.mem_range] at hs
    obtain ⟨t, ht, htl, g⟩ := mir_cell hV hS hs
    refine List.mem_flatMap.2 ⟨t, List.mem_range.2 htl, ?_⟩
    have ho : ownB (mirP R P) t = ownB P s := by unfold ownB; rw [g]; rfl
    unfold stepsAt at h ⊢
    rw [ho, g]
    split at h
    · rename_i hown
      rw [if_pos hown]
      cases hp : R.pieces[((P.cells.getD s 0 - 1) / 2).toNat]? with
      | none => rw [hp] at h; simp at h
      | some p =>
        rw [hp] at h
        simp only at h ⊢
        unfold stepsBy at h ⊢
        obtain ⟨x, hx, h⟩ := List.mem_flatMap.1 h
        obtain ⟨u, hu, rfl⟩ := List.mem_map.1 h
        refine List.mem_flatMap.2 ⟨_, hB p (List.mem_of_getElem? hp) x hx, ?_⟩
        rw [wayM_mir hV hS hs ht x, List.map_map]
        refine List.mem_map.2 ⟨u, hu, ?_⟩
        have hub := wayM_mem hu
        show stepTo R (mirP R P) t _ p.promote (mirI R.width u) = mirMv R (stepTo R P s _ p.promote u)
        unfold stepTo mirMv
        have hl : lastM R (mirP R P).turn (mirI R.width u) = lastM R P.turn u := last_mir hV.side hub.1 hub.2
        rw [hl, ht]
    · simp at h
theorem moved_mem1 {c : Int} (hV : Valid R) (hS : Sound R P) (h : c ∈ (mirP R P).cells) : c ∈ P.cells := by
  obtain ⟨t, ht⟩ := List.getElem?_of_mem h
  have hlt := (List.getElem?_eq_some_iff.1 ht).1
  have hl : (mirP R P).cells.length = P.cells.length := mir_len
  have ha := hS.area
  have e : (mirP R P).cells.getD t 0 = c := by rw [List.getD_eq_getElem?_getD, ht]; rfl
  have g := movedL_getD R.width R.height 1 P.cells (j := t) (by omega)
  have g' : (mirP R P).cells.getD t 0 = P.cells.getD (toL R.width R.height (invL 1) t).toNat 0 := g
  rw [show invL 1 = 1 from by decide +kernel, toL_one] at g'
  rw [e] at g'
  rw [g']
  obtain ⟨x0, x1, y0, y1⟩ := sq_bd R.width R.height (t : Int) hV.side (by omega) (by omega)
  obtain ⟨q0, q1⟩ := sq_mk (a := R.width) (b := R.height) (x := R.width - 1 - (t : Int) % R.width) (y := (t : Int) / R.width) (by omega) (by omega) y0 y1
  exact getD_mem (by omega)
theorem sound_mir (hV : Valid R) (hS : Sound R P) : Sound R (mirP R P) :=
  ⟨by rw [mir_len]; exact hS.area, hS.len0, hS.len1, fun c hc => hS.cells c (moved_mem1 hV hS hc), hS.held0, hS.held1, hS.turn, hS.quiet⟩
theorem cells_ext {xs ys : List Int} (hl : xs.length = ys.length) (h : ∀ i, i < xs.length → xs.getD i 0 = ys.getD i 0) : xs = ys := by
  apply List.ext_getElem hl
  intro i h1 h2
  have := h i h1
  simpa [h1, h2] using this
theorem mir_mir (hV : Valid R) (hS : Sound R P) : mirP R (mirP R P) = P := by
  have hl : (mirP R (mirP R P)).cells.length = P.cells.length := by rw [mir_len, mir_len]
  have hc : (mirP R (mirP R P)).cells = P.cells := cells_ext hl (fun i hi => by
    have ha := hS.area
    obtain ⟨t, ht, htl, g⟩ := mir_cell hV hS (s := i) (by omega)
    obtain ⟨u, hu, hul, g2⟩ := mir_cell hV (sound_mir hV hS) (s := t) (by rw [mir_len]; omega)
    obtain ⟨_, _, _, _, e⟩ := mirI_bd (s := (i : Int)) hV.side (by omega) (by omega)
    rw [ht, e] at hu
    have : u = i := by omega
    subst this
    rw [g2, g])
  show ({ (mirP R P) with cells := (mirP R (mirP R P)).cells } : PosM) = P
  rw [hc]
  rfl
theorem mir_mv (hV : Valid R) (hS : Sound R P) {m : MoveM} (h : m ∈ rawM R P) : mirMv R (mirMv R m) = m := by
  have ha := hS.area
  rcases rawM_cases hV hS h with ⟨d, q, rfl, hc, -⟩ | ⟨s, d, q, rfl, hc, -, -⟩
  · have hd := hc.dst
    obtain ⟨_, _, _, _, e⟩ := mirI_bd (s := (d : Int)) hV.side (by omega) (by omega)
    unfold mirMv
    simp only [e]
    simp [mirI]
  · have hd := hc.dst
    have hs := hc.src
    obtain ⟨_, _, _, _, e⟩ := mirI_bd (s := (d : Int)) hV.side (by omega) (by omega)
    obtain ⟨_, _, _, _, e'⟩ := mirI_bd (s := (s : Int)) hV.side (by omega) (by omega)
    unfold mirMv
    simp only [e, e']
/-- A cell that is set, mirrored. -/
theorem mir_set {a b v : Int} {cs : List Int} (h : okSide a b) (hl : (cs.length : Int) = a * b) {d t : Nat} (hd : d < cs.length) (ht : (t : Int) = mirI a d) : movedL a b 1 (cs.set d v) = (movedL a b 1 cs).set t v := by
  apply cells_ext
  · rw [movedL_length, List.length_set, List.length_set, movedL_length]
  · intro i hi
    rw [movedL_length, List.length_set] at hi
    have g1 := movedL_getD a b 1 (cs.set d v) (j := i) (by rw [List.length_set]; exact hi)
    have g2 := movedL_getD a b 1 cs (j := i) hi
    rw [show invL 1 = 1 from by decide +kernel, toL_one] at g1 g2
    obtain ⟨m0, m1, m2, m3, m4⟩ := mirI_bd (s := (i : Int)) h (by omega) (by omega)
    have e : (i : Int) / a * a + (a - 1 - (i : Int) % a) = mirI a i := by unfold mirI; rw [if_neg (by omega)]
    rw [e] at g1 g2
    rw [g1]
    obtain ⟨k0, k1, k2, k3, k4⟩ := mirI_bd (s := (d : Int)) h (by omega) (by omega)
    by_cases hit : i = t
    · subst hit
      have : (mirI a (i : Int)).toNat = d := by rw [ht, k4]; omega
      rw [this]
      simp [hd, movedL_length, hi]
    · have hne : (mirI a (i : Int)).toNat ≠ d := by
        intro he
        have : mirI a (i : Int) = (d : Int) := by omega
        rw [this] at m4
        omega
      rw [List.getD_eq_getElem?_getD, List.getElem?_set_ne (Ne.symm hne), ← List.getD_eq_getElem?_getD, ← g2]
      rw [List.getD_eq_getElem?_getD, List.getD_eq_getElem?_getD, List.getElem?_set_ne (Ne.symm hit)]
theorem make_mir (hV : Valid R) (hS : Sound R P) {m : MoveM} (h : m ∈ rawM R P) : makeM R (mirP R P) (mirMv R m) = mirP R (makeM R P m) := by
  have ha := hS.area
  rcases rawM_cases hV hS h with ⟨d, q, rfl, hc, -⟩ | ⟨s, d, q, rfl, hc, -, -⟩
  · obtain ⟨t, ht, htl, g⟩ := mir_cell hV hS (s := d) hc.dst
    have e : mirMv R ⟨-1, (d : Int), q⟩ = ⟨-1, (t : Int), q⟩ := by
      unfold mirMv
      rw [← ht]
      simp [mirI]
    rw [e]
    have hs := mir_set (v := 2 * (q : Int) + P.turn + 1) hV.side ha hc.dst ht
    have g' : (movedL R.width R.height 1 P.cells).getD t 0 = P.cells.getD d 0 := g
    have n1 : ((0 : Int) ≤ -1) = False := by simp
    unfold makeM mirP
    simp only [Int.toNat_natCast, n1, if_false, g', hs, PosM.hand]
  · obtain ⟨t, ht, htl, g⟩ := mir_cell hV hS (s := d) hc.dst
    obtain ⟨u, hu, hul, g2⟩ := mir_cell hV hS (s := s) hc.src
    have e : mirMv R ⟨(s : Int), (d : Int), q⟩ = ⟨(u : Int), (t : Int), q⟩ := by
      unfold mirMv
      rw [← ht, ← hu]
    rw [e]
    have hs1 := mir_set (v := 0) hV.side ha hc.src hu
    have hs := mir_set (v := 2 * (q : Int) + P.turn + 1) (cs := P.cells.set s 0) hV.side (by rw [List.length_set]; exact ha) (by rw [List.length_set]; exact hc.dst) ht
    have g' : (movedL R.width R.height 1 P.cells).getD t 0 = P.cells.getD d 0 := g
    have n1 : ((0 : Int) ≤ (s : Int)) = True := by simp
    have n2 : ((0 : Int) ≤ (u : Int)) = True := by simp
    have n3 : ((s : Int) < 0) = False := by simp
    have n4 : ((u : Int) < 0) = False := by simp
    unfold makeM mirP
    simp only [Int.toNat_natCast, n1, n2, n3, n4, if_true, g', hs, hs1, PosM.hand]
theorem mem_mir_iff (hV : Valid R) (hS : Sound R P) (hB : Both R) (x : MoveM) : x ∈ listM R (mirP R P) ↔ x ∈ (listM R P).map (mirMv R) := by
  constructor
  · intro hx
    have h1 := mem_mir hV (sound_mir hV hS) hB (mem_listM.1 hx)
    rw [mir_mir hV hS] at h1
    exact List.mem_map.2 ⟨mirMv R x, mem_listM.2 h1, mir_mv hV (sound_mir hV hS) (mem_listM.1 hx)⟩
  · intro hx
    obtain ⟨m, hm, rfl⟩ := List.mem_map.1 hx
    exact mem_listM.2 (mem_mir hV hS hB (mem_listM.1 hm))
theorem nodup_mirL (hV : Valid R) (hS : Sound R P) : ((listM R P).map (mirMv R)).Nodup :=
  nodup_map _ _ (fun x hx y hy he => by rw [← mir_mv hV hS (mem_listM.1 hx), ← mir_mv hV hS (mem_listM.1 hy), he]) (nodup_listM R P)
end
theorem perm_sum {l l' : List Int} (h : l.Perm l') : l.sum = l'.sum := by
  induction h with
  | nil => rfl
  | cons a _ ih => rw [List.sum_cons, List.sum_cons, ih]
  | swap a b l => simp only [List.sum_cons]; omega
  | trans _ _ ih1 ih2 => rw [ih1, ih2]
/-- Two lists without doubles that have the same elements have the same sum. -/
theorem sum_same {α : Type} [DecidableEq α] (f : α → Int) : ∀ (l l' : List α), l.Nodup → l'.Nodup → (∀ x, x ∈ l ↔ x ∈ l') → (l.map f).sum = (l'.map f).sum
  | [], l', _, _, h => by
    have : l' = [] := List.eq_nil_iff_forall_not_mem.2 (fun x hx => by simpa using (h x).2 hx)
    rw [this]
  | a :: l, l', hn, hn', h => by
    have h0 := List.nodup_cons.1 hn
    have ha : a ∈ l' := (h a).1 (by simp)
    have ih := sum_same f l (l'.erase a) h0.2 (hn'.erase a) (fun x => by
      rw [hn'.mem_erase_iff]
      constructor
      · intro hx
        exact ⟨fun e => h0.1 (e ▸ hx), (h x).1 (by simp [hx])⟩
      · rintro ⟨hne, hx⟩
        rcases List.mem_cons.1 ((h x).2 hx) with e | e
        · exact absurd e hne
        · exact e)
    have hp := (List.perm_cons_erase ha).map f
    rw [List.map_cons, List.sum_cons, ih, perm_sum hp, List.map_cons, List.sum_cons]
section
variable {R : RulesM} {P : PosM}
theorem own_mir {a b p : Int} {cs : List Int} (h : okSide a b) (hl : (cs.length : Int) = a * b) (x y : Int) :
    ownXY a b (movedL a b 1 cs) p x y = ownXY a b cs p (a - 1 - x) y := by
  unfold ownXY
  by_cases hin : x < 0 ∨ a ≤ x ∨ y < 0 ∨ b ≤ y
  · rw [if_pos hin, if_pos (by omega)]
  · rw [if_neg hin, if_neg (by omega)]
    rw [mir_get h hl (x := x) (y := y) (by omega) (by omega) (by omega) (by omega)]
theorem run_mir {a b p : Int} {cs : List Int} (h : okSide a b) (hl : (cs.length : Int) = a * b) (dx dy : Int) :
    ∀ n x y, runXY a b (movedL a b 1 cs) p dx dy n x y = runXY a b cs p (-dx) dy n (a - 1 - x) y
  | 0, _, _ => rfl
  | n + 1, x, y => by
    rw [runXY_succ, runXY_succ, own_mir h hl, run_mir h hl dx dy n]
    rw [show a - 1 - (x + dx) = a - 1 - x + -dx by omega]
/-- A run is a run from its other end. -/
theorem run_back {W H p dx dy : Int} {cs : List Int} {n : Nat} {x y : Int} (h : runXY W H cs p (-dx) dy n x y = true) : runXY W H cs p dx (-dy) n (x - ((n : Int) - 1) * dx) (y + ((n : Int) - 1) * dy) = true := by
  rw [run_iff] at h ⊢
  intro i hi
  have := h (n - 1 - i) (by omega)
  have e : ((n - 1 - i : Nat) : Int) = (n : Int) - 1 - i := by omega
  rw [e] at this
  have e1 : x + ((n : Int) - 1 - i) * -dx = x - ((n : Int) - 1) * dx + (i : Int) * dx := by rw [Int.mul_neg, Int.sub_mul ((n : Int) - 1)]; omega
  have e2 : y + ((n : Int) - 1 - i) * dy = y + ((n : Int) - 1) * dy + (i : Int) * -dy := by rw [Int.mul_neg, Int.sub_mul ((n : Int) - 1)]; omega
  rw [e1, e2] at this
  exact this
theorem line_mir1 (hV : Valid R) (hS : Sound R P) {p : Int} {n : Nat} (hn : 1 ≤ n) (h : lineB R (mirP R P) p n = true) : lineB R P p n = true := by
  have ha := hS.area
  have hlen : (mirP R P).cells.length = P.cells.length := mir_len
  unfold lineB at h ⊢
  rw [hlen] at h
  obtain ⟨s, hs, h⟩ := List.any_eq_true.1 h
  rw [List.mem_range] at hs
  obtain ⟨x0, x1, y0, y1⟩ := sq_bd R.width R.height (s : Int) hV.side (by omega) (by omega)
  have hr := fun dx dy => run_mir (p := p) hV.side ha dx dy n ((s : Int) % R.width) ((s : Int) / R.width)
  have key : ∀ x y : Int, (runXY R.width R.height P.cells p 1 0 n x y = true ∨ runXY R.width R.height P.cells p 0 1 n x y = true ∨ runXY R.width R.height P.cells p 1 1 n x y = true ∨ runXY R.width R.height P.cells p 1 (-1) n x y = true) →
      (List.range P.cells.length).any (lineAt R.width R.height P.cells p n) = true := by
    intro x y hd
    have hin : 0 ≤ x ∧ x < R.width ∧ 0 ≤ y ∧ y < R.height := by
      rcases hd with h | h | h | h
      all_goals
        have h4 := own_in ((run_iff _ _ _).1 h 0 (by omega))
        simp only [Int.natCast_zero, Int.zero_mul, Int.add_zero] at h4
        exact h4
    obtain ⟨z0, z1, w0, w1⟩ := hin
    obtain ⟨q0, q1⟩ := sq_mk z0 z1 w0 w1
    obtain ⟨k, hk⟩ := Int.eq_ofNat_of_zero_le q0
    have hk' : y * R.width + x = (k : Int) := hk
    refine List.any_eq_true.2 ⟨k, List.mem_range.2 (by omega), ?_⟩
    unfold lineAt
    rw [← hk', (coords z0 z1).1, (coords z0 z1).2]
    rcases hd with h | h | h | h <;> simp [h]
  unfold lineAt at h
  simp only [Bool.or_eq_true] at h
  rcases h with h | h | h | h
  · have h2 := run_back ((hr 1 0).symm.trans h)
    exact key _ _ (.inl (by simpa using h2))
  · have h2 := (hr 0 1).symm.trans h
    exact key _ _ (.inr (.inl (by simpa using h2)))
  · have h2 := run_back ((hr 1 1).symm.trans h)
    exact key _ _ (.inr (.inr (.inr h2)))
  · have h2 := run_back ((hr 1 (-1)).symm.trans h)
    exact key _ _ (.inr (.inr (.inl (by simpa using h2))))
theorem line_mir (hV : Valid R) (hS : Sound R P) {p : Int} {n : Nat} (hn : 1 ≤ n) : lineB R (mirP R P) p n = lineB R P p n := by
  apply Bool.eq_iff_iff.2
  refine ⟨line_mir1 hV hS hn, fun h => ?_⟩
  have := line_mir1 (P := mirP R P) hV (sound_mir hV hS) (p := p) (n := n) hn
  rw [mir_mir hV hS] at this
  exact this h
theorem reach_mir1 (hV : Valid R) (hS : Sound R P) {p q : Int} (h : reachB R P q p = true) : reachB R (mirP R P) q p = true := by
  have ha := hS.area
  have hlen : (mirP R P).cells.length = P.cells.length := mir_len
  unfold reachB at h ⊢
  rw [hlen]
  obtain ⟨s, hs, h⟩ := List.any_eq_true.1 h
  rw [List.mem_range] at hs
  obtain ⟨t, ht, htl, g⟩ := mir_cell hV hS hs
  refine List.any_eq_true.2 ⟨t, List.mem_range.2 htl, ?_⟩
  rw [g, ht, last_mir hV.side (by omega) (by omega)]
  exact h
theorem reach_mir (hV : Valid R) (hS : Sound R P) {p q : Int} : reachB R (mirP R P) q p = reachB R P q p := by
  apply Bool.eq_iff_iff.2
  refine ⟨fun h => ?_, reach_mir1 hV hS⟩
  have := reach_mir1 (P := mirP R P) hV (sound_mir hV hS) (p := p) (q := q) h
  rwa [mir_mir hV hS] at this
theorem count_mir1 (hV : Valid R) (hS : Sound R P) (c : Int) : countC P.cells c ≤ countC (mirP R P).cells c := by
  have ha := hS.area
  have hlen : (mirP R P).cells.length = P.cells.length := mir_len
  rw [count_range, count_range]
  have h := len_sub (((List.range P.cells.length).filter fun s => decide (P.cells.getD s 0 = c)).map fun (s : Nat) => (mirI R.width (s : Int)).toNat) ((List.range (mirP R P).cells.length).filter fun s => decide ((mirP R P).cells.getD s 0 = c)) ?_ ?_
  · rwa [List.length_map] at h
  · refine nodup_map _ _ (fun x hx y hy he => ?_) (List.Pairwise.filter _ List.nodup_range)
    have hx' := List.mem_range.1 (List.mem_filter.1 hx).1
    have hy' := List.mem_range.1 (List.mem_filter.1 hy).1
    obtain ⟨a1, a2, _, _, a3⟩ := mirI_bd (s := (x : Int)) hV.side (by omega) (by omega)
    obtain ⟨b1, b2, _, _, b3⟩ := mirI_bd (s := (y : Int)) hV.side (by omega) (by omega)
    have e : mirI R.width (x : Int) = mirI R.width (y : Int) := by omega
    rw [e] at a3
    omega
  · intro t ht
    obtain ⟨s, hs, rfl⟩ := List.mem_map.1 ht
    obtain ⟨hs1, hs2⟩ := List.mem_filter.1 hs
    rw [List.mem_range] at hs1
    obtain ⟨t, ht, htl, g⟩ := mir_cell hV hS hs1
    rw [← ht, Int.toNat_natCast]
    refine List.mem_filter.2 ⟨List.mem_range.2 (by omega), ?_⟩
    rw [decide_eq_true_eq] at hs2 ⊢
    rw [g]
    exact hs2
theorem count_mir (hV : Valid R) (hS : Sound R P) (c : Int) : countC (mirP R P).cells c = countC P.cells c := by
  refine Nat.le_antisymm ?_ (count_mir1 hV hS c)
  have := count_mir1 (P := mirP R P) hV (sound_mir hV hS) c
  rwa [mir_mir hV hS] at this
theorem holds_mir (hV : Valid R) (hS : Sound R P) {p : Int} {x : EndM} (hx : x ∈ R.ends) : holdsB R (mirP R P) p x = holdsB R P p x := by
  unfold holdsB
  rw [reach_mir hV hS, count_mir hV hS]
  rcases ends_facts hV hx with ⟨h, h1, h2⟩ | ⟨h, h1, h2⟩ | ⟨h, h1, h2, h3, h4⟩
  · rw [if_pos h, if_pos h]
    exact line_mir hV hS (by omega)
  · have k0 : ¬ x.kind = 0 := by omega
    simp only [if_neg k0]
  · have k0 : ¬ x.kind = 0 := by omega
    simp only [if_neg k0]
theorem len_mir (hV : Valid R) (hS : Sound R P) (hB : Both R) : (listM R (mirP R P)).length = (listM R P).length := by
  have h1 := len_sub _ ((listM R P).map (mirMv R)) (nodup_listM R (mirP R P)) (fun x hx => (mem_mir_iff hV hS hB x).1 hx)
  have h2 := len_sub _ (listM R (mirP R P)) (nodup_mirL hV hS) (fun x hx => (mem_mir_iff hV hS hB x).2 hx)
  rw [List.length_map] at h1 h2
  omega
theorem result_mir (hV : Valid R) (hS : Sound R P) (hB : Both R) : resultM R (mirP R P) = resultM R P := by
  have hff : R.ends.find? (holdsB R (mirP R P) (1 - (mirP R P).turn)) = R.ends.find? (holdsB R P (1 - P.turn)) := find_congr (fun x hx => holds_mir hV hS hx)
  unfold resultM
  rw [hff]
  unfold restM
  rw [len_mir hV hS hB]
  rfl
theorem tree_mir (hV : Valid R) (hB : Both R) : ∀ (d : Nat) (P : PosM), Sound R P → treeM R d (mirP R P) = treeM R d P
  | 0, _, _ => rfl
  | d + 1, P, hS => by
    unfold treeM movesM
    rw [result_mir hV hS hB]
    split
    · have h1 := sum_same (fun m => treeM R d (makeM R (mirP R P) m)) (listM R (mirP R P)) ((listM R P).map (mirMv R)) (nodup_listM _ _) (nodup_mirL hV hS) (mem_mir_iff hV hS hB)
      rw [h1, List.map_map]
      congr 2
      apply List.map_congr_left
      intro m hm
      show treeM R d (makeM R (mirP R P) (mirMv R m)) = treeM R d (makeM R P m)
      rw [make_mir hV hS (mem_listM.1 hm)]
      exact tree_mir hV hB d _ (sound_make hV hS (mem_listM.1 hm))
    · rfl
theorem of_mir (hV : Valid R) (hB : Both R) : ∀ (d : Nat) (P : PosM), Sound R P → d ≤ 90 → ofM R d (mirP R P) = ofM R d P
  | 0, P, hS, _ => by
    unfold ofM
    rw [result_mir hV hS hB]
    rfl
  | d + 1, P, hS, hd => by
    by_cases h : resultM R P = 0
    · have h' : resultM R (mirP R P) = 0 := by rw [result_mir hV hS hB]; exact h
      have hf : ∀ m ∈ listM R P, nearM (-(ofM R d (makeM R (mirP R P) (mirMv R m)))) = nearM (-(ofM R d (makeM R P m))) := fun m hm => by
        rw [make_mir hV hS (mem_listM.1 hm), of_mir hV hB d _ (sound_make hV hS (mem_listM.1 hm)) (by omega)]
      obtain ⟨m1, e1⟩ := first_mem (R := R) (P := P) hS.turn h (d := d) (by omega)
      obtain ⟨m2, e2⟩ := first_mem (R := R) (P := mirP R P) hS.turn h' (d := d) (by omega)
      have g1 := fun m hm => (bestL_ge (fun m => nearM (-(ofM R d (makeM R P m)))) (listM R P) (⟨0, 0, 0⟩, -2000)).2 m hm
      have g2 := fun m hm => (bestL_ge (fun m => nearM (-(ofM R d (makeM R (mirP R P) m)))) (listM R (mirP R P)) (⟨0, 0, 0⟩, -2000)).2 m hm
      rw [← first_score h d, ← first_score h' d]
      have a1 : (firstM R d P).2 ≤ (firstM R d (mirP R P)).2 := by
        have := g2 (mirMv R (firstM R d P).1) ((mem_mir_iff hV hS hB _).2 (List.mem_map.2 ⟨_, m1, rfl⟩))
        rw [hf _ m1, ← e1] at this
        exact this
      have a2 : (firstM R d (mirP R P)).2 ≤ (firstM R d P).2 := by
        obtain ⟨m, hm, em⟩ := List.mem_map.1 ((mem_mir_iff hV hS hB _).1 m2)
        have := g1 m hm
        rw [← hf m hm, em, ← e2] at this
        exact this
      omega
    · have h' : resultM R (mirP R P) ≠ 0 := by rw [result_mir hV hS hB]; exact h
      rw [of_over h, of_over h', result_mir hV hS hB]
      rfl
end
end Go.Proofs.Ytmofipijjokjfaa
namespace Go.Proofs.Ytmofipijjokjfaa
set_option linter.unusedVariables false
def negX (x : WayM) : WayM := { x with dx := -x.dx }
/-- The first eight ways, and behind them the same to the other side. -/
def bothW (ws : List WayM) : List WayM := ws.take 8 ++ (ws.take 8).map negX
def bothP (p : PieceM) : PieceM := { p with ways := bothW p.ways }
def bothR (R : RulesM) : RulesM := { R with pieces := R.pieces.map bothP }
theorem wayB_neg (x : WayM) (h : wayB x = true) : wayB (negX x) = true := by
  unfold wayB negX inB at *
  simp only [Bool.and_eq_true, Bool.not_eq_true', Bool.and_eq_false_iff, decide_eq_true_eq, decide_eq_false_iff_not] at *
  omega
theorem both_both (R : RulesM) : Both (bothR R) := by
  intro p hp x hx
  obtain ⟨q, hq, rfl⟩ := List.mem_map.1 hp
  show negX x ∈ bothW q.ways
  rcases List.mem_append.1 hx with h | h
  · exact List.mem_append_right _ (List.mem_map.2 ⟨x, h, rfl⟩)
  · obtain ⟨y, hy, rfl⟩ := List.mem_map.1 h
    refine List.mem_append_left _ ?_
    have e : negX (negX y) = y := by unfold negX; simp
    rw [e]; exact hy
theorem both_len (R : RulesM) : (bothR R).pieces.length = R.pieces.length := List.length_map _
theorem both_piece (R : RulesM) (j : Nat) (h : pieceE R.pieces j = 0) : pieceE (bothR R).pieces j = 0 := by
  have hg : (bothR R).pieces[j]? = R.pieces[j]?.map bothP := List.getElem?_map ..
  have hl := both_len R
  unfold pieceE at h ⊢
  rw [hg, hl]
  cases hp : R.pieces[j]? with
  | none => rfl
  | some p =>
    rw [hp] at h
    have ht : ((bothR R).pieces.take j).any (fun q => decide (q.letter = (bothP p).letter)) = (R.pieces.take j).any (fun q => decide (q.letter = p.letter)) := by
      show ((R.pieces.map bothP).take j).any _ = _
      rw [← List.map_take, List.any_map]
      rfl
    have hle : (bothP p).letter = p.letter := rfl
    have hha : (bothP p).hand = p.hand := rfl
    have hpr : (bothP p).promote = p.promote := rfl
    have hwl : ¬ 16 < (bothP p).ways.length := by show ¬ 16 < (bothW p.ways).length; unfold bothW; simp; omega
    simp only [Option.map_some] at h ⊢
    rw [ht, hle, hha, hpr]
    split at h
    · exact absurd h (by decide)
    split at h
    · exact absurd h (by decide)
    split at h
    · exact absurd h (by decide)
    split at h
    · exact absurd h (by decide)
    split at h
    · rename_i a1 a2 a3 a4 a5
      rw [if_neg a1, if_neg a2, if_neg a3, if_neg hwl, if_pos]
      rw [List.all_eq_true] at a5 ⊢
      intro x hx
      have hx : x ∈ bothW p.ways := hx
      rcases List.mem_append.1 hx with k | k
      · exact a5 x (List.mem_of_mem_take k)
      · obtain ⟨y, hy, rfl⟩ := List.mem_map.1 k
        exact wayB_neg y (a5 y (List.mem_of_mem_take hy))
    · exact absurd h (by decide)
theorem both_valid {R : RulesM} (h : Valid R) : Valid (bothR R) := by
  have hl := both_len R
  exact ⟨h.name, h.side, by rw [hl]; exact h.pieces0, by rw [hl]; exact h.pieces6, fun j hj => both_piece R j (h.piece j (by rw [← hl]; exact hj)), h.area, by rw [hl]; exact h.start, h.ends6, by rw [hl]; exact h.ende, h.last⟩
theorem both_sound {R : RulesM} {P : PosM} (h : Sound R P) : Sound (bothR R) P := by
  have hl := both_len R
  exact ⟨h.area, by rw [hl]; exact h.len0, by rw [hl]; exact h.len1, by rw [hl]; exact h.cells, h.held0, h.held1, h.turn, h.quiet⟩
/-- Where the ways are the same to both sides, a position that is mirrored has the same score. -/
theorem score_mir {R : RulesM} {P : PosM} (hV : Valid R) (hB : Both R) (hS : Sound R P) (D : Int) : perftE R (mirP R P) D = perftE R P D ∧ scoreM R (mirP R P) D = scoreM R P D := by
  have c1 : checkE R P = 0 := check_iff.2 ⟨hV, hS⟩
  have c2 : checkE R (mirP R P) = 0 := check_iff.2 ⟨hV, sound_mir hV hS⟩
  have e : perftE R (mirP R P) D = perftE R P D := by
    unfold perftE
    rw [c1, c2, tree_mir hV hB _ _ hS]
  refine ⟨e, ?_⟩
  unfold scoreM
  rw [e]
  by_cases h0 : perftE R P D = 0
  · obtain ⟨-, -, h1, h2, -⟩ := perft_zero h0
    rw [if_pos h0, if_pos h0, of_mir hV hB _ _ hS (by omega)]
  · rw [if_neg h0, if_neg h0]
end Go.Proofs.Ytmofipijjokjfaa
namespace Go.Proofs.Ytmofipijjokjfaa
open Go.ChangeShapes Go.WideShapes Go.ChangeAt Go.RowKit Go.Deep
set_option linter.unusedVariables false
def WaysCap (l : List Value) : Prop := ∀ A n c, l[3]? = some (Value.slice A n c) → n ≤ c
def PiecesCap (w : World) (A : Option Addr) (ps : List PieceM) : Prop :=
  ∃ vss : List (List Value), CellsAt w A vss.flatten ∧ vss.length = ps.length ∧ ∀ (i : Nat) (p : PieceM) (l : List Value), ps[i]? = some p → vss[i]? = some l → PieceVals w p l ∧ WaysCap l
theorem PiecesCap.at_ {w : World} {A : Option Addr} {ps : List PieceM} (h : PiecesCap w A ps) : PiecesAt w A ps := by
  obtain ⟨vss, h1, h2, h3⟩ := h
  exact ⟨vss, h1, h2, fun i p l a b => (h3 i p l a b).1⟩
theorem PiecesCap.ext {w w' : World} {A : Option Addr} {ps : List PieceM} (h : PiecesCap w A ps) (he : Ext w w') : PiecesCap w' A ps := by
  obtain ⟨vss, h1, h2, h3⟩ := h
  exact ⟨vss, h1.ext he, h2, fun i p l a b => ⟨(h3 i p l a b).1.ext he, (h3 i p l a b).2⟩⟩
def RulesCap (w : World) (v : Value) (R : RulesM) : Prop := ∃ cs pA n pc, v = .agg cs ∧ cs[3]? = some (Value.slice pA n pc) ∧ PiecesCap w pA R.pieces
section
variable {H : Type} {enc : TypeId × Value → H} {w : World} {spare : Nat → Bool} {held : Bool}
set_option maxRecDepth 100000 in
theorem piece_open2 {fuel : Nat} {cs : List Value} {x : DataW H × List MemPlace} (h : DataW.trod enc Try.prog w 0 spare held fuel 82 cs = some x) : ∃ m : PieceM, PieceVals w m cs ∧ WaysCap cs := by
  obtain ⟨xs, n, _, _, hlen, hxl, hg⟩ := DataW.trod_struct Try.underlying82 h
  have hlen' : cs.length = 4 := hlen.trans (by kernel_rfl)
  have hxl' : xs.length = 4 := hxl
  match cs, hlen' with
  | [c0, c1, c2, c3], _ =>
    have g0 := field_at (hg 0 _ rfl) (by omega)
    have g0' : DataW.trod enc Try.prog w 0 spare held n 5 [c0] = some xs[0] := g0
    obtain ⟨n0, e0, _⟩ := DataW.trod_int Try.underlying5 g0'
    injection e0 with e0 _
    subst e0
    have g1 := field_at (hg 1 _ rfl) (by omega)
    have g1' : DataW.trod enc Try.prog w 0 spare held n 3 [c1] = some xs[1] := g1
    obtain ⟨n1, e1⟩ := one_int g1'
    injection e1 with e1 _
    subst e1
    have g2 := field_at (hg 2 _ rfl) (by omega)
    have g2' : DataW.trod enc Try.prog w 0 spare held n 3 [c2] = some xs[2] := g2
    obtain ⟨n2, e2⟩ := one_int g2'
    injection e2 with e2 _
    subst e2
    have g3 := field_at (hg 3 _ rfl) (by omega)
    have g3' : DataW.trod enc Try.prog w 0 spare held n 80 [c3] = some xs[3] := g3
    obtain ⟨A3, m3, k3, ws, e3, hl, hw, hwc⟩ := ways_open g3'
    injection e3 with e3 _
    subst e3
    exact ⟨⟨n0, n1, n2, ws⟩, ⟨A3, k3, by show _ = [_, _, _, Value.slice A3 ws.length k3]; rw [hl], hw⟩, fun A n c h => by simp at h; omega⟩
theorem pieces_open2 {fuel : Nat} {cs : List Value} {x : DataW H × List MemPlace} (h : DataW.trod enc Try.prog w 0 spare held fuel 22 cs = some x) : ∃ A n c, ∃ ps : List PieceM, cs = [.slice A n c] ∧ ps.length = n ∧ PiecesCap w A ps ∧ n ≤ c := by
  obtain ⟨A, n, c, vss, ms, e, h1, h2, h3, h4, _, h5⟩ := slice_open (s := 4) (fun (m : PieceM) l => PieceVals w m l ∧ WaysCap l) Try.underlying22 (by kernel_rfl) (by omega) (fun _ _ _ h => piece_open2 h) h
  exact ⟨A, n, c, ms, e, h3, ⟨vss, h4, by omega, h5⟩, h1⟩
set_option maxRecDepth 100000 in
theorem rules_open2 {r : Reach} {b0 : Nat} {v : Value} {d : DataW H} {pl : List MemPlace} (hv : Value.okWide Try.prog w r b0 26 v) (h : DataW.Trod enc Try.prog w 0 spare held 26 v d pl) : ∃ R, RulesAt w v R ∧ RulesCap w v R := by
  obtain ⟨cs, rfl, hsz⟩ := okWide_struct Try.underlying26 hv
  obtain ⟨fuel, h⟩ := h
  obtain ⟨cs⟩ := cs
  obtain ⟨xs, n, _, _, hlen, hxl, hg⟩ := DataW.trod_struct Try.underlying26 h
  have hlen' : cs.length = 11 := hlen.trans (by kernel_rfl)
  have hxl' : xs.length = 11 := hxl
  match cs, hlen' with
  | [c0, c1, c2, c3, c4, c5, c6, c7, c8, c9, c10], _ =>
    have g0 := field_at (hg 0 _ rfl) (by omega)
    have g0' : DataW.trod enc Try.prog w 0 spare held n 9 [c0] = some xs[0] := g0
    obtain ⟨n0, e0, _, hsz0⟩ := DataW.trod_string Try.underlying9 g0'
    injection e0 with e0 _
    subst e0
    have g1 := field_at (hg 1 _ rfl) (by omega)
    have g1' : DataW.trod enc Try.prog w 0 spare held n 3 [c1] = some xs[1] := g1
    obtain ⟨n1, e1⟩ := one_int g1'
    injection e1 with e1 _
    subst e1
    have g2 := field_at (hg 2 _ rfl) (by omega)
    have g2' : DataW.trod enc Try.prog w 0 spare held n 3 [c2] = some xs[2] := g2
    obtain ⟨n2, e2⟩ := one_int g2'
    injection e2 with e2 _
    subst e2
    have g3 := field_at (hg 3 _ rfl) (by omega)
    have g3' : DataW.trod enc Try.prog w 0 spare held n 22 [c3] = some xs[3] := g3
    obtain ⟨A3, m3, k3, l3, e3, hl3, hw3, hc3⟩ := pieces_open2 g3'
    injection e3 with e3 _
    subst e3
    subst hl3
    have g4 := field_at (hg 4 _ rfl) (by omega)
    have g4' : DataW.trod enc Try.prog w 0 spare held n 23 [c4] = some xs[4] := g4
    obtain ⟨A4, m4, k4, l4, e4, hl4, hw4, hc4⟩ := ints_open g4'
    injection e4 with e4 _
    subst e4
    subst hl4
    have g5 := field_at (hg 5 _ rfl) (by omega)
    have g5' : DataW.trod enc Try.prog w 0 spare held n 4 [c5] = some xs[5] := g5
    obtain ⟨n5, e5, _⟩ := DataW.trod_bool Try.underlying4 g5'
    injection e5 with e5 _
    subst e5
    have g6 := field_at (hg 6 _ rfl) (by omega)
    have g6' : DataW.trod enc Try.prog w 0 spare held n 4 [c6] = some xs[6] := g6
    obtain ⟨n6, e6, _⟩ := DataW.trod_bool Try.underlying4 g6'
    injection e6 with e6 _
    subst e6
    have g7 := field_at (hg 7 _ rfl) (by omega)
    have g7' : DataW.trod enc Try.prog w 0 spare held n 24 [c7] = some xs[7] := g7
    obtain ⟨A7, m7, k7, l7, e7, hl7, hw7, hc7⟩ := ends_open g7'
    injection e7 with e7 _
    subst e7
    subst hl7
    have g8 := field_at (hg 8 _ rfl) (by omega)
    have g8' : DataW.trod enc Try.prog w 0 spare held n 3 [c8] = some xs[8] := g8
    obtain ⟨n8, e8⟩ := one_int g8'
    injection e8 with e8 _
    subst e8
    have g9 := field_at (hg 9 _ rfl) (by omega)
    have g9' : DataW.trod enc Try.prog w 0 spare held n 3 [c9] = some xs[9] := g9
    obtain ⟨n9, e9⟩ := one_int g9'
    injection e9 with e9 _
    subst e9
    have g10 := field_at (hg 10 _ rfl) (by omega)
    have g10' : DataW.trod enc Try.prog w 0 spare held n 3 [c10] = some xs[10] := g10
    obtain ⟨n10, e10⟩ := one_int g10'
    injection e10 with e10 _
    subst e10
    exact ⟨⟨n0, n1, n2, l3, l4, n5, n6, l7, n8, n9, n10⟩, ⟨A3, k3, A4, k4, A7, k7, rfl, hw3.at_, hw4, hw7, hc3, hc4, hc7, by simpa [maxLen] using hsz0⟩, _, A3, _, k3, rfl, rfl, hw3⟩
end
end Go.Proofs.Ytmofipijjokjfaa
namespace Go.Proofs.Ytmofipijjokjfaa
open Go.ChangeShapes Go.WideShapes Go.ChangeAt Go.RowKit
set_option linter.unusedVariables false
/-- The pieces below k are done (their ways from block B on), the others are as they were in w. -/
def HalfAt (w wr : World) (B : Nat) (ps : List PieceM) (k : Nat) (ls : List (List Value)) : Prop :=
  ls.length = ps.length ∧ ∀ (i : Nat) (p : PieceM) (l : List Value), ps[i]? = some p → ls[i]? = some l → (i < k → PieceOwn wr B (bothP p) l) ∧ (k ≤ i → PieceVals w p l ∧ WaysCap l)
theorem HalfAt.keep {w wr wr' : World} {B k : Nat} {ps : List PieceM} {ls : List (List Value)} (h : HalfAt w wr B ps k ls)
    (hk : ∀ (v : Value) (n : Nat) (xs : List Value), wr.ownsRow B 85 4 v n xs → wr'.ownsRow B 85 4 v n xs) : HalfAt w wr' B ps k ls :=
  ⟨h.1, fun i p l a b => ⟨fun hi => by
    obtain ⟨A, c, e, ho⟩ := (h.2 i p l a b).1 hi
    exact ⟨A, c, e, hk _ _ _ ho⟩, (h.2 i p l a b).2⟩⟩
theorem HalfAt.ext {w wr wr' : World} {B k : Nat} {ps : List PieceM} {ls : List (List Value)} (h : HalfAt w wr B ps k ls) (x : Ext wr wr') : HalfAt w wr' B ps k ls := h.keep fun _ _ _ ho => own_ext ho x
theorem HalfAt.step {w wr : World} {B k : Nat} {ps : List PieceM} {ls : List (List Value)} {q : PieceM} {l : List Value} (h : HalfAt w wr B ps k ls) (hq : ps[k]? = some q) (ho : PieceOwn wr B (bothP q) l) : HalfAt w wr B ps (k + 1) (ls.set k l) := by
  refine ⟨by simpa using h.1, fun i p l' a b => ?_⟩
  by_cases e : i = k
  · subst e
    rw [hq] at a
    injection a with a
    subst a
    have hlt : i < ls.length := by have := (List.getElem?_eq_some_iff.1 b).1; simpa using this
    rw [List.getElem?_set_self hlt] at b
    injection b with b
    subst b
    exact ⟨fun _ => ho, fun hi => absurd hi (by omega)⟩
  · rw [List.getElem?_set_ne (fun x => e x.symm)] at b
    exact ⟨fun hi => (h.2 i p l' a b).1 (by omega), fun hi => (h.2 i p l' a b).2 (by omega)⟩
theorem HalfAt.done {w wr : World} {B n : Nat} {ps : List PieceM} {ls : List (List Value)} {A : Option Addr} {c : Nat} (h : HalfAt w wr B ps n ls) (hn : ps.length = n) (ho : wr.ownsRow B 82 4 (.slice A n c) n ls.flatten) : PiecesAt wr A (ps.map bothP) := by
  refine ⟨ls, (own_cells ho).1, by simpa using h.1, fun i p l a b => ?_⟩
  rw [List.getElem?_map, Option.map_eq_some_iff] at a
  obtain ⟨q, hq, rfl⟩ := a
  have hi : i < n := by have := (List.getElem?_eq_some_iff.1 hq).1; omega
  obtain ⟨A', c', e, ho'⟩ := (h.2 i q l hq b).1 hi
  exact ⟨A', c', e, (own_cells ho').1⟩
theorem flat_set3 : ∀ (ls : List (List Value)) (k : Nat) (a b c d u : Value), (∀ l ∈ ls, l.length = 4) → ls[k]? = some [a, b, c, d] → ls.flatten.set (k * 4 + 3) u = (ls.set k [a, b, c, u]).flatten
  | [], k, _, _, _, _, _, _, h => by simp at h
  | l :: ls, 0, a, b, c, d, u, hl, h => by
    simp at h
    subst h
    rfl
  | l :: ls, k + 1, a, b, c, d, u, hl, h => by
    have h4 := hl l (List.mem_cons_self ..)
    match l, h4 with
    | [x0, x1, x2, x3], _ =>
      rw [List.set_cons_succ, List.flatten_cons, List.flatten_cons, ← flat_set3 ls k a b c d u (fun x hx => hl x (List.mem_cons_of_mem _ hx)) (by simpa using h), show (k + 1) * 4 + 3 = (k * 4 + 3) + 1 + 1 + 1 + 1 from by omega]
      rfl
theorem flat_at : ∀ (ls : List (List Value)) (k j : Nat) (l : List Value), (∀ l ∈ ls, l.length = 4) → ls[k]? = some l → j < 4 → ls.flatten[k * 4 + j]? = l[j]?
  | [], k, _, _, _, h, _ => by simp at h
  | x :: ls, 0, j, l, hl, h, hj => by
    simp at h
    subst h
    rw [List.flatten_cons, Nat.zero_mul, Nat.zero_add, List.getElem?_append_left (by rw [hl x (List.mem_cons_self ..)]; exact hj)]
  | x :: ls, k + 1, j, l, hl, h, hj => by
    have h4 := hl x (List.mem_cons_self ..)
    rw [List.flatten_cons, List.getElem?_append_right (by rw [h4]; omega), h4, show (k + 1) * 4 + j - 4 = k * 4 + j from by omega]
    exact flat_at ls k j l (fun y hy => hl y (List.mem_cons_of_mem _ hy)) (by simpa using h) hj
theorem HalfAt.four {w wr : World} {B k : Nat} {ps : List PieceM} {ls : List (List Value)} (h : HalfAt w wr B ps k ls) : ∀ l ∈ ls, l.length = 4 := by
  intro l hl
  obtain ⟨i, hi, rfl⟩ := List.mem_iff_getElem.1 hl
  have hp := List.getElem?_eq_getElem (l := ps) (i := i) (by rw [← h.1]; exact hi)
  have hx := h.2 i _ _ hp (List.getElem?_eq_getElem hi)
  by_cases e : i < k
  · obtain ⟨A, c, e, _⟩ := hx.1 e
    rw [e]; rfl
  · obtain ⟨⟨A, c, e, _⟩, _⟩ := hx.2 (by omega)
    rw [e]; rfl
theorem HalfAt.one {w wr : World} {B k : Nat} {ps : List PieceM} {ls : List (List Value)} (h : HalfAt w wr B ps k ls) : ∀ l ∈ ls, ∀ u ∈ l, u.oneCell' = true := by
  intro l hl u hu
  obtain ⟨i, hi, rfl⟩ := List.mem_iff_getElem.1 hl
  have hp := List.getElem?_eq_getElem (l := ps) (i := i) (by rw [← h.1]; exact hi)
  have hx := h.2 i _ _ hp (List.getElem?_eq_getElem hi)
  have key : ∀ (a b c d : Value), a.oneCell' = true → b.oneCell' = true → c.oneCell' = true → d.oneCell' = true → ls[i] = [a, b, c, d] → u.oneCell' = true := by
    intro a b c d ha hb hc hd e
    rw [e] at hu
    simp at hu
    rcases hu with rfl | rfl | rfl | rfl <;> assumption
  by_cases e : i < k
  · obtain ⟨A, c, e, _⟩ := hx.1 e
    exact key _ _ _ _ rfl rfl rfl rfl e
  · obtain ⟨⟨A, c, e, _⟩, _⟩ := hx.2 (by omega)
    exact key _ _ _ _ rfl rfl rfl rfl e
/-- The cells of piece k, not done yet. -/
theorem HalfAt.next {w wr : World} {B k n g c : Nat} {ps : List PieceM} {ls : List (List Value)} (h : HalfAt w wr B ps k ls) (ho : wr.ownsRow B 82 4 (.slice (some ⟨g, 0, none⟩) n c) n ls.flatten) (hn : ps.length = n) (hk : k < n) :
    ∃ q A c', ps[k]? = some q ∧ ls[k]? = some [.int .u8 q.letter, .int .i64 q.hand, .int .i64 q.promote, .slice A q.ways.length c'] ∧ WaysAt w A q.ways ∧ q.ways.length ≤ c' ∧ ∀ W, Ext wr W → W.cell? ⟨g, k * 4 + 3, none⟩ = some (.slice A q.ways.length c') := by
  have hp := List.getElem?_eq_getElem (l := ps) (i := k) (by omega)
  have hl := List.getElem?_eq_getElem (l := ls) (i := k) (by rw [h.1]; omega)
  obtain ⟨⟨A, c', e, hw⟩, hcap⟩ := (h.2 k _ _ hp hl).2 (Nat.le_refl _)
  rw [e] at hl
  refine ⟨_, A, c', hp, hl, hw, hcap _ _ _ (by rw [e]; rfl), fun W hW => ?_⟩
  rw [(own_ext ho hW).cellAt _ (by omega), flat_at ls k 3 _ h.four hl (by omega)]
  rfl
theorem CellsAt.left {w : World} {A : Option Addr} {xs ys : List Value} (h : CellsAt w A (xs ++ ys)) : CellsAt w A xs := fun i v hi => h i v (by rw [List.getElem?_append_left (List.getElem?_eq_some_iff.1 hi).1]; exact hi)
theorem ways_take {w : World} {A : Option Addr} {ws : List WayM} (h : WaysAt w A ws) (n : Nat) : WaysAt w A (ws.take n) := by
  unfold WaysAt at *
  rw [← List.take_append_drop n ws, List.flatMap_append] at h
  exact h.left
/-- The ways of piece k stored. -/
theorem HalfAt.put {w wr : World} {B k n g c : Nat} {ps : List PieceM} {ls : List (List Value)} {q : PieceM} {A0 A : Option Addr} {c0 c' : Nat} (h : HalfAt w wr B ps k ls) (ho : wr.ownsRow B 82 4 (.slice (some ⟨g, 0, none⟩) n c) n ls.flatten)
    (hq : ps[k]? = some q) (hl : ls[k]? = some [.int .u8 q.letter, .int .i64 q.hand, .int .i64 q.promote, .slice A0 q.ways.length c0]) (hw : wr.ownsRow B 85 4 (.slice A (bothW q.ways).length c') (bothW q.ways).length ((bothW q.ways).flatMap WayM.vals)) :
    ∃ ls', (wr.setCell ⟨g, k * 4 + 3, none⟩ (.slice A (bothW q.ways).length c')).ownsRow B 82 4 (.slice (some ⟨g, 0, none⟩) n c) n ls'.flatten ∧ HalfAt w (wr.setCell ⟨g, k * 4 + 3, none⟩ (.slice A (bothW q.ways).length c')) B ps (k + 1) ls' := by
  have hst := ho.stored (k * 4 + 3) (.slice A (bothW q.ways).length c')
  rw [flat_set3 ls k _ _ _ _ _ h.four hl] at hst
  have hne : ∀ (v : Value) (m : Nat) (xs : List Value), wr.ownsRow B 85 4 v m xs → (wr.setCell ⟨g, k * 4 + 3, none⟩ (.slice A (bothW q.ways).length c')).ownsRow B 85 4 v m xs := fun v m xs hv => own_set hv (p := ⟨g, k * 4 + 3, none⟩) (by
    rcases own_ne hv ho (by decide) with e | e
    · rw [e]; simp
    · exact e) _
  exact ⟨_, hst.1, (h.keep hne).step hq ⟨A, c', rfl, hne _ _ _ hw⟩⟩
/-- Block b is not older than the call. -/
def Above (w : World) (b : Nat) : Prop := w.heap.size ≤ b
theorem pos_parts {w : World} {P : PosM} {cA aA bA : Option Addr} {cc ac bc : Nat} (h : PosAt w (.agg #[.slice cA P.cells.length cc, .slice aA P.hand0.length ac, .slice bA P.hand1.length bc, .int .i64 P.turn, .int .i64 P.quiet]) P) :
    IntsAt w cA P.cells ∧ IntsAt w aA P.hand0 ∧ IntsAt w bA P.hand1 ∧ P.cells.length ≤ cc ∧ P.hand0.length ≤ ac ∧ P.hand1.length ≤ bc := by
  obtain ⟨_, _, _, _, _, _, e, h⟩ := h
  simp at e
  obtain ⟨⟨rfl, rfl⟩, ⟨rfl, rfl⟩, ⟨rfl, rfl⟩⟩ := e
  exact h
theorem rules_both {w w' : World} {R : RulesM} {n pc sc ec c9 : Nat} {pA sA eA G : Option Addr} (h : RulesAt w (.agg #[.string R.name, .int .i64 R.width, .int .i64 R.height, .slice pA n pc, .slice sA R.start.length sc, .bool R.falls, .bool R.keeps, .slice eA R.ends.length ec, .int .i64 R.blocked, .int .i64 R.quiet, .int .i64 R.rept]) R)
    (x : Ext w w') (hn : R.pieces.length = n) (hc : n ≤ c9) (hp : PiecesAt w' G (R.pieces.map bothP)) :
    RulesAt w' (.agg #[.string R.name, .int .i64 R.width, .int .i64 R.height, .slice G n c9, .slice sA R.start.length sc, .bool R.falls, .bool R.keeps, .slice eA R.ends.length ec, .int .i64 R.blocked, .int .i64 R.quiet, .int .i64 R.rept]) (bothR R) := by
  obtain ⟨_, _, _, _, _, _, e, -, hI, hE, -, hs, he, hnm⟩ := h
  simp at e
  obtain ⟨-, ⟨rfl, rfl⟩, ⟨rfl, rfl⟩⟩ := e
  exact ⟨G, c9, sA, sc, eA, ec, by rw [both_len, hn]; rfl, hp, hI.ext x, CellsAt.ext hE x, by rw [both_len, hn]; exact hc, hs, he, hnm⟩
theorem pos_mir {w : World} {R : RulesM} {P : PosM} {aA bA : Option Addr} {ac bc g n : Nat} {t : TypeId} (hr : Row w g t (movedL R.width R.height 1 P.cells)) (h0 : IntsAt w aA P.hand0) (h1 : IntsAt w bA P.hand1) (l0 : P.hand0.length ≤ ac) (l1 : P.hand1.length ≤ bc) (hn : P.cells.length = n) :
    PosAt w (.agg #[.slice (some ⟨g, 0, none⟩) n n, .slice aA P.hand0.length ac, .slice bA P.hand1.length bc, .int .i64 P.turn, .int .i64 P.quiet]) (mirP (bothR R) P) := by
  have hl : (mirP (bothR R) P).cells.length = n := by rw [mir_len, hn]
  exact ⟨some ⟨g, 0, none⟩, n, aA, ac, bA, bc, by rw [hl]; rfl, hr.ints, h0, h1, by rw [hl]; exact Nat.le_refl _, l0, l1⟩
end Go.Proofs.Ytmofipijjokjfaa
