/- Walks over the package moves: puts. Walks over the package moves: way. Plain facts for the walk of moves.List. -/
import Derived.Test.YtdoibgmmijhlfaaMovesW3a
import Derived.Test.YtdoibgmmijhlfaaMovesW3b
import Derived.Test.YtdoibgmmijhlfaaMovesW2a
import Derived.Test.YtdoibgmmijhlfaaMovesW2b
import Derived.Test.YtdoibgmmijhlfaaMovesSort
import Derived.Test.YtdoibgmmijhlfaaGCompact
namespace Go.Proofs.Ytdoibgmmijhlfaa
open Go.ChangeShapes Go.WideShapes Go.ChangeAt Go.RowKit Go.Shelf
set_option linter.unusedVariables false
theorem puts_any (R : RulesM) (P : PosM) (v u : Value) (w : World) (hR : RulesAt w v R) (hP : PosAt w u P) (hV : Valid R) (hS : Sound R P) :
    Calls Try.prog 67 #[v, u] w (MovesPost w (putsM R P)) := by
  rcases hS.turn with h | h
  · exact puts_core0 R P v u w hR hP hV hS h
  · exact puts_core1 R P v u w hR hP hV hS h
end Go.Proofs.Ytdoibgmmijhlfaa
namespace Go.Proofs.Ytdoibgmmijhlfaa
open Go.ChangeShapes Go.WideShapes Go.ChangeAt Go.RowKit Go.Shelf
set_option linter.unusedVariables false
theorem way_any (R : RulesM) (P : PosM) (v u : Value) (s : Nat) (x : WayM) (w : World) (hR : RulesAt w v R) (hP : PosAt w u P) (hV : Valid R) (hS : Sound R P) (hs : s < P.cells.length) (hx : wayB x = true) :
    Calls Try.prog 68 #[v, u, .int .i64 (s : Int), .agg #[.int .i64 x.dx, .int .i64 x.dy, .int .i64 x.most, .int .i64 x.take]] w (WayPost w (wayM R P s x)) := by
  obtain ⟨pA, pc, sA, sc, eA, ec, rfl, -⟩ := hR
  obtain ⟨cA, cc, aA, ac, bA, bc, rfl, hc, -⟩ := hP
  obtain ⟨b1, b2, b3, b4⟩ := wayB_bd hx
  unfold wayM
  have h6 := hV.pieces6
  have hb : ∀ c ∈ P.cells, 0 ≤ c ∧ c ≤ 12 := fun c h => ⟨(hS.cells c h).1, by have := (hS.cells c h).2; omega⟩
  rcases hS.turn with h | h
  · rw [h, if_neg (by omega)]
    exact way_core0 _ _ _ _ _ _ _ _ _ _ _ _ _ _ _ _ _ _ _ _ _ _ _ _ _ _ _ _ _ _ _ s w hV.side b1 b2 b3 b4 hS.area hs hb hc
  · rw [h, if_pos rfl]
    exact way_core1 _ _ _ _ _ _ _ _ _ _ _ _ _ _ _ _ _ _ _ _ _ _ _ _ _ _ _ _ _ _ _ s w hV.side b1 b2 b3 b4 hS.area hs hb hc
end Go.Proofs.Ytdoibgmmijhlfaa
namespace Go.Proofs.Ytdoibgmmijhlfaa
open Go.ChangeShapes Go.WideShapes Go.ChangeAt Go.RowKit Go.Shelf
set_option linter.unusedVariables false
theorem stepsToM_succ (R : RulesM) (P : PosM) (k : Nat) : stepsToM R P (k + 1) = stepsToM R P k ++ stepsAt R P k := by
  unfold stepsToM
  rw [List.range_succ, List.flatMap_append]
  simp
theorem stepsAt_not {R : RulesM} {P : PosM} {k : Nat} (h : ownB P k = false) : stepsAt R P k = [] := by unfold stepsAt; rw [h]; rfl
theorem stepsAt_own {R : RulesM} {P : PosM} {k kk : Nat} {p : PieceM} (h : ownB P k = true) (e : (P.cells.getD k 0 - 1) / 2 = (kk : Int)) (hp : R.pieces[kk]? = some p) : stepsAt R P k = stepsBy R P k kk p.promote p.ways := by
  unfold stepsAt
  rw [if_pos h, e, Int.toNat_natCast, hp]
theorem stepsBy_succ {R : RulesM} {P : PosM} {s k j : Nat} {pr : Int} {ws : List WayM} {x : WayM} (h : ws[j]? = some x) : stepsBy R P s k pr (ws.take (j + 1)) = stepsBy R P s k pr (ws.take j) ++ (wayM R P s x).map (stepTo R P s k pr) := by
  unfold stepsBy
  rw [List.take_add_one, h, List.flatMap_append]
  simp
theorem wayFrom_len (W H turn take dx dy : Int) (cs : List Int) : ∀ n x y, (wayFrom W H turn take dx dy cs n x y).length ≤ n
  | 0, _, _ => by simp [wayFrom]
  | n + 1, x, y => by
    have := wayFrom_len W H turn take dx dy cs n (x + dx) (y + dy)
    unfold wayFrom
    split
    · simp
    · rw [List.length_append]
      split <;> split <;> simp <;> omega
theorem wayFrom_mem (W H turn take dx dy : Int) (cs : List Int) : ∀ n x y, ∀ t ∈ wayFrom W H turn take dx dy cs n x y, 0 ≤ t ∧ t < W * H
  | 0, _, _, t, h => by simp [wayFrom] at h
  | n + 1, x, y, t, h => by
    unfold wayFrom at h
    split at h
    · simp at h
    · rename_i hb
      have hq := sq_mk (a := W) (b := H) (x := x + dx) (y := y + dy) (by omega) (by omega) (by omega) (by omega)
      rw [List.mem_append] at h
      rcases h with h | h
      · split at h
        · simp at h; rw [h]; exact hq
        · simp at h
      · split at h
        · exact wayFrom_mem W H turn take dx dy cs n _ _ t h
        · simp at h
theorem wayM_len {R : RulesM} {P : PosM} {s : Nat} {x : WayM} (h : wayB x = true) : (wayM R P s x).length ≤ 7 := by
  have := wayFrom_len R.width R.height P.turn x.take x.dx (if P.turn = 1 then -x.dy else x.dy) P.cells x.most.toNat ((s : Int) % R.width) ((s : Int) / R.width)
  have hb := (wayB_bd h).2.2.1
  unfold wayM
  omega
theorem wayM_mem {R : RulesM} {P : PosM} {s : Nat} {x : WayM} {t : Int} (h : t ∈ wayM R P s x) : 0 ≤ t ∧ t < R.width * R.height := wayFrom_mem _ _ _ _ _ _ _ _ _ _ t h
theorem stepsBy_len {R : RulesM} {P : PosM} {s k : Nat} {pr : Int} : ∀ {ws : List WayM}, (∀ x ∈ ws, wayB x = true) → (stepsBy R P s k pr ws).length ≤ 7 * ws.length
  | [], _ => by simp [stepsBy]
  | x :: ws, h => by
    have h1 := wayM_len (R := R) (P := P) (s := s) (h x (by simp))
    have h2 := stepsBy_len (R := R) (P := P) (s := s) (k := k) (pr := pr) (ws := ws) (fun y hy => h y (by simp [hy]))
    unfold stepsBy at *
    rw [List.flatMap_cons, List.length_append, List.length_map, List.length_cons]
    omega
theorem piece_get {R : RulesM} (hV : Valid R) {kk : Nat} {p : PieceM} (h : R.pieces[kk]? = some p) : (0 ≤ p.promote ∧ p.promote ≤ 6) ∧ p.ways.length ≤ 16 ∧ ∀ x ∈ p.ways, wayB x = true := by
  have := piece_facts hV.piece (List.mem_of_getElem? h)
  have h6 := hV.pieces6
  exact ⟨by omega, this.2.2.2.1, this.2.2.2.2⟩
theorem stepsAt_len {R : RulesM} {P : PosM} (hV : Valid R) (k : Nat) : (stepsAt R P k).length ≤ 112 := by
  unfold stepsAt
  split
  · cases hp : R.pieces[((P.cells.getD k 0 - 1) / 2).toNat]? with
    | none => simp
    | some p =>
      obtain ⟨_, h1, h2⟩ := piece_get hV hp
      have := stepsBy_len (R := R) (P := P) (s := k) (k := ((P.cells.getD k 0 - 1) / 2).toNat) (pr := p.promote) h2
      simp only
      omega
  · simp
theorem stepsToM_len {R : RulesM} {P : PosM} (hV : Valid R) : ∀ k, (stepsToM R P k).length ≤ 112 * k
  | 0 => by simp [stepsToM]
  | k + 1 => by
    have h1 := stepsToM_len (P := P) hV k
    have h2 := stepsAt_len (P := P) hV k
    rw [stepsToM_succ, List.length_append]
    omega
theorem putsM_len {R : RulesM} {P : PosM} (hV : Valid R) (hS : Sound R P) : (putsM R P).length ≤ 384 := by
  have h6 := hV.pieces6
  have hh : P.hand.length ≤ 6 := by
    unfold PosM.hand
    split
    · rw [hS.len0]; exact h6
    · rw [hS.len1]; exact h6
  have har := area_bd _ _ hV.side
  have ha := hS.area
  have := putsTo_len R P hh P.cells.length
  unfold putsM
  omega
theorem OwnI.kept {w0 w1 w w' : World} {tv v : Value} {T : List Int} {L : List MoveM} (h : OwnI w0 w tv T) (hg : w.grownBy w' v.ownBlock) (hm : OwnM w1 w v L) : OwnI w0 w' tv T := by
  obtain ⟨A, c, rfl, h⟩ := h
  obtain ⟨B, d, rfl, hm⟩ := hm
  exact ⟨A, c, rfl, h.kept hg (own_ne h hm (by decide))⟩
theorem wp_append_move_at {ops : Array Oper} {rest : List Oper} {o : Oper} {a : Act} {Q : Exit → Act → World → Prop} (s x : Operand) (hgd : o.guard = none)
    (ho : o.op = .call { callee := .builtin .append, args := #[s, x], argTypes := #[89, 89] }) (w0 w : World) (v : Value) (xs : List MoveM) (m : MoveM) (hs : a.eval s = v) (hown : OwnM w0 w v xs) (H : Nat) (hx : a.eval x = .slice (some ⟨H, 0, none⟩) 1 1) (hH : w.heap.size = H)
    (hext : Ext w0 w) (hlen : xs.length ≤ 1000000) (h : ∀ v' w', OwnM w0 w' v' (xs ++ [m]) → Ext w0 w' → w.grownBy w' v.ownBlock → wpList Try.prog ops Q rest (a.put o.dst v') w') :
    wpList Try.prog ops Q (o :: rest) a (w.alloc (.cells #[.int .i64 m.src, .int .i64 m.dst, .int .i64 m.piece] 37)) := by
  subst hH
  exact wp_append_move s x hgd ho w0 w v xs m hs hown hx hext hlen h
theorem ownB_true {P : PosM} {k : Nat} {z : Int} (h : P.cells.getD k 0 = z) (h0 : z ≠ 0) (h1 : (z - 1) % 2 = P.turn) : ownB P k = true := by
  unfold ownB; rw [h]; simp [h0, h1]
theorem ownB_false {P : PosM} {k : Nat} {z : Int} (h : P.cells.getD k 0 = z) (h0 : z = 0 ∨ (z - 1) % 2 ≠ P.turn) : ownB P k = false := by
  unfold ownB; rw [h]; rcases h0 with h0 | h0 <;> simp [h0]
end Go.Proofs.Ytdoibgmmijhlfaa
