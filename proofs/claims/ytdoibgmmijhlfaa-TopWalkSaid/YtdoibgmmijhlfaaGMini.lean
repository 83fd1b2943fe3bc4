/- The scores of minimax, as plain data. No program. Minimax at any greater depth, and the first best move, as plain data. No program. Walks: minimax.Nearer, Over. Walks: minimax.First, and Of at every depth. What minimax.Score, Best answer, as plain data. Walks: Score, Best. The moves of Line, one by one, and the move that wins, as plain data. No program. -/
import Derived.Test.YtdoibgmmijhlfaaGPerft
namespace Go.Proofs.Ytdoibgmmijhlfaa
set_option linter.unusedVariables false
theorem moves_open {R : RulesM} {P : PosM} (hT : P.turn = 0 ∨ P.turn = 1) (h : resultM R P = 0) : listM R P ≠ [] := by
  intro he
  unfold resultM at h
  split at h
  · split at h <;> omega
  · unfold restM at h
    rw [he] at h
    split at h
    · omega
    · rw [if_neg (by simp)] at h
      split at h
      · omega
      · split at h <;> omega
theorem turn_make {R : RulesM} {P : PosM} (hT : P.turn = 0 ∨ P.turn = 1) (m : MoveM) : (makeM R P m).turn = 0 ∨ (makeM R P m).turn = 1 := by
  have e : (makeM R P m).turn = 1 - P.turn := rfl
  omega
def nearM (n : Int) : Int := if 0 < n then n - 1 else if n < 0 then n + 1 else 0
def overM (P : PosM) (x : Int) : Int := if x = 1 + P.turn then 1000 else if x = 2 - P.turn then -1000 else 0
/-- The first best of the moves by f; a holds what was best so far. -/
def bestL (f : MoveM → Int) : MoveM × Int → List MoveM → MoveM × Int
  | a, [] => a
  | a, m :: l => bestL f (if a.2 < f m then (m, f m) else a) l
def ofM (R : RulesM) : Nat → PosM → Int
  | 0, P => if resultM R P = 0 then 0 else overM P (resultM R P)
  | d + 1, P => if resultM R P = 0 then (bestL (fun m => nearM (-(ofM R d (makeM R P m)))) (⟨0, 0, 0⟩, -2000) (listM R P)).2 else overM P (resultM R P)
theorem bestL_append (f : MoveM → Int) : ∀ (l : List MoveM) (a : MoveM × Int) (m : MoveM), bestL f a (l ++ [m]) = if (bestL f a l).2 < f m then (m, f m) else bestL f a l
  | [], a, m => rfl
  | x :: l, a, m => bestL_append f l _ m
theorem bestL_mem (f : MoveM → Int) : ∀ (l : List MoveM) (a : MoveM × Int), bestL f a l = a ∨ ∃ m ∈ l, bestL f a l = (m, f m)
  | [], a => .inl rfl
  | x :: l, a => by
    rcases bestL_mem f l (if a.2 < f x then (x, f x) else a) with h | ⟨m, hm, h⟩
    · by_cases hc : a.2 < f x
      · rw [if_pos hc] at h
        exact .inr ⟨x, by simp, by show bestL f (if a.2 < f x then (x, f x) else a) l = _; rw [if_pos hc]; exact h⟩
      · rw [if_neg hc] at h
        exact .inl (by show bestL f (if a.2 < f x then (x, f x) else a) l = _; rw [if_neg hc]; exact h)
    · exact .inr ⟨m, by simp [hm], h⟩
theorem bestL_ge (f : MoveM → Int) : ∀ (l : List MoveM) (a : MoveM × Int), a.2 ≤ (bestL f a l).2 ∧ ∀ m ∈ l, f m ≤ (bestL f a l).2
  | [], a => ⟨Int.le_refl _, by simp⟩
  | x :: l, a => by
    have ih := bestL_ge f l (if a.2 < f x then (x, f x) else a)
    have h : a.2 ≤ (if a.2 < f x then (x, f x) else a).2 ∧ f x ≤ (if a.2 < f x then (x, f x) else a).2 := by
      split
      · exact ⟨by simp only; omega, Int.le_refl _⟩
      · exact ⟨Int.le_refl _, by omega⟩
    refine ⟨Int.le_trans h.1 ih.1, fun m hm => ?_⟩
    rcases List.mem_cons.1 hm with rfl | hm
    · exact Int.le_trans h.2 ih.1
    · exact ih.2 m hm
/-- The best value of a list that is not empty is that of one of its moves. -/
theorem bestL_of {f : MoveM → Int} {l : List MoveM} {a : MoveM × Int} (hl : l ≠ []) (h : ∀ m ∈ l, a.2 < f m) : ∃ m ∈ l, bestL f a l = (m, f m) := by
  rcases bestL_mem f l a with e | e
  · obtain ⟨x, hx⟩ := List.exists_mem_of_ne_nil l hl
    have h1 := (bestL_ge f l a).2 x hx
    have h2 := h x hx
    rw [e] at h1
    omega
  · exact e
def boundB (d : Nat) (n : Int) : Prop := n = 0 ∨ (1000 - (d : Int) ≤ n ∧ n ≤ 1000) ∨ (-1000 ≤ n ∧ n ≤ (d : Int) - 1000)
theorem near_bound {d : Nat} {n : Int} (hd : d ≤ 100) (h : boundB d n) : boundB (d + 1) (nearM (-n)) := by
  unfold nearM boundB at *
  split
  · omega
  · split <;> omega
theorem over_bound (P : PosM) (x : Int) (d : Nat) : boundB d (overM P x) := by
  unfold overM boundB
  split
  · omega
  · split <;> omega
/-- A score that is not 0 tells after how many moves, at most d, the game ends. -/
theorem of_bound (R : RulesM) : ∀ d P, (P.turn = 0 ∨ P.turn = 1) → d ≤ 100 → boundB d (ofM R d P)
  | 0, P, _, _ => by
    unfold ofM
    split
    · exact .inl rfl
    · exact over_bound P _ 0
  | d + 1, P, hT, hd => by
    unfold ofM
    split
    · rename_i h
      have hb := fun m => near_bound (d := d) (by omega) (of_bound R d (makeM R P m) (turn_make hT m) (by omega))
      obtain ⟨m, hm, e⟩ := bestL_of (f := fun m => nearM (-(ofM R d (makeM R P m)))) (a := (⟨0, 0, 0⟩, -2000)) (moves_open hT h) (fun m _ => by
        have := hb m
        unfold boundB at this
        show (-2000 : Int) < nearM (-(ofM R d (makeM R P m)))
        omega)
      rw [e]
      exact hb m
    · exact over_bound P _ _
theorem of_over {R : RulesM} {P : PosM} (h : resultM R P ≠ 0) : ∀ d, ofM R d P = overM P (resultM R P)
  | 0 => if_neg h
  | _ + 1 => if_neg h
theorem of_open {R : RulesM} {P : PosM} (h : resultM R P = 0) (d : Nat) : ofM R (d + 1) P = (bestL (fun m => nearM (-(ofM R d (makeM R P m)))) (⟨0, 0, 0⟩, -2000) (listM R P)).2 := if_pos h
/-- What is found stays, with the same score; what is found anew at depth d + 1 ends after just as many moves. -/
theorem of_step (R : RulesM) : ∀ (d : Nat) (P : PosM), (P.turn = 0 ∨ P.turn = 1) → d + 1 ≤ 100 → (ofM R d P ≠ 0 → ofM R (d + 1) P = ofM R d P) ∧ (ofM R d P = 0 → ofM R (d + 1) P = 0 ∨ ofM R (d + 1) P = 1000 - ((d : Int) + 1) ∨ ofM R (d + 1) P = (d : Int) + 1 - 1000) := by
  intro d
  induction d with
  | zero =>
    intro P hT _
    by_cases h : resultM R P = 0
    · have e0 : ofM R 0 P = 0 := if_pos h
      refine ⟨fun hn => absurd e0 hn, fun _ => ?_⟩
      have hv : ∀ m, nearM (-(ofM R 0 (makeM R P m))) = 0 ∨ nearM (-(ofM R 0 (makeM R P m))) = 999 ∨ nearM (-(ofM R 0 (makeM R P m))) = -999 := fun m => by
        unfold ofM overM nearM
        repeat' split
        all_goals omega
      obtain ⟨m, _, e⟩ := bestL_of (f := fun m => nearM (-(ofM R 0 (makeM R P m)))) (a := (⟨0, 0, 0⟩, -2000)) (moves_open hT h) (fun m _ => by
        have := hv m
        show (-2000 : Int) < nearM (-(ofM R 0 (makeM R P m)))
        omega)
      rw [of_open h, e]
      have := hv m
      show nearM (-(ofM R 0 (makeM R P m))) = 0 ∨ nearM (-(ofM R 0 (makeM R P m))) = _ ∨ nearM (-(ofM R 0 (makeM R P m))) = _
      omega
    · have e := of_over h
      exact ⟨fun _ => by rw [e, e], fun h0 => .inl (by rw [e] at h0 ⊢; exact h0)⟩
  | succ d ih =>
    intro P hT hd
    by_cases h : resultM R P = 0
    · have B := fun m => of_bound R d (makeM R P m) (turn_make hT m) (by omega)
      have I := fun m => ih (makeM R P m) (turn_make hT m) (by omega)
      obtain ⟨f, hf⟩ : ∃ f : MoveM → Int, f = fun m => nearM (-(ofM R d (makeM R P m))) := ⟨_, rfl⟩
      obtain ⟨g, hg⟩ : ∃ g : MoveM → Int, g = fun m => nearM (-(ofM R (d + 1) (makeM R P m))) := ⟨_, rfl⟩
      have hfg : ∀ m, (f m = 0 ∨ (1000 - ((d : Int) + 1) ≤ f m ∧ f m ≤ 1000) ∨ (-1000 ≤ f m ∧ f m ≤ (d : Int) + 1 - 1000)) ∧ (f m ≠ 0 → g m = f m) ∧ (f m = 0 → g m = 0 ∨ g m = 1000 - ((d : Int) + 2) ∨ g m = (d : Int) + 2 - 1000) := fun m => by
        have b := B m
        obtain ⟨i1, i2⟩ := I m
        rw [hf, hg]
        simp only
        generalize ofM R d (makeM R P m) = x at *
        generalize ofM R (d + 1) (makeM R P m) = y at *
        unfold boundB at b
        by_cases hx : x = 0
        · have := i2 hx
          subst hx
          have e : nearM (-(0 : Int)) = 0 := by decide
          refine ⟨.inl e, fun hn => absurd e hn, fun _ => ?_⟩
          unfold nearM
          repeat' split
          all_goals omega
        · have := i1 hx
          subst this
          unfold nearM
          repeat' split
          all_goals omega
      rw [of_open h, of_open h, ← hf, ← hg]
      obtain ⟨m, hm, e⟩ := bestL_of (f := f) (a := (⟨0, 0, 0⟩, -2000)) (moves_open hT h) (fun m _ => by have := (hfg m).1; show (-2000 : Int) < f m; omega)
      obtain ⟨n, hn, e'⟩ := bestL_of (f := g) (a := (⟨0, 0, 0⟩, -2000)) (moves_open hT h) (fun m _ => by obtain ⟨a1, a2, a3⟩ := hfg m; show (-2000 : Int) < g m; by_cases hz : f m = 0 <;> omega)
      have g1 := (bestL_ge f (listM R P) (⟨0, 0, 0⟩, -2000)).2 n hn
      have g2 := (bestL_ge g (listM R P) (⟨0, 0, 0⟩, -2000)).2 m hm
      rw [e] at g1
      rw [e'] at g2
      rw [e, e']
      simp only at g1 g2 ⊢
      obtain ⟨a1, a2, a3⟩ := hfg m
      obtain ⟨b1, b2, b3⟩ := hfg n
      push_cast
      by_cases hm0 : f m = 0 <;> by_cases hn0 : f n = 0
      all_goals (constructor <;> intro _ <;> omega)
    · have e := of_over h
      exact ⟨fun _ => by rw [e, e], fun h0 => .inl (by rw [e] at h0 ⊢; exact h0)⟩
end Go.Proofs.Ytdoibgmmijhlfaa
namespace Go.Proofs.Ytdoibgmmijhlfaa
set_option linter.unusedVariables false
/-- A score that is found stays at each greater depth. -/
theorem of_more {R : RulesM} {P : PosM} (hT : P.turn = 0 ∨ P.turn = 1) {d : Nat} (h : ofM R d P ≠ 0) : ∀ k, d + k ≤ 100 → ofM R (d + k) P = ofM R d P
  | 0, _ => rfl
  | k + 1, hk => by
    have ih := of_more hT h k (by omega)
    have := (of_step R (d + k) P hT (by omega)).1 (by rw [ih]; exact h)
    rw [← ih, ← this]; rfl
/-- The first best move of an open position, and its score. -/
def firstM (R : RulesM) (d : Nat) (P : PosM) : MoveM × Int := bestL (fun m => nearM (-(ofM R d (makeM R P m)))) (⟨0, 0, 0⟩, -2000) (listM R P)
theorem first_score {R : RulesM} {P : PosM} (h : resultM R P = 0) (d : Nat) : (firstM R d P).2 = ofM R (d + 1) P := (of_open h d).symm
theorem first_mem {R : RulesM} {P : PosM} (hT : P.turn = 0 ∨ P.turn = 1) (h : resultM R P = 0) {d : Nat} (hd : d ≤ 99) : (firstM R d P).1 ∈ listM R P ∧ (firstM R d P).2 = nearM (-(ofM R d (makeM R P (firstM R d P).1))) := by
  have hb := fun m => near_bound (d := d) (by omega) (of_bound R d (makeM R P m) (turn_make hT m) (by omega))
  obtain ⟨m, hm, e⟩ := bestL_of (f := fun m => nearM (-(ofM R d (makeM R P m)))) (a := (⟨0, 0, 0⟩, -2000)) (moves_open hT h) (fun m _ => by
    have := hb m
    unfold boundB at this
    show (-2000 : Int) < nearM (-(ofM R d (makeM R P m)))
    omega)
  have e' : firstM R d P = (m, nearM (-(ofM R d (makeM R P m)))) := e
  rw [e']
  exact ⟨hm, rfl⟩
/-- The moves of both players, to depth d. -/
def lineM (R : RulesM) : Nat → PosM → List MoveM
  | 0, _ => []
  | d + 1, P => if resultM R P = 0 then (firstM R d P).1 :: lineM R d (makeM R P (firstM R d P).1) else []
def endM (R : RulesM) (P : PosM) (l : List MoveM) : PosM := l.foldl (makeM R) P
/-- A score of the position that is k moves later. -/
def backM : Nat → Int → Int
  | 0, n => n
  | k + 1, n => nearM (-(backM k n))
theorem line_score (R : RulesM) : ∀ d P, (P.turn = 0 ∨ P.turn = 1) → d ≤ 100 → (lineM R d P).length ≤ d ∧ backM (lineM R d P).length (ofM R (d - (lineM R d P).length) (endM R P (lineM R d P))) = ofM R d P
  | 0, P, _, _ => ⟨Nat.le_refl _, rfl⟩
  | d + 1, P, hT, hd => by
    by_cases h : resultM R P = 0
    · have e : lineM R (d + 1) P = (firstM R d P).1 :: lineM R d (makeM R P (firstM R d P).1) := if_pos h
      have f := first_mem hT h (d := d) (by omega)
      have g := first_score (R := R) h d
      obtain ⟨i1, i2⟩ := line_score R d (makeM R P (firstM R d P).1) (turn_make hT _) (by omega)
      rw [e, List.length_cons]
      refine ⟨by omega, ?_⟩
      rw [Nat.add_sub_add_right, ← g, f.2]
      show nearM (-(backM _ (ofM R _ (endM R (makeM R P (firstM R d P).1) _)))) = _
      rw [i2]
    · have e : lineM R (d + 1) P = [] := if_neg h
      rw [e]
      exact ⟨Nat.zero_le _, rfl⟩
end Go.Proofs.Ytdoibgmmijhlfaa
namespace Go.Proofs.Ytdoibgmmijhlfaa
open Go.ChangeShapes Go.WideShapes Go.ChangeAt Go.RowKit Go.Shelf
set_option linter.unusedVariables false
set_option linter.unusedSimpArgs false
theorem Nearer_any (n : Int) (w : World) (h0 : -2000 ≤ n) (h1 : n ≤ 2000) : Calls Try.prog 117 #[.int .i64 n] w fun e w' => e = .returned (.int .i64 (nearM n)) ∧ Ext w w' := by
  by_cases hp : 0 < n
  · have t0 : decide (0 < n) = true := by simpa using hp
    have hw : IntKind.i64.wrap (n - 1) = n - 1 := by rw [IntKind.wrap_i64]; omega
    rw [show nearM n = n - 1 from if_pos hp]
    clear hp
    go_enter Try.func117, Try.ntmps117
    go_wp2
    go_ret
    exact ⟨rfl, Below.refl _ _⟩
  · have t0 : decide (0 < n) = false := by simpa using hp
    by_cases hn : n < 0
    · have t1 : decide (n < 0) = true := by simpa using hn
      have hw : IntKind.i64.wrap (n + 1) = n + 1 := by rw [IntKind.wrap_i64]; omega
      rw [show nearM n = n + 1 from (if_neg hp).trans (if_pos hn)]
      clear hp hn
      go_enter Try.func117, Try.ntmps117
      go_wp2
      go_ret
      exact ⟨rfl, Below.refl _ _⟩
    · have t1 : decide (n < 0) = false := by simpa using hn
      rw [show nearM n = 0 from (if_neg hp).trans (if_neg hn)]
      clear hp hn
      go_enter Try.func117, Try.ntmps117
      go_wp2
      go_ret
      exact ⟨rfl, Below.refl _ _⟩
set_option maxHeartbeats 2000000 in
set_option maxRecDepth 100000 in
theorem Over_any (P : PosM) (u : Value) (x : Int) (w : World) (hP : PosAt w u P) (hT : P.turn = 0 ∨ P.turn = 1) : Calls Try.prog 79 #[u, .int .i64 x] w fun e w' => e = .returned (.int .i64 (overM P x)) ∧ Ext w w' := by
  obtain ⟨cA, cc, aA, ac, bA, bc, rfl, -⟩ := hP
  obtain ⟨x1, k1⟩ := blks1 w #[.slice cA P.cells.length cc, .slice aA P.hand0.length ac, .slice bA P.hand1.length bc, .int .i64 P.turn, .int .i64 P.quiet] 29
  have HX := hide x1
  have f1 := k1.cell
  clear x1 k1
  have hw1 : IntKind.i64.wrap (1 + P.turn) = 1 + P.turn := by rw [IntKind.wrap_i64]; omega
  have hw2 : IntKind.i64.wrap (2 - P.turn) = 2 - P.turn := by rw [IntKind.wrap_i64]; omega
  clear hT
  by_cases hp : x = 1 + P.turn
  · have t0 : (x == 1 + P.turn) = true := by simpa using hp
    rw [show overM P x = 1000 from if_pos hp]
    clear hp
    go_enter Try.func79, Try.ntmps79
    go_wp2
    go_ret
    exact ⟨rfl, HX.out⟩
  · have t0 : (x == 1 + P.turn) = false := by simpa using hp
    by_cases hn : x = 2 - P.turn
    · have t1 : (x == 2 - P.turn) = true := by simpa using hn
      rw [show overM P x = -1000 from (if_neg hp).trans (if_pos hn)]
      clear hp hn
      go_enter Try.func79, Try.ntmps79
      go_wp2
      go_ret
      exact ⟨rfl, HX.out⟩
    · have t1 : (x == 2 - P.turn) = false := by simpa using hn
      rw [show overM P x = 0 from (if_neg hp).trans (if_neg hn)]
      clear hp hn
      go_enter Try.func79, Try.ntmps79
      go_wp2
      go_ret
      exact ⟨rfl, HX.out⟩
/-- The contract of Of at depth d. -/
def OfAt (R : RulesM) (d : Nat) : Prop := ∀ (P : PosM) (v u : Value) (D : Int) (w : World), D = d → Sound R P → RulesAt w v R → PosAt w u P → Calls Try.prog 43 #[v, u, .int .i64 D] w fun e w' => e = .returned (.int .i64 (ofM R d P)) ∧ Ext w w'
def FirstAt (R : RulesM) (d : Nat) : Prop := ∀ (P : PosM) (v u : Value) (D : Int) (w : World), D = d + 1 → Sound R P → RulesAt w v R → PosAt w u P → Calls Try.prog 80 #[v, u, .int .i64 D] w fun e w' => e = .returned (.tuple #[.agg #[.int .i64 (firstM R d P).1.src, .int .i64 (firstM R d P).1.dst, .int .i64 (firstM R d P).1.piece], .int .i64 (firstM R d P).2]) ∧ Ext w w'
set_option maxHeartbeats 2000000 in
set_option maxRecDepth 100000 in
theorem Of_core (R : RulesM) (hV : Valid R) (d : Nat) (hF : ∀ k, d = k + 1 → FirstAt R k) : OfAt R d := by
  intro P v u D w hD hS hR hP
  have HF := hide (fun k (hk : d = k + 1) W (hW : Ext w W) => hF k hk P v u D W (by omega) hS (hR.ext hW) (hP.ext hW))
  have HRS := hide (fun W (hW : Ext w W) => Result_any R P v u W (hR.ext hW) (hP.ext hW) hV hS)
  have HOV := hide (fun W (hW : Ext w W) => Over_any P u (resultM R P) W (hP.ext hW) hS.turn)
  obtain ⟨pA, pc, sA, sc, eA, ec, rfl, -⟩ := hR
  obtain ⟨cA, cc, aA, ac, bA, bc, rfl, -⟩ := hP
  obtain ⟨x1, k1, k2⟩ := blks2 w #[.string R.name, .int .i64 R.width, .int .i64 R.height, .slice pA R.pieces.length pc, .slice sA R.start.length sc, .bool R.falls, .bool R.keeps, .slice eA R.ends.length ec, .int .i64 R.blocked, .int .i64 R.quiet, .int .i64 R.rept] 26 #[.slice cA P.cells.length cc, .slice aA P.hand0.length ac, .slice bA P.hand1.length bc, .int .i64 P.turn, .int .i64 P.quiet] 29
  have HX := hide x1
  have K1 := hide k1
  have K2 := hide k2
  clear x1 k1 k2
  have f1 := K1.out.cell
  have f2 := K2.out.cell
  by_cases hz : resultM R P = 0
  · rw [hz] at HRS
    rcases d with _ | k
    · obtain rfl : D = 0 := by omega
      rw [show ofM R 0 P = 0 from if_pos hz]
      clear hz hF HF HOV hS hV hD
      go_enter Try.func43, Try.ntmps43
      go_wp2_with fail
      refine (HRS.out _ HX.out).mono ?_
      rintro e w2 ⟨rfl, x2⟩
      have X2 := hide (ext_trans HX.out x2)
      clear f1 f2 x2
      go_wp2
      go_ret
      exact ⟨rfl, X2.out⟩
    · have HF2 := hide (HF.out k rfl)
      have HE := hide (first_score hz k)
      have t0 : (D == 0) = false := by simp; omega
      clear hz hF HF HOV hS hV
      generalize ofM R (k + 1) P = z at *
      generalize firstM R k P = y at *
      clear hD
      go_enter Try.func43, Try.ntmps43
      go_wp2_with fail
      refine (HRS.out _ HX.out).mono ?_
      rintro e w2 ⟨rfl, x2⟩
      have X2 := hide (ext_trans HX.out x2)
      have g1 := (K1.out.ext x2).cell
      have g2 := (K2.out.ext x2).cell
      clear f1 f2 x2
      go_wp2_with fail
      refine (HF2.out _ X2.out).mono ?_
      rintro e w3 ⟨rfl, x3⟩
      have X3 := hide (ext_trans X2.out x3)
      clear g1 g2 x3
      go_wp2
      go_ret
      exact ⟨by rw [HE.out]; rfl, ext_alloc X3.out _⟩
  · rw [show ofM R d P = overM P (resultM R P) from of_over hz d]
    have t0 : (resultM R P != 0) = true := by simpa using hz
    clear hz hF HF hS hV hD
    generalize overM P (resultM R P) = y at *
    generalize resultM R P = z at *
    go_enter Try.func43, Try.ntmps43
    go_wp2_with fail
    refine (HRS.out _ HX.out).mono ?_
    rintro e w2 ⟨rfl, x2⟩
    have X2 := hide (ext_trans HX.out x2)
    have g1 := (K1.out.ext x2).cell
    have g2 := (K2.out.ext x2).cell
    clear f1 f2 x2
    go_wp2_with fail
    refine (HOV.out _ X2.out).mono ?_
    rintro e w3 ⟨rfl, x3⟩
    have X3 := hide (ext_trans X2.out x3)
    clear g1 g2 x3
    go_wp2
    go_ret
    exact ⟨rfl, X3.out⟩
end Go.Proofs.Ytdoibgmmijhlfaa
namespace Go.Proofs.Ytdoibgmmijhlfaa
open Go.ChangeShapes Go.WideShapes Go.ChangeAt Go.RowKit Go.Shelf
set_option linter.unusedVariables false
set_option linter.unusedSimpArgs false
theorem bestL_take {f : MoveM → Int} {a : MoveM × Int} {L : List MoveM} {k : Nat} {m : MoveM} (h : L[k]? = some m) : bestL f a (L.take (k + 1)) = if (bestL f a (L.take k)).2 < f m then (m, f m) else bestL f a (L.take k) := by
  rw [List.take_add_one, h]
  exact bestL_append f _ a m
set_option maxHeartbeats 4000000 in
set_option maxRecDepth 100000 in
theorem First_core (R : RulesM) (hV : Valid R) (d : Nat) (hd : d ≤ 20) (hO : OfAt R d) : FirstAt R d := by
  intro P v u D w hD hS hR hP
  obtain ⟨f, hf⟩ : ∃ f : MoveM → Int, ∀ m, f m = nearM (-(ofM R d (makeM R P m))) := ⟨_, fun _ => rfl⟩
  have HFE : Hid (firstM R d P = bestL f (⟨0, 0, 0⟩, -2000) (listM R P)) := hide (by rw [show f = fun m => nearM (-(ofM R d (makeM R P m))) from funext hf]; rfl)
  have HFM := hide hf
  have HBD := hide (fun m => of_bound R d (makeM R P m) (turn_make hS.turn m) (by omega))
  have HMK := hide (fun m (hm : m ∈ listM R P) W (hW : Ext w W) => Make_any R P m v u W (hR.ext hW) (hP.ext hW) hV hS (mem_listM.1 hm))
  have HOF := hide (fun m (hm : m ∈ listM R P) W (v' : Value) (hW : Ext w W) (h : PosAt W v' (makeM R P m)) => hO (makeM R P m) v v' (D - 1) W (by omega) (sound_make hV hS (mem_listM.1 hm)) (hR.ext hW) h)
  have HLI := hide (fun W (hW : Ext w W) => List_any R P v u W (hR.ext hW) (hP.ext hW) hV hS)
  have HLL := hide (listM_len hV hS)
  have hwd : IntKind.i64.wrap (D - 1) = D - 1 := by
    have : D ≤ 21 := by omega
    rw [IntKind.wrap_i64]; omega
  obtain ⟨pA, pc, sA, sc, eA, ec, rfl, -⟩ := hR
  obtain ⟨cA, cc, aA, ac, bA, bc, rfl, -⟩ := hP
  have HDD := hide hd
  clear hV hS hO hf hD hd
  generalize firstM R d P = Y at *
  generalize hL : listM R P = L at *
  clear hL
  obtain ⟨x1, k1, k2, k3, k4⟩ := blks4 w #[.string R.name, .int .i64 R.width, .int .i64 R.height, .slice pA R.pieces.length pc, .slice sA R.start.length sc, .bool R.falls, .bool R.keeps, .slice eA R.ends.length ec, .int .i64 R.blocked, .int .i64 R.quiet, .int .i64 R.rept] 26 #[.slice cA P.cells.length cc, .slice aA P.hand0.length ac, .slice bA P.hand1.length bc, .int .i64 P.turn, .int .i64 P.quiet] 29 #[.int .i64 0, .int .i64 0, .int .i64 0] 37 #[.int .i64 0, .int .i64 0, .int .i64 0] 37
  have X1 := hide x1
  have K1 := hide k1
  have K2 := hide k2
  have K3 := hide k3
  have K4 := hide k4
  clear x1 k1 k2 k3 k4
  have f1 := K1.out.cell
  have f2 := K2.out.cell
  go_enter Try.func80, Try.ntmps80
  go_wp2_with fail
  refine (HLI.out _ X1.out).mono ?_
  rintro e w2 ⟨v5, rfl, own5, x2⟩
  have HNE : Hid (w.heap.size ≠ w.heap.size + 1 + 1 + 1 ∧ w.heap.size + 1 ≠ w.heap.size + 1 + 1 + 1 ∧ w.heap.size + 1 + 1 ≠ w.heap.size + 1 + 1 + 1 ∧ w.heap.size ≤ w.heap.size + 1 + 1 + 1 ∧ w.heap.size ≤ w.heap.size + 1 + 1) := hide (by omega)
  have X2 := hide (ext_trans X1.out x2)
  have FM := hide (far_moves own5 K4.out.lt)
  obtain ⟨A5, c5, rfl, -⟩ := own5
  have KR := hide (K1.out.ext x2)
  have KP := hide (K2.out.ext x2)
  have KO := hide (K3.out.ext x2)
  have KB := hide (K4.out.ext x2)
  clear f1 f2 x2 X1 K1 K2 K3 K4 HLI
  generalize w.heap.size + 1 + 1 + 1 = BB at *
  generalize w.heap.size + 1 + 1 = BO at *
  generalize w.heap.size + 1 = BP at *
  generalize hBR : w.heap.size = BR at *
  have HBR := hide hBR
  clear hBR
  have HX2 : Hid (∀ W, Gr BB w2 W → Ext w W) := hide (fun W h => h.to_ext X2.out (by rw [HBR.out]; exact HNE.out.2.2.2.1))
  have hll := HLL.out
  go_wp2
  go_loopw [9, 17] (fun n i wr => ∃ k : Nat, k ≤ L.length ∧ i = .int .i64 k ∧ n = .int .i64 (bestL f (⟨0, 0, 0⟩, -2000) (L.take k)).2 ∧ Blk wr BB 37 #[.int .i64 (bestL f (⟨0, 0, 0⟩, -2000) (L.take k)).1.src, .int .i64 (bestL f (⟨0, 0, 0⟩, -2000) (L.take k)).1.dst, .int .i64 (bestL f (⟨0, 0, 0⟩, -2000) (L.take k)).1.piece] ∧ Gr BB w2 wr) (fun _ i _ => L.length - (intOf i).toNat)
  case atStart => exact ⟨0, Nat.zero_le _, rfl, rfl, KB.out, Gr.refl _⟩
  case round =>
    obtain ⟨k, hk, rfl, rfl, kB, gr⟩ := hrel
    by_cases hlt : k < L.length
    · obtain ⟨m, hm⟩ : ∃ m, L[k]? = some m := ⟨L[k], List.getElem?_eq_getElem _⟩
      have HBT := hide (bestL_take (f := f) (a := (⟨0, 0, 0⟩, -2000)) hm)
      have hmv := FM.out wr gr
      obtain ⟨A', c', e', hc'⟩ := hmv
      obtain ⟨b, o, rfl, m0, m1, m2⟩ := moves_get hc' hm
      simp only [Value.slice.injEq] at e'
      obtain ⟨rfl, -, rfl⟩ := e'
      have hml := List.mem_of_getElem? hm
      have HMK2 := hide (HMK.out m hml)
      have HOF2 := hide (HOF.out m hml)
      have hb := HBD.out m
      have hfm := HFM.out m
      generalize makeM R P m = Q at *
      generalize ofM R d Q = z at *
      have HZ : Hid (-1000 ≤ z ∧ z ≤ 1000 ∧ f m = nearM (-z)) := hide ⟨by have := HDD.out; unfold boundB at hb; omega, by have := HDD.out; unfold boundB at hb; omega, hfm⟩
      have hwn : IntKind.i64.wrap (-z) = -z := by have := HZ.out; rw [IntKind.wrap_i64]; omega
      have HNE2 : Hid (∀ W, Calls Try.prog 117 #[.int .i64 (-z)] W fun e w' => e = .returned (.int .i64 (f m)) ∧ Ext W w') := hide (fun W => by rw [HZ.out.2.2]; exact Nearer_any (-z) W (by have := HZ.out; omega) (by have := HZ.out; omega))
      generalize f m = q at *
      generalize bestL f (⟨0, 0, 0⟩, -2000) (L.take k) = y at *
      clear hb hfm hml hm hc'
      go_upto_region 6 with fail
      obtain ⟨xm, km⟩ := blks1 wr #[.int .i64 m.src, .int .i64 m.dst, .int .i64 m.piece] 37
      have X5 := hide (ext_trans (HX2.out wr gr) xm)
      have KR5 := hide ((KR.out.blk' gr HNE.out.1).ext xm)
      have KP5 := hide ((KP.out.blk' gr HNE.out.2.1).ext xm)
      have KM5 := hide km
      have KB5 := hide (kB.ext xm)
      have G5 := hide (gr.ext xm)
      clear xm km kB gr m0 m1 m2
      generalize wr.alloc (.cells #[.int .i64 m.src, .int .i64 m.dst, .int .i64 m.piece] 37) = w5 at *
      generalize wr.heap.size = BM at *
      have keepK := hide (fun W (h : Ext w5 W) => (show (fun W => W.cell? ⟨BR, 0, none⟩ = some (.string R.name) ∧ W.cell? ⟨BR, 1, none⟩ = some (.int .i64 R.width) ∧ W.cell? ⟨BR, 2, none⟩ = some (.int .i64 R.height) ∧ W.cell? ⟨BR, 3, none⟩ = some (.slice pA R.pieces.length pc) ∧ W.cell? ⟨BR, 4, none⟩ = some (.slice sA R.start.length sc) ∧ W.cell? ⟨BR, 5, none⟩ = some (.bool R.falls) ∧ W.cell? ⟨BR, 6, none⟩ = some (.bool R.keeps) ∧ W.cell? ⟨BR, 7, none⟩ = some (.slice eA R.ends.length ec) ∧ W.cell? ⟨BR, 8, none⟩ = some (.int .i64 R.blocked) ∧ W.cell? ⟨BR, 9, none⟩ = some (.int .i64 R.quiet) ∧ W.cell? ⟨BR, 10, none⟩ = some (.int .i64 R.rept) ∧ W.cell? ⟨BP, 0, none⟩ = some (.slice cA P.cells.length cc) ∧ W.cell? ⟨BP, 1, none⟩ = some (.slice aA P.hand0.length ac) ∧ W.cell? ⟨BP, 2, none⟩ = some (.slice bA P.hand1.length bc) ∧ W.cell? ⟨BP, 3, none⟩ = some (.int .i64 P.turn) ∧ W.cell? ⟨BP, 4, none⟩ = some (.int .i64 P.quiet) ∧ W.cell? ⟨BM, 0, none⟩ = some (.int .i64 m.src) ∧ W.cell? ⟨BM, 1, none⟩ = some (.int .i64 m.dst) ∧ W.cell? ⟨BM, 2, none⟩ = some (.int .i64 m.piece) ∧ Ext w5 W) W from ⟨(KR5.out.ext h).cell 0, (KR5.out.ext h).cell 1, (KR5.out.ext h).cell 2, (KR5.out.ext h).cell 3, (KR5.out.ext h).cell 4, (KR5.out.ext h).cell 5, (KR5.out.ext h).cell 6, (KR5.out.ext h).cell 7, (KR5.out.ext h).cell 8, (KR5.out.ext h).cell 9, (KR5.out.ext h).cell 10, (KP5.out.ext h).cell 0, (KP5.out.ext h).cell 1, (KP5.out.ext h).cell 2, (KP5.out.ext h).cell 3, (KP5.out.ext h).cell 4, (KM5.out.ext h).cell 0, (KM5.out.ext h).cell 1, (KM5.out.ext h).cell 2, h⟩))
      have yy : Ext w5 w5.drew := Below.drew (Below.refl _ _)
      refine region_K (fun W => W.cell? ⟨BR, 0, none⟩ = some (.string R.name) ∧ W.cell? ⟨BR, 1, none⟩ = some (.int .i64 R.width) ∧ W.cell? ⟨BR, 2, none⟩ = some (.int .i64 R.height) ∧ W.cell? ⟨BR, 3, none⟩ = some (.slice pA R.pieces.length pc) ∧ W.cell? ⟨BR, 4, none⟩ = some (.slice sA R.start.length sc) ∧ W.cell? ⟨BR, 5, none⟩ = some (.bool R.falls) ∧ W.cell? ⟨BR, 6, none⟩ = some (.bool R.keeps) ∧ W.cell? ⟨BR, 7, none⟩ = some (.slice eA R.ends.length ec) ∧ W.cell? ⟨BR, 8, none⟩ = some (.int .i64 R.blocked) ∧ W.cell? ⟨BR, 9, none⟩ = some (.int .i64 R.quiet) ∧ W.cell? ⟨BR, 10, none⟩ = some (.int .i64 R.rept) ∧ W.cell? ⟨BP, 0, none⟩ = some (.slice cA P.cells.length cc) ∧ W.cell? ⟨BP, 1, none⟩ = some (.slice aA P.hand0.length ac) ∧ W.cell? ⟨BP, 2, none⟩ = some (.slice bA P.hand1.length bc) ∧ W.cell? ⟨BP, 3, none⟩ = some (.int .i64 P.turn) ∧ W.cell? ⟨BP, 4, none⟩ = some (.int .i64 P.quiet) ∧ W.cell? ⟨BM, 0, none⟩ = some (.int .i64 m.src) ∧ W.cell? ⟨BM, 1, none⟩ = some (.int .i64 m.dst) ∧ W.cell? ⟨BM, 2, none⟩ = some (.int .i64 m.piece) ∧ Ext w5 W) (fun _ => True) [] (by kernel_rfl) ?_
      have hT0 := keepK.out _ yy
      refine anyK_take 0 (oi := ?oo1) ?ho1 (by kernel_rfl) (by kernel_rfl) (by kernel_rfl) (by kernel_rfl) ?hq1 ?hw1 hT0 (fun _ => trivial) (v := ?vv1) ?hy1 ?hk1
      case ho1 => (simp only [List.getElem?_toArray, List.getElem?_cons_succ, List.getElem?_cons_zero]; rfl)
      case hq1 => exact fun _ _ _ h => h
      case hw1 => rfl
      case hy1 =>
        intro W hW
        obtain ⟨z0, z1, z2, z3, z4, z5, z6, z7, z8, z9, z10, z11, z12, z13, z14, z15, z16, z17, z18, z19⟩ := hW
        go_simp
        first | done | with_reducible rfl
      case hk1 =>
      try simp only [Act.put, List.setIfInBounds_toArray, List.set_cons_zero, List.set_cons_succ]
      refine anyK_take 1 (oi := ?oo2) ?ho2 (by kernel_rfl) (by kernel_rfl) (by kernel_rfl) (by kernel_rfl) ?hq2 ?hw2 hT0 (fun _ => trivial) (v := ?vv2) ?hy2 ?hk2
      case ho2 => (simp only [List.getElem?_toArray, List.getElem?_cons_succ, List.getElem?_cons_zero]; rfl)
      case hq2 => exact fun _ _ _ h => h
      case hw2 => rfl
      case hy2 =>
        intro W hW
        obtain ⟨z0, z1, z2, z3, z4, z5, z6, z7, z8, z9, z10, z11, z12, z13, z14, z15, z16, z17, z18, z19⟩ := hW
        go_simp
        first | done | with_reducible rfl
      case hk2 =>
      try simp only [Act.put, List.setIfInBounds_toArray, List.set_cons_zero, List.set_cons_succ]
      refine anyK_take 2 (oi := ?oo3) ?ho3 (by kernel_rfl) (by kernel_rfl) (by kernel_rfl) (by kernel_rfl) ?hq3 ?hw3 hT0 (fun _ => trivial) (v := ?vv3) ?hy3 ?hk3
      case ho3 => (simp only [List.getElem?_toArray, List.getElem?_cons_succ, List.getElem?_cons_zero]; rfl)
      case hq3 => exact fun _ _ _ h => h
      case hw3 => rfl
      case hy3 =>
        intro W hW
        obtain ⟨z0, z1, z2, z3, z4, z5, z6, z7, z8, z9, z10, z11, z12, z13, z14, z15, z16, z17, z18, z19⟩ := hW
        go_simp
        first | done | with_reducible rfl
      case hk3 =>
      try simp only [Act.put, List.setIfInBounds_toArray, List.set_cons_zero, List.set_cons_succ]
      refine anyK_take 3 (oi := ?oo4) ?ho4 (by kernel_rfl) (by kernel_rfl) (by kernel_rfl) (by kernel_rfl) ?hq4 ?hw4 hT0 (fun _ => trivial) (v := ?vv4) ?hy4 ?hk4
      case ho4 => (simp only [List.getElem?_toArray, List.getElem?_cons_succ, List.getElem?_cons_zero]; rfl)
      case hq4 => exact fun _ _ _ h => h
      case hw4 => rfl
      case hy4 =>
        intro W hW
        obtain ⟨z0, z1, z2, z3, z4, z5, z6, z7, z8, z9, z10, z11, z12, z13, z14, z15, z16, z17, z18, z19⟩ := hW
        go_simp
        first | done | with_reducible rfl
      case hk4 =>
      try simp only [Act.put, List.setIfInBounds_toArray, List.set_cons_zero, List.set_cons_succ]
      refine anyK_take 5 (oi := ?oo5) ?ho5 (by kernel_rfl) (by kernel_rfl) (by kernel_rfl) (by kernel_rfl) ?hq5 ?hw5 hT0 (fun _ => trivial) (v := ?vv5) ?hy5 ?hk5
      case ho5 => (simp only [List.getElem?_toArray, List.getElem?_cons_succ, List.getElem?_cons_zero]; rfl)
      case hq5 => exact fun _ _ _ h => h
      case hw5 => rfl
      case hy5 =>
        intro W hW
        go_simp
        first | done | with_reducible rfl
      case hk5 =>
      try simp only [Act.put, List.setIfInBounds_toArray, List.set_cons_zero, List.set_cons_succ]
      refine anyK_take 6 (oi := ?oo6) ?ho6 (by kernel_rfl) (by kernel_rfl) (by kernel_rfl) (by kernel_rfl) ?hq6 ?hw6 hT0 (fun _ => trivial) (v := ?vv6) ?hy6 ?hk6
      case ho6 => (simp only [List.getElem?_toArray, List.getElem?_cons_succ, List.getElem?_cons_zero]; rfl)
      case hq6 => exact fun _ _ _ h => h
      case hw6 => rfl
      case hy6 =>
        intro W hW
        go_simp
        first | done | with_reducible rfl
      case hk6 =>
      try simp only [Act.put, List.setIfInBounds_toArray, List.set_cons_zero, List.set_cons_succ]
      refine anyK_on1 4 (by kernel_rfl) ?_
      refine anyK_one 4 (o := ?oo7) ?ho7 ?hk7
      case ho7 => (simp only [List.getElem?_toArray, List.getElem?_cons_succ, List.getElem?_cons_zero]; rfl)
      case hk7 =>
      intro K hK
      go_simp
      refine (HMK2.out _ (ext_trans X5.out yy)).mono ?_
      rintro e wk ⟨v6, rfl, hp6, xx⟩
      try go_wp2_with fail
      replace yy := ext_trans yy xx
      replace hp6 := hp6.at_
      have HP6 := hide hp6
      clear hp6
      have hT1 := keepK.out _ yy
      refine hK.out _ _ hT1 (fun _ => trivial) ?_
      clear hK K
      try simp only [Act.put, List.setIfInBounds_toArray, List.set_cons_zero, List.set_cons_succ]
      refine anyK_on1 7 (by kernel_rfl) ?_
      refine anyK_one 7 (o := ?oo8) ?ho8 ?hk8
      case ho8 => (simp only [List.getElem?_toArray, List.getElem?_cons_succ, List.getElem?_cons_zero]; rfl)
      case hk8 =>
      intro K hK
      go_simp
      refine (HOF2.out _ _ (ext_trans X5.out yy) HP6.out).mono ?_
      rintro e wz ⟨rfl, xx⟩
      try go_wp2_with fail
      replace yy := ext_trans yy xx
      have hT2 := keepK.out _ yy
      refine hK.out _ _ hT2 (fun _ => trivial) ?_
      clear hK K
      try simp only [Act.put, List.setIfInBounds_toArray, List.set_cons_zero, List.set_cons_succ]
      refine anyK_take 8 (oi := ?oo9) ?ho9 (by kernel_rfl) (by kernel_rfl) (by kernel_rfl) (by kernel_rfl) ?hq9 ?hw9 hT2 (fun _ => trivial) (v := ?vv9) ?hy9 ?hk9
      case ho9 => (simp only [List.getElem?_toArray, List.getElem?_cons_succ, List.getElem?_cons_zero]; rfl)
      case hq9 => exact fun _ _ _ h => h
      case hw9 => rfl
      case hy9 =>
        intro W hW
        go_simp
        first | done | with_reducible rfl
      case hk9 =>
      try simp only [Act.put, List.setIfInBounds_toArray, List.set_cons_zero, List.set_cons_succ]
      refine anyK_on1 9 (by kernel_rfl) ?_
      refine anyK_one 9 (o := ?oo10) ?ho10 ?hk10
      case ho10 => (simp only [List.getElem?_toArray, List.getElem?_cons_succ, List.getElem?_cons_zero]; rfl)
      case hk10 =>
      intro K hK
      go_simp
      refine (HNE2.out _).mono ?_
      rintro e wy ⟨rfl, xx⟩
      try go_wp2_with fail
      replace yy := ext_trans yy xx
      have hT3 := keepK.out _ yy
      refine hK.out _ _ hT3 (fun _ => trivial) ?_
      clear hK K
      try simp only [Act.put, List.setIfInBounds_toArray, List.set_cons_zero, List.set_cons_succ]
      refine anyK_take 10 (oi := ?oo11) ?ho11 (by kernel_rfl) (by kernel_rfl) (by kernel_rfl) (by kernel_rfl) ?hq11 ?hw11 hT3 (fun _ => trivial) (v := ?vv11) ?hy11 ?hk11
      case ho11 => (simp only [List.getElem?_toArray, List.getElem?_cons_succ, List.getElem?_cons_zero]; rfl)
      case hq11 => exact fun _ _ _ h => h
      case hw11 => rfl
      case hy11 =>
        intro W hW
        go_simp
        first | done | with_reducible rfl
      case hk11 =>
      try simp only [Act.put, List.setIfInBounds_toArray, List.set_cons_zero, List.set_cons_succ]
      refine anyK_done (by kernel_rfl) ?_ _
      clear keepK hT0 hT1 hT2 hT3
      have KB6 := hide (KB5.out.ext yy)
      have KM6 := hide (KM5.out.ext yy)
      have G6 := hide (G5.out.ext yy)
      clear KB5 KM5 G5 KR5 KP5 X5 yy xx hwn
      generalize hwy : wy = w6 at *
      clear hwy
      by_cases hq : y.2 < q
      · have t0 : decide (y.2 < q) = true := by simpa using hq
        have HB2 := hide (HBT.out.trans (if_pos hq))
        clear HBT hq
        have g1 := KM6.out.cell
        have g2 := KB6.out.frozen
        have g3 := KB6.out.cell
        go_wp2
        clear g1 g2 g3
        go_roundw
        case rel => exact ⟨k + 1, by omega, by go_num, by rw [HB2.out], by rw [HB2.out]; exact blk_put (i := 2) (blk_put (i := 1) (blk_put (i := 0) KB6.out rfl) rfl) rfl, ((G6.out.set 0 _).set 1 _).set 2 _⟩
        case measure => simp [intOf]; omega
      · have t0 : decide (y.2 < q) = false := by simpa using hq
        have HB2 := hide (HBT.out.trans (if_neg hq))
        clear HBT hq
        go_wp2
        go_roundw
        case rel => exact ⟨k + 1, by omega, by go_num, by rw [HB2.out], by rw [HB2.out]; exact KB6.out, G6.out⟩
        case measure => simp [intOf]; omega
    · obtain rfl : k = L.length := by omega
      rw [List.take_length, ← HFE.out] at kB ⊢
      have KB6 := hide kB
      have KO6 := hide (KO.out.blk' gr HNE.out.2.2.1)
      have X6 := hide (HX2.out wr gr)
      have HLO : Hid (w.heap.size ≤ BO) := hide (by rw [HBR.out]; exact HNE.out.2.2.2.2)
      clear kB gr hk hlt
      have g1 := KB6.out.cell
      have g2 := KO6.out.frozen
      have g3 := KO6.out.cell
      go_wp2
      have K := blk_put (i := 2) (u := .int .i64 Y.1.piece) (blk_put (i := 1) (u := .int .i64 Y.1.dst) (blk_put (i := 0) (u := .int .i64 Y.1.src) KO6.out rfl) rfl) (cs' := #[.int .i64 Y.1.src, .int .i64 Y.1.dst, .int .i64 Y.1.piece]) rfl
      have X := ext_set (ext_set (ext_set X6.out (p := ⟨BO, 0, none⟩) HLO.out (.int .i64 Y.1.src)) (p := ⟨BO, 1, none⟩) HLO.out (.int .i64 Y.1.dst)) (p := ⟨BO, 2, none⟩) HLO.out (.int .i64 Y.1.piece)
      generalize ((wr.setCell ⟨BO, 0, none⟩ (.int .i64 Y.1.src)).setCell ⟨BO, 1, none⟩ (.int .i64 Y.1.dst)).setCell ⟨BO, 2, none⟩ (.int .i64 Y.1.piece) = Wf at *
      have rr0 : Wf.cell? ⟨BO, 0, none⟩ = some (.int .i64 Y.1.src) := K.cell 0
      have rr1 : Wf.cell? ⟨BO, 1, none⟩ = some (.int .i64 Y.1.dst) := K.cell 1
      have rr2 : Wf.cell? ⟨BO, 2, none⟩ = some (.int .i64 Y.1.piece) := K.cell 2
      refine bodyPost_ret (v := .tuple #[.agg #[.int .i64 Y.1.src, .int .i64 Y.1.dst, .int .i64 Y.1.piece], .int .i64 Y.2]) ?_ rfl ?_
      · simp [results, Try.results80, go_sem, rr0, rr1, rr2]
      · exact ⟨rfl, X⟩
theorem of_any (R : RulesM) (hV : Valid R) : ∀ d : Nat, d ≤ 20 → OfAt R d
  | 0, _ => Of_core R hV 0 (fun k h => by cases h)
  | d + 1, hd => Of_core R hV (d + 1) (fun k h => by
      obtain rfl : d = k := by omega
      exact First_core R hV d (by omega) (of_any R hV d (by omega)))
theorem first_any (R : RulesM) (hV : Valid R) (d : Nat) (hd : d ≤ 20) : FirstAt R d := First_core R hV d hd (of_any R hV d hd)
end Go.Proofs.Ytdoibgmmijhlfaa
namespace Go.Proofs.Ytdoibgmmijhlfaa
open Go.ChangeShapes Go.WideShapes Go.ChangeAt Go.RowKit Go.Shelf
set_option linter.unusedVariables false
set_option linter.unusedSimpArgs false
def scoreM (R : RulesM) (P : PosM) (D : Int) : Int := if perftE R P D = 0 then ofM R D.toNat P else 0
def bestE (R : RulesM) (P : PosM) (D : Int) : Int := if perftE R P D ≠ 0 then perftE R P D else if D = 0 then 1 else if resultM R P ≠ 0 then 14 else 0
def bestY (R : RulesM) (P : PosM) (D : Int) : MoveM × Int := if bestE R P D = 0 then firstM R (D.toNat - 1) P else (⟨0, 0, 0⟩, 0)
theorem perft_zero {R : RulesM} {P : PosM} {D : Int} (h : perftE R P D = 0) : Valid R ∧ Sound R P ∧ 0 ≤ D ∧ D ≤ 12 ∧ treeM R D.toNat P ≤ 50000 := by
  have hck : checkE R P = 0 := by
    by_cases hc : checkE R P = 0
    · exact hc
    · exact absurd h (by rw [(perftE_chk hc).1]; exact hc)
  by_cases ha : D < 0 ∨ 12 < D
  · exact absurd h (by rw [(perftE_arg hck ha).1]; decide)
  · by_cases ht : 50000 < treeM R D.toNat P
    · exact absurd h (by rw [(perftE_bound hck ha ht).1]; decide)
    · obtain ⟨hV, hS⟩ := check_iff.1 hck
      exact ⟨hV, hS, by omega, by omega, by omega⟩
set_option maxHeartbeats 2000000 in
set_option maxRecDepth 100000 in
theorem MScore_any (R : RulesM) (P : PosM) (v u : Value) (D : Int) (w : World) (hR : RulesAt w v R) (hP : PosAt w u P) :
    Calls Try.prog 13 #[v, u, .int .i64 D] w fun e w' => e = .returned (.tuple #[.int .i64 (scoreM R P D), .int .i64 (perftE R P D)]) ∧ Ext w w' := by
  have HT := hide (fun W (hW : Ext w W) => PfTree_any R P v u D W (hR.ext hW) (hP.ext hW))
  have HRF := hide (fun W (hW : Ext w W) => And.intro (hR.ext hW) (hP.ext hW))
  obtain ⟨pA, pc, sA, sc, eA, ec, rfl, -⟩ := hR
  obtain ⟨cA, cc, aA, ac, bA, bc, rfl, -⟩ := hP
  obtain ⟨x1, k1, k2⟩ := blks2 w #[.string R.name, .int .i64 R.width, .int .i64 R.height, .slice pA R.pieces.length pc, .slice sA R.start.length sc, .bool R.falls, .bool R.keeps, .slice eA R.ends.length ec, .int .i64 R.blocked, .int .i64 R.quiet, .int .i64 R.rept] 26 #[.slice cA P.cells.length cc, .slice aA P.hand0.length ac, .slice bA P.hand1.length bc, .int .i64 P.turn, .int .i64 P.quiet] 29
  have HX := hide x1
  have K1 := hide k1
  have K2 := hide k2
  clear x1 k1 k2
  have f1 := K1.out.cell
  have f2 := K2.out.cell
  by_cases hz : perftE R P D = 0
  · obtain ⟨hV, hS, d0, d1, -⟩ := perft_zero hz
    have HO := hide (fun W (hW : Ext w W) => of_any R hV D.toNat (by omega) P _ _ D W (by omega) hS (HRF.out W hW).1 (HRF.out W hW).2)
    rw [hz] at HT ⊢
    rw [show scoreM R P D = ofM R D.toNat P from if_pos hz]
    clear hz hV hS d0 d1 HRF
    generalize ofM R D.toNat P = y at *
    generalize perftN R P D = N at *
    go_enter Try.func13, Try.ntmps13
    go_wp2_with fail
    refine (HT.out _ HX.out).mono ?_
    rintro e w2 ⟨rfl, x2⟩
    have X2 := hide (ext_trans HX.out x2)
    have g1 := (K1.out.ext x2).cell
    have g2 := (K2.out.ext x2).cell
    clear f1 f2 x2
    go_wp2_with fail
    refine (HO.out _ X2.out).mono ?_
    rintro e w3 ⟨rfl, x3⟩
    have X3 := hide (ext_trans X2.out x3)
    clear g1 g2 x3
    go_wp2
    go_ret2
    exact ⟨rfl, X3.out⟩
  · rw [show scoreM R P D = 0 from if_neg hz]
    have t0 : (perftE R P D != 0) = true := by simpa using hz
    clear hz HRF
    generalize perftE R P D = E at *
    generalize perftN R P D = N at *
    go_enter Try.func13, Try.ntmps13
    go_wp2_with fail
    refine (HT.out _ HX.out).mono ?_
    rintro e w2 ⟨rfl, x2⟩
    have X2 := hide (ext_trans HX.out x2)
    clear f1 f2 x2
    go_wp2
    go_ret2
    exact ⟨rfl, X2.out⟩
theorem bestE_one {R : RulesM} {P : PosM} {D : Int} (h : perftE R P D ≠ 0) : bestE R P D = perftE R P D ∧ bestY R P D = (⟨0, 0, 0⟩, 0) := by
  have e : bestE R P D = perftE R P D := if_pos h
  exact ⟨e, if_neg (by rw [e]; exact h)⟩
theorem bestE_two {R : RulesM} {P : PosM} {D : Int} (h : perftE R P D = 0) (hd : D = 0) : bestE R P D = 1 ∧ bestY R P D = (⟨0, 0, 0⟩, 0) := by
  have e : bestE R P D = 1 := by unfold bestE; rw [if_neg (by simpa using h), if_pos hd]
  exact ⟨e, if_neg (by rw [e]; decide)⟩
theorem bestE_three {R : RulesM} {P : PosM} {D : Int} (h : perftE R P D = 0) (hd : D ≠ 0) (hr : resultM R P ≠ 0) : bestE R P D = 14 ∧ bestY R P D = (⟨0, 0, 0⟩, 0) := by
  have e : bestE R P D = 14 := by unfold bestE; rw [if_neg (by simpa using h), if_neg hd, if_pos hr]
  exact ⟨e, if_neg (by rw [e]; decide)⟩
theorem bestE_four {R : RulesM} {P : PosM} {D : Int} (h : perftE R P D = 0) (hd : D ≠ 0) (hr : resultM R P = 0) : bestE R P D = 0 ∧ bestY R P D = firstM R (D.toNat - 1) P := by
  have e : bestE R P D = 0 := by unfold bestE; rw [if_neg (by simpa using h), if_neg hd, if_neg (by simpa using hr)]
  exact ⟨e, if_pos e⟩
abbrev moveV (m : MoveM) : Value := .agg #[.int .i64 m.src, .int .i64 m.dst, .int .i64 m.piece]
end Go.Proofs.Ytdoibgmmijhlfaa
namespace Go.Proofs.Ytdoibgmmijhlfaa
set_option linter.unusedVariables false
theorem tree_le {R : RulesM} {P : PosM} {m : MoveM} (h : m ∈ movesM R P) (d : Nat) : treeM R d (makeM R P m) ≤ treeM R (d + 1) P := by
  obtain ⟨k, hk⟩ := List.getElem?_of_mem h
  have h2 : treeM R (d + 1) P = 1 + ((movesM R P).map fun m => treeM R d (makeM R P m)).sum := rfl
  have h3 := partS_le (f := fun m => treeM R d (makeM R P m)) (l := movesM R P) (fun m => by have := tree_pos R d (makeM R P m); show 0 ≤ treeM R d (makeM R P m); omega) (k + 1)
  rw [partS_succ hk] at h3
  have h4 := partS_nonneg (f := fun m => treeM R d (makeM R P m)) (l := movesM R P) (fun m => by have := tree_pos R d (makeM R P m); show 0 ≤ treeM R d (makeM R P m); omega) k
  omega
theorem line_cons {R : RulesM} {P : PosM} {d : Nat} (h : resultM R P = 0) : lineM R (d + 1) P = (firstM R d P).1 :: lineM R d (makeM R P (firstM R d P).1) := if_pos h
theorem line_step {R : RulesM} (hV : Valid R) : ∀ d P, Sound R P → d ≤ 90 → ∀ k m, (lineM R d P)[k]? = some m → Sound R (endM R P ((lineM R d P).take k)) ∧ m ∈ listM R (endM R P ((lineM R d P).take k))
  | 0, P, hS, hd, k, m, h => by
    rw [show lineM R 0 P = [] from rfl] at h
    simp at h
  | d + 1, P, hS, hd, k, m, h => by
    by_cases hr : resultM R P = 0
    · have hf := (first_mem hS.turn hr (d := d) (by omega)).1
      rw [line_cons hr] at h ⊢
      rcases k with _ | k
      · simp only [List.getElem?_cons_zero, Option.some.injEq] at h
        subst h
        exact ⟨hS, hf⟩
      · simp only [List.getElem?_cons_succ] at h
        exact line_step hV d _ (sound_make hV hS (mem_listM.1 hf)) (by omega) k m h
    · rw [show lineM R (d + 1) P = [] from if_neg hr] at h
      simp at h
theorem line_end {R : RulesM} (hV : Valid R) : ∀ d P, Sound R P → d ≤ 90 → Sound R (endM R P (lineM R d P)) ∧ treeM R (d - (lineM R d P).length) (endM R P (lineM R d P)) ≤ treeM R d P
  | 0, P, hS, hd => ⟨hS, Int.le_refl _⟩
  | d + 1, P, hS, hd => by
    by_cases hr : resultM R P = 0
    · have hf := (first_mem hS.turn hr (d := d) (by omega)).1
      have hm : (firstM R d P).1 ∈ movesM R P := by unfold movesM; rw [if_pos hr]; exact hf
      obtain ⟨i1, i2⟩ := line_end hV d _ (sound_make hV hS (mem_listM.1 hf)) (by omega)
      rw [line_cons hr, List.length_cons, Nat.add_sub_add_right]
      exact ⟨i1, Int.le_trans i2 (tree_le hm d)⟩
    · rw [show lineM R (d + 1) P = [] from if_neg hr]
      exact ⟨hS, Int.le_refl _⟩
theorem end_succ {R : RulesM} {P : PosM} {L : List MoveM} {k : Nat} {m : MoveM} (h : L[k]? = some m) : endM R P (L.take (k + 1)) = makeM R (endM R P (L.take k)) m := by
  unfold endM
  rw [List.take_add_one, h, List.foldl_append]
  rfl
theorem near_bd {n : Int} (h0 : -1000 ≤ n) (h1 : n ≤ 1000) : -1000 ≤ nearM (-n) ∧ nearM (-n) ≤ 1000 := by
  unfold nearM
  split
  · omega
  · split <;> omega
theorem back_bd {z : Int} (h0 : -1000 ≤ z) (h1 : z ≤ 1000) : ∀ k, -1000 ≤ backM k z ∧ backM k z ≤ 1000
  | 0 => ⟨h0, h1⟩
  | k + 1 => near_bd (back_bd h0 h1 k).1 (back_bd h0 h1 k).2
theorem of_bd {R : RulesM} {P : PosM} (hT : P.turn = 0 ∨ P.turn = 1) {d : Nat} (hd : d ≤ 100) : -1000 ≤ ofM R d P ∧ ofM R d P ≤ 1000 := by
  have hb := of_bound R d P hT hd
  unfold boundB at hb
  omega
/-- The best move has the score 999 just where it ends the game with a win. -/
theorem first_wins {R : RulesM} {P : PosM} (hT : P.turn = 0 ∨ P.turn = 1) (h : resultM R P = 0) {d : Nat} (hd : d ≤ 20) : (firstM R d P).2 = 999 ↔ resultM R (makeM R P (firstM R d P).1) = 1 + P.turn := by
  have hf := first_mem hT h (d := d) (by omega)
  have hQ := turn_make hT (R := R) (firstM R d P).1
  have hQt : (makeM R P (firstM R d P).1).turn = 1 - P.turn := rfl
  rw [hf.2]
  generalize makeM R P (firstM R d P).1 = Q at *
  by_cases hq : resultM R Q = 0
  · rw [hq]
    have hb : -999 ≤ ofM R d Q ∧ ofM R d Q ≤ 999 := by
      rcases d with _ | k
      · rw [show ofM R 0 Q = 0 from if_pos hq]; omega
      · have g := first_mem (R := R) hQ hq (d := k) (by omega)
        rw [← first_score hq k, g.2]
        have hb := of_bd (R := R) (P := makeM R Q (firstM R k Q).1) (turn_make hQ _) (d := k) (by omega)
        unfold nearM
        split
        · omega
        · split <;> omega
    constructor
    · intro hn
      unfold nearM at hn
      split at hn
      · omega
      · split at hn <;> omega
    · intro hn
      omega
  · rw [of_over hq d]
    unfold overM nearM
    constructor
    · intro hn
      split at hn
      all_goals (try split at hn)
      all_goals (try split at hn)
      all_goals (try split at hn)
      all_goals omega
    · intro hn
      rw [if_neg (show ¬ resultM R Q = 1 + Q.turn by omega), if_pos (show resultM R Q = 2 - Q.turn by omega)]
      decide
end Go.Proofs.Ytdoibgmmijhlfaa
