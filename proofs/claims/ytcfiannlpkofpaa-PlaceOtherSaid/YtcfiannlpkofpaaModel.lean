/- The model of rules and positions: plain data, when they are valid, and how they lie in memory. No program. -/
import Derived.Test.YtcfiannlpkofpaaMem2
namespace Go.Proofs.Ytcfiannlpkofpaa
open Go.RowKit

structure WayM where
  dx : Int
  dy : Int
  most : Int
  take : Int
structure PieceM where
  letter : Int
  hand : Int
  promote : Int
  ways : List WayM
structure EndM where
  kind : Int
  piece : Int
  count : Int
  loses : Bool
structure RulesM where
  name : ByteArray
  width : Int
  height : Int
  pieces : List PieceM
  start : List Int
  falls : Bool
  keeps : Bool
  ends : List EndM
  blocked : Int
  quiet : Int
  rept : Int
structure PosM where
  cells : List Int
  hand0 : List Int
  hand1 : List Int
  turn : Int
  quiet : Int

/-! ### What rules.Check answers -/
def letterB (c : UInt8) : Bool := 65 ≤ c && c ≤ 90
def digitB (c : UInt8) : Bool := 48 ≤ c && c ≤ 57
def nameB (s : ByteArray) : Bool := decide (1 ≤ s.size ∧ s.size ≤ 8) && (List.range s.size).all fun i => letterB (s.data.toList.getD i 0) || (decide (0 < i) && digitB (s.data.toList.getD i 0))
def inB (n lo hi : Int) : Bool := decide (lo ≤ n) && decide (n ≤ hi)
def wayB (x : WayM) : Bool := inB x.dx (-7) 7 && inB x.dy (-7) 7 && !(decide (x.dx = 0) && decide (x.dy = 0)) && inB x.most 1 7 && inB x.take 0 2
/-- The code of piece i. -/
def pieceE (ps : List PieceM) (i : Nat) : Int :=
  match ps[i]? with
  | none => 0
  | some p =>
    if !inB p.letter 65 90 then 6
    else if (ps.take i).any (fun q => decide (q.letter = p.letter)) then 7
    else if !(inB p.hand 0 64 && inB p.promote 0 ps.length) then 4
    else if 16 < p.ways.length then 2
    else if p.ways.all wayB then 0 else 4
/-- The first code that is not 0. -/
def firstE (f : Nat → Int) : Nat → Nat → Int
  | _, 0 => 0
  | i, n + 1 => if f i = 0 then firstE f (i + 1) n else f i
def piecesE (ps : List PieceM) : Int := if ps.length = 0 then 8 else if 6 < ps.length then 2 else firstE (pieceE ps) 0 ps.length
def endE (n : Nat) (es : List EndM) (i : Nat) : Int :=
  match es[i]? with
  | none => 0
  | some x =>
    if x.kind = 0 then (if inB x.count 1 64 && decide (x.piece = 0) then 0 else 4)
    else if x.kind = 1 then (if decide (x.count = 0) && inB x.piece 0 (n - 1) then 0 else 4)
    else if x.kind = 2 then (if inB x.count 1 64 && inB x.piece 0 (n - 1) then 0 else 4)
    else 1
def endsE (n : Nat) (es : List EndM) : Int := if 6 < es.length then 2 else firstE (endE n es) 0 es.length
def lastB (R : RulesM) : Bool := inB R.blocked 0 2 && inB R.quiet 0 200 && (decide (R.rept = 0) || inB R.rept 2 5)
def rulesE (R : RulesM) : Int :=
  if !nameB R.name then 6
  else if !(inB R.width 1 8 && inB R.height 1 8) then 4
  else if piecesE R.pieces ≠ 0 then piecesE R.pieces
  else if (R.start.length : Int) ≠ R.width * R.height then 3
  else if !(R.start.all fun c => inB c 0 (2 * R.pieces.length)) then 4
  else if endsE R.pieces.length R.ends ≠ 0 then endsE R.pieces.length R.ends
  else if lastB R then 0 else 4

def formB (R : RulesM) (P : PosM) : Bool := decide ((P.cells.length : Int) = R.width * R.height) && (decide (P.hand0.length = R.pieces.length) && decide (P.hand1.length = R.pieces.length))
def rangeB (n : Nat) (P : PosM) : Bool := (P.cells.all fun c => inB c 0 (2 * (n : Int))) && (((P.hand0 ++ P.hand1).all fun c => inB c 0 1000) && ((decide (P.turn = 0) || decide (P.turn = 1)) && inB P.quiet 0 200))
/-- What place.sound answers. -/
def soundE (R : RulesM) (P : PosM) : Int := if formB R P then (if rangeB R.pieces.length P then 0 else 4) else 3
/-- What place.Check answers. -/
def checkE (R : RulesM) (P : PosM) : Int := if rulesE R = 0 then soundE R P else rulesE R
theorem firstE_eq (f : Nat → Int) : ∀ n i k, (∀ j, i ≤ j → j < k → f j = 0) → i ≤ k → k < i + n → f k ≠ 0 → firstE f i n = f k
  | 0, i, k, _, h1, h2, _ => by omega
  | n + 1, i, k, hz, h1, h2, hk => by
    unfold firstE
    by_cases e : i = k
    · subst e; rw [if_neg hk]
    · rw [if_pos (hz i (Nat.le_refl _) (by omega))]
      exact firstE_eq f n (i + 1) k (fun j a b => hz j (by omega) b) (by omega) (by omega) hk
theorem firstE_zero (f : Nat → Int) : ∀ n i, (firstE f i n = 0 ↔ ∀ j, i ≤ j → j < i + n → f j = 0)
  | 0, i => by simp [firstE]; intro j a b; omega
  | n + 1, i => by
    unfold firstE
    constructor
    · intro h j a b
      by_cases e : f i = 0
      · rw [if_pos e] at h
        by_cases e2 : j = i
        · subst e2; exact e
        · exact (firstE_zero f n (i + 1)).1 h j (by omega) (by omega)
      · rw [if_neg e] at h; exact absurd h e
    · intro h
      rw [if_pos (h i (Nat.le_refl _) (by omega))]
      exact (firstE_zero f n (i + 1)).2 (fun j a b => h j (by omega) (by omega))

/-! ### In memory -/
def WayM.vals (x : WayM) : List Value := [.int .i64 x.dx, .int .i64 x.dy, .int .i64 x.most, .int .i64 x.take]
def EndM.vals (x : EndM) : List Value := [.int .i64 x.kind, .int .i64 x.piece, .int .i64 x.count, .bool x.loses]
def WaysAt (w : World) (A : Option Addr) (ws : List WayM) : Prop := CellsAt w A (ws.flatMap WayM.vals)
def EndsAt (w : World) (A : Option Addr) (es : List EndM) : Prop := CellsAt w A (es.flatMap EndM.vals)
/-- The four cells of a piece. -/
def PieceVals (w : World) (p : PieceM) (l : List Value) : Prop :=
  ∃ A c, l = [.int .u8 p.letter, .int .i64 p.hand, .int .i64 p.promote, .slice A p.ways.length c] ∧ WaysAt w A p.ways
def PiecesAt (w : World) (A : Option Addr) (ps : List PieceM) : Prop :=
  ∃ vss : List (List Value), CellsAt w A vss.flatten ∧ vss.length = ps.length ∧ ∀ (i : Nat) (p : PieceM) (l : List Value), ps[i]? = some p → vss[i]? = some l → PieceVals w p l
def RulesAt (w : World) (v : Value) (R : RulesM) : Prop :=
  ∃ pA pc sA sc eA ec, v = .agg #[.string R.name, .int .i64 R.width, .int .i64 R.height, .slice pA R.pieces.length pc, .slice sA R.start.length sc, .bool R.falls, .bool R.keeps, .slice eA R.ends.length ec, .int .i64 R.blocked, .int .i64 R.quiet, .int .i64 R.rept] ∧
    PiecesAt w pA R.pieces ∧ IntsAt w sA R.start ∧ EndsAt w eA R.ends ∧ R.pieces.length ≤ pc ∧ R.start.length ≤ sc ∧ R.ends.length ≤ ec ∧ R.name.size ≤ 9223372036854775807
def PosAt (w : World) (v : Value) (P : PosM) : Prop :=
  ∃ cA cc aA ac bA bc, v = .agg #[.slice cA P.cells.length cc, .slice aA P.hand0.length ac, .slice bA P.hand1.length bc, .int .i64 P.turn, .int .i64 P.quiet] ∧
    IntsAt w cA P.cells ∧ IntsAt w aA P.hand0 ∧ IntsAt w bA P.hand1 ∧ P.cells.length ≤ cc ∧ P.hand0.length ≤ ac ∧ P.hand1.length ≤ bc

section
variable {w w' : World}
theorem PieceVals.ext {p : PieceM} {l : List Value} (h : PieceVals w p l) (he : Ext w w') : PieceVals w' p l := by
  obtain ⟨A, c, e, h1⟩ := h
  exact ⟨A, c, e, CellsAt.ext h1 he⟩
theorem PiecesAt.ext {A : Option Addr} {ps : List PieceM} (h : PiecesAt w A ps) (he : Ext w w') : PiecesAt w' A ps := by
  obtain ⟨vss, h1, h2, h3⟩ := h
  exact ⟨vss, h1.ext he, h2, fun i p l a b => (h3 i p l a b).ext he⟩
theorem RulesAt.ext {v : Value} {R : RulesM} (h : RulesAt w v R) (he : Ext w w') : RulesAt w' v R := by
  obtain ⟨pA, pc, sA, sc, eA, ec, e, h1, h2, h3, h4⟩ := h
  exact ⟨pA, pc, sA, sc, eA, ec, e, h1.ext he, h2.ext he, CellsAt.ext h3 he, h4⟩
theorem PosAt.ext {v : Value} {P : PosM} (h : PosAt w v P) (he : Ext w w') : PosAt w' v P := by
  obtain ⟨cA, cc, aA, ac, bA, bc, e, h1, h2, h3, h4⟩ := h
  exact ⟨cA, cc, aA, ac, bA, bc, e, h1.ext he, h2.ext he, h3.ext he, h4⟩

/-- Element k of rows of s cells each. -/
theorem flat_get {α : Type} (f : α → List Value) (s : Nat) (hf : ∀ x, (f x).length = s) : ∀ (l : List α) (k j : Nat) (x : α), l[k]? = some x → j < s → (l.flatMap f)[k * s + j]? = (f x)[j]?
  | [], k, j, x, h, _ => by simp at h
  | a :: l, 0, j, x, h, hj => by
    simp at h
    subst h
    rw [List.flatMap_cons, Nat.zero_mul, Nat.zero_add, List.getElem?_append_left (by rw [hf]; exact hj)]
  | a :: l, k + 1, j, x, h, hj => by
    rw [List.flatMap_cons, List.getElem?_append_right (by rw [hf, Nat.add_mul]; omega), hf]
    have e : (k + 1) * s + j - s = k * s + j := by rw [Nat.add_mul]; omega
    rw [e]
    exact flat_get f s hf l k j x (by simpa using h) hj
theorem flatten_get (s : Nat) (l : List (List Value)) (hl : ∀ x ∈ l, x.length = s) (k j : Nat) (x : List Value) (h : l[k]? = some x) (hj : j < s) : l.flatten[k * s + j]? = x[j]? := by
  induction l generalizing k with
  | nil => simp at h
  | cons a l ih =>
    cases k with
    | zero =>
      simp at h
      subst h
      rw [List.flatten_cons, Nat.zero_mul, Nat.zero_add, List.getElem?_append_left (by rw [hl _ (by simp)]; exact hj)]
    | succ k =>
      have ha := hl a (by simp)
      rw [List.flatten_cons, List.getElem?_append_right (by rw [ha, Nat.add_mul]; omega), ha]
      have e : (k + 1) * s + j - s = k * s + j := by rw [Nat.add_mul]; omega
      rw [e]
      exact ih (fun x hx => hl x (by simp [hx])) k (by simpa using h)

theorem WaysAt.get {A : Option Addr} {ws : List WayM} (h : WaysAt w A ws) {k : Nat} {x : WayM} (hk : ws[k]? = some x) :
    ∃ b o, A = some ⟨b, o, none⟩ ∧ w.cell? ⟨b, o + k * 4, none⟩ = some (.int .i64 x.dx) ∧ w.cell? ⟨b, o + k * 4 + 1, none⟩ = some (.int .i64 x.dy) ∧ w.cell? ⟨b, o + k * 4 + 2, none⟩ = some (.int .i64 x.most) ∧ w.cell? ⟨b, o + k * 4 + 3, none⟩ = some (.int .i64 x.take) := by
  have g := fun j hj => flat_get WayM.vals 4 (fun _ => rfl) ws k j x hk hj
  obtain ⟨b, o, rfl, h0⟩ := h (k * 4 + 0) _ (g 0 (by omega))
  obtain ⟨_, _, e1, h1⟩ := h (k * 4 + 1) _ (g 1 (by omega))
  obtain ⟨_, _, e2, h2⟩ := h (k * 4 + 2) _ (g 2 (by omega))
  obtain ⟨_, _, e3, h3⟩ := h (k * 4 + 3) _ (g 3 (by omega))
  simp only [Option.some.injEq, Addr.mk.injEq, and_true] at e1 e2 e3
  obtain ⟨rfl, rfl⟩ := e1
  obtain ⟨rfl, rfl⟩ := e2
  obtain ⟨rfl, rfl⟩ := e3
  exact ⟨b, o, rfl, h0, h1, h2, h3⟩
theorem PiecesAt.take {A : Option Addr} {ps : List PieceM} (h : PiecesAt w A ps) (k : Nat) : PiecesAt w A (ps.take k) := by
  obtain ⟨vss, hc, hl, hv⟩ := h
  refine ⟨vss.take k, fun i v hi => hc i v ?_, by simp [hl], fun i p l hp hl' => ?_⟩
  · have e : vss.flatten = (vss.take k).flatten ++ (vss.drop k).flatten := by rw [← List.flatten_append, List.take_append_drop]
    rw [e, List.getElem?_append_left (List.getElem?_eq_some_iff.1 hi).1]
    exact hi
  · rw [List.getElem?_take] at hp hl'
    split at hp
    · rename_i hik
      rw [if_pos hik] at hl'
      exact hv i p l hp hl'
    · cases hp
theorem EndsAt.get {A : Option Addr} {es : List EndM} (h : EndsAt w A es) {k : Nat} {x : EndM} (hk : es[k]? = some x) :
    ∃ b o, A = some ⟨b, o, none⟩ ∧ w.cell? ⟨b, o + k * 4, none⟩ = some (.int .i64 x.kind) ∧ w.cell? ⟨b, o + k * 4 + 1, none⟩ = some (.int .i64 x.piece) ∧ w.cell? ⟨b, o + k * 4 + 2, none⟩ = some (.int .i64 x.count) ∧ w.cell? ⟨b, o + k * 4 + 3, none⟩ = some (.bool x.loses) := by
  have g := fun j hj => flat_get EndM.vals 4 (fun _ => rfl) es k j x hk hj
  obtain ⟨b, o, rfl, h0⟩ := h (k * 4 + 0) _ (g 0 (by omega))
  obtain ⟨_, _, e1, h1⟩ := h (k * 4 + 1) _ (g 1 (by omega))
  obtain ⟨_, _, e2, h2⟩ := h (k * 4 + 2) _ (g 2 (by omega))
  obtain ⟨_, _, e3, h3⟩ := h (k * 4 + 3) _ (g 3 (by omega))
  simp only [Option.some.injEq, Addr.mk.injEq, and_true] at e1 e2 e3
  obtain ⟨rfl, rfl⟩ := e1
  obtain ⟨rfl, rfl⟩ := e2
  obtain ⟨rfl, rfl⟩ := e3
  exact ⟨b, o, rfl, h0, h1, h2, h3⟩
theorem PiecesAt.get {A : Option Addr} {ps : List PieceM} (h : PiecesAt w A ps) {k : Nat} {p : PieceM} (hk : ps[k]? = some p) :
    ∃ b o wA wc, A = some ⟨b, o, none⟩ ∧ w.cell? ⟨b, o + k * 4, none⟩ = some (.int .u8 p.letter) ∧ w.cell? ⟨b, o + k * 4 + 1, none⟩ = some (.int .i64 p.hand) ∧ w.cell? ⟨b, o + k * 4 + 2, none⟩ = some (.int .i64 p.promote) ∧ w.cell? ⟨b, o + k * 4 + 3, none⟩ = some (.slice wA p.ways.length wc) ∧ WaysAt w wA p.ways := by
  obtain ⟨vss, hc, hl, hv⟩ := h
  have hkl : k < vss.length := by rw [hl]; exact (List.getElem?_eq_some_iff.1 hk).1
  obtain ⟨wA, wc, el, hw⟩ := hv k p vss[k] hk (List.getElem?_eq_getElem hkl)
  have hall : ∀ x ∈ vss, x.length = 4 := by
    intro x hx
    obtain ⟨i, hi, rfl⟩ := List.mem_iff_getElem.1 hx
    obtain ⟨_, _, e, _⟩ := hv i (ps[i]'(by omega)) vss[i] (List.getElem?_eq_getElem (by omega)) (List.getElem?_eq_getElem hi)
    rw [e]; rfl
  have g := fun j hj => flatten_get 4 vss hall k j vss[k] (List.getElem?_eq_getElem hkl) hj
  rw [el] at g
  obtain ⟨b, o, rfl, h0⟩ := hc (k * 4 + 0) _ (g 0 (by omega))
  obtain ⟨_, _, e1, h1⟩ := hc (k * 4 + 1) _ (g 1 (by omega))
  obtain ⟨_, _, e2, h2⟩ := hc (k * 4 + 2) _ (g 2 (by omega))
  obtain ⟨_, _, e3, h3⟩ := hc (k * 4 + 3) _ (g 3 (by omega))
  simp only [Option.some.injEq, Addr.mk.injEq, and_true] at e1 e2 e3
  obtain ⟨rfl, rfl⟩ := e1
  obtain ⟨rfl, rfl⟩ := e2
  obtain ⟨rfl, rfl⟩ := e3
  exact ⟨b, o, wA, wc, rfl, h0, h1, h2, h3, hw⟩
end
/-! ### A struct stored cell by cell -/
theorem blk_set11 {w : World} {g : Nat} {t : TypeId} {o0 o1 o2 o3 o4 o5 o6 o7 o8 o9 o10 u0 u1 u2 u3 u4 u5 u6 u7 u8 u9 u10 : Value} (h : Blk w g t #[o0, o1, o2, o3, o4, o5, o6, o7, o8, o9, o10]) : Blk (((((((((((w.setCell ⟨g, 0, none⟩ u0).setCell ⟨g, 1, none⟩ u1).setCell ⟨g, 2, none⟩ u2).setCell ⟨g, 3, none⟩ u3).setCell ⟨g, 4, none⟩ u4).setCell ⟨g, 5, none⟩ u5).setCell ⟨g, 6, none⟩ u6).setCell ⟨g, 7, none⟩ u7).setCell ⟨g, 8, none⟩ u8).setCell ⟨g, 9, none⟩ u9).setCell ⟨g, 10, none⟩ u10) g t #[u0, u1, u2, u3, u4, u5, u6, u7, u8, u9, u10] := by
  have h0 : Blk (w.setCell ⟨g, 0, none⟩ u0) g t #[u0, o1, o2, o3, o4, o5, o6, o7, o8, o9, o10] := by have := h.set_ 0 u0; simpa using this
  have h1 : Blk ((w.setCell ⟨g, 0, none⟩ u0).setCell ⟨g, 1, none⟩ u1) g t #[u0, u1, o2, o3, o4, o5, o6, o7, o8, o9, o10] := by have := h0.set_ 1 u1; simpa using this
  have h2 : Blk (((w.setCell ⟨g, 0, none⟩ u0).setCell ⟨g, 1, none⟩ u1).setCell ⟨g, 2, none⟩ u2) g t #[u0, u1, u2, o3, o4, o5, o6, o7, o8, o9, o10] := by have := h1.set_ 2 u2; simpa using this
  have h3 : Blk ((((w.setCell ⟨g, 0, none⟩ u0).setCell ⟨g, 1, none⟩ u1).setCell ⟨g, 2, none⟩ u2).setCell ⟨g, 3, none⟩ u3) g t #[u0, u1, u2, u3, o4, o5, o6, o7, o8, o9, o10] := by have := h2.set_ 3 u3; simpa using this
  have h4 : Blk (((((w.setCell ⟨g, 0, none⟩ u0).setCell ⟨g, 1, none⟩ u1).setCell ⟨g, 2, none⟩ u2).setCell ⟨g, 3, none⟩ u3).setCell ⟨g, 4, none⟩ u4) g t #[u0, u1, u2, u3, u4, o5, o6, o7, o8, o9, o10] := by have := h3.set_ 4 u4; simpa using this
  have h5 : Blk ((((((w.setCell ⟨g, 0, none⟩ u0).setCell ⟨g, 1, none⟩ u1).setCell ⟨g, 2, none⟩ u2).setCell ⟨g, 3, none⟩ u3).setCell ⟨g, 4, none⟩ u4).setCell ⟨g, 5, none⟩ u5) g t #[u0, u1, u2, u3, u4, u5, o6, o7, o8, o9, o10] := by have := h4.set_ 5 u5; simpa using this
  have h6 : Blk (((((((w.setCell ⟨g, 0, none⟩ u0).setCell ⟨g, 1, none⟩ u1).setCell ⟨g, 2, none⟩ u2).setCell ⟨g, 3, none⟩ u3).setCell ⟨g, 4, none⟩ u4).setCell ⟨g, 5, none⟩ u5).setCell ⟨g, 6, none⟩ u6) g t #[u0, u1, u2, u3, u4, u5, u6, o7, o8, o9, o10] := by have := h5.set_ 6 u6; simpa using this
  have h7 : Blk ((((((((w.setCell ⟨g, 0, none⟩ u0).setCell ⟨g, 1, none⟩ u1).setCell ⟨g, 2, none⟩ u2).setCell ⟨g, 3, none⟩ u3).setCell ⟨g, 4, none⟩ u4).setCell ⟨g, 5, none⟩ u5).setCell ⟨g, 6, none⟩ u6).setCell ⟨g, 7, none⟩ u7) g t #[u0, u1, u2, u3, u4, u5, u6, u7, o8, o9, o10] := by have := h6.set_ 7 u7; simpa using this
  have h8 : Blk (((((((((w.setCell ⟨g, 0, none⟩ u0).setCell ⟨g, 1, none⟩ u1).setCell ⟨g, 2, none⟩ u2).setCell ⟨g, 3, none⟩ u3).setCell ⟨g, 4, none⟩ u4).setCell ⟨g, 5, none⟩ u5).setCell ⟨g, 6, none⟩ u6).setCell ⟨g, 7, none⟩ u7).setCell ⟨g, 8, none⟩ u8) g t #[u0, u1, u2, u3, u4, u5, u6, u7, u8, o9, o10] := by have := h7.set_ 8 u8; simpa using this
  have h9 : Blk ((((((((((w.setCell ⟨g, 0, none⟩ u0).setCell ⟨g, 1, none⟩ u1).setCell ⟨g, 2, none⟩ u2).setCell ⟨g, 3, none⟩ u3).setCell ⟨g, 4, none⟩ u4).setCell ⟨g, 5, none⟩ u5).setCell ⟨g, 6, none⟩ u6).setCell ⟨g, 7, none⟩ u7).setCell ⟨g, 8, none⟩ u8).setCell ⟨g, 9, none⟩ u9) g t #[u0, u1, u2, u3, u4, u5, u6, u7, u8, u9, o10] := by have := h8.set_ 9 u9; simpa using this
  have h10 : Blk (((((((((((w.setCell ⟨g, 0, none⟩ u0).setCell ⟨g, 1, none⟩ u1).setCell ⟨g, 2, none⟩ u2).setCell ⟨g, 3, none⟩ u3).setCell ⟨g, 4, none⟩ u4).setCell ⟨g, 5, none⟩ u5).setCell ⟨g, 6, none⟩ u6).setCell ⟨g, 7, none⟩ u7).setCell ⟨g, 8, none⟩ u8).setCell ⟨g, 9, none⟩ u9).setCell ⟨g, 10, none⟩ u10) g t #[u0, u1, u2, u3, u4, u5, u6, u7, u8, u9, u10] := by have := h9.set_ 10 u10; simpa using this
  exact h10
theorem blk_set5 {w : World} {g : Nat} {t : TypeId} {o0 o1 o2 o3 o4 u0 u1 u2 u3 u4 : Value} (h : Blk w g t #[o0, o1, o2, o3, o4]) : Blk (((((w.setCell ⟨g, 0, none⟩ u0).setCell ⟨g, 1, none⟩ u1).setCell ⟨g, 2, none⟩ u2).setCell ⟨g, 3, none⟩ u3).setCell ⟨g, 4, none⟩ u4) g t #[u0, u1, u2, u3, u4] := by
  have h0 : Blk (w.setCell ⟨g, 0, none⟩ u0) g t #[u0, o1, o2, o3, o4] := by have := h.set_ 0 u0; simpa using this
  have h1 : Blk ((w.setCell ⟨g, 0, none⟩ u0).setCell ⟨g, 1, none⟩ u1) g t #[u0, u1, o2, o3, o4] := by have := h0.set_ 1 u1; simpa using this
  have h2 : Blk (((w.setCell ⟨g, 0, none⟩ u0).setCell ⟨g, 1, none⟩ u1).setCell ⟨g, 2, none⟩ u2) g t #[u0, u1, u2, o3, o4] := by have := h1.set_ 2 u2; simpa using this
  have h3 : Blk ((((w.setCell ⟨g, 0, none⟩ u0).setCell ⟨g, 1, none⟩ u1).setCell ⟨g, 2, none⟩ u2).setCell ⟨g, 3, none⟩ u3) g t #[u0, u1, u2, u3, o4] := by have := h2.set_ 3 u3; simpa using this
  have h4 : Blk (((((w.setCell ⟨g, 0, none⟩ u0).setCell ⟨g, 1, none⟩ u1).setCell ⟨g, 2, none⟩ u2).setCell ⟨g, 3, none⟩ u3).setCell ⟨g, 4, none⟩ u4) g t #[u0, u1, u2, u3, u4] := by have := h3.set_ 4 u4; simpa using this
  exact h4
end Go.Proofs.Ytcfiannlpkofpaa
