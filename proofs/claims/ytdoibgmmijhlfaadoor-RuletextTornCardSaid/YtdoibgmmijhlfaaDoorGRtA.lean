/- Plain: the text of rules and its reading. No program. Plain: what is read as rules has this text. No program. Plain: what is read as rules has this text (rows, conditions, the whole). No program. -/
import Derived.Test.YtdoibgmmijhlfaaDoorGTxtA
namespace Go.Proofs.YtdoibgmmijhlfaaDoor
open Go.Lib
set_option linter.unusedVariables false
abbrev wGame : BL := [103, 97, 109, 101]
abbrev wPiece : BL := [112, 105, 101, 99, 101]
abbrev wWay : BL := [119, 97, 121]
abbrev wRow : BL := [114, 111, 119]
abbrev wFalls : BL := [102, 97, 108, 108, 115]
abbrev wKeeps : BL := [107, 101, 101, 112, 115]
abbrev wEnd : BL := [101, 110, 100]
abbrev wLine : BL := [108, 105, 110, 101]
abbrev wReach : BL := [114, 101, 97, 99, 104]
abbrev wTake : BL := [116, 97, 107, 101]
abbrev wBlocked : BL := [98, 108, 111, 99, 107, 101, 100]
abbrev wQuiet : BL := [113, 117, 105, 101, 116]
abbrev wRepeat : BL := [114, 101, 112, 101, 97, 116]
abbrev wNever : BL := [110, 101, 118, 101, 114]
abbrev wMay : BL := [109, 97, 121]
abbrev wMust : BL := [109, 117, 115, 116]
abbrev wLoses : BL := [108, 111, 115, 101, 115]
abbrev wWins : BL := [119, 105, 110, 115]
abbrev wDraws : BL := [100, 114, 97, 119, 115]
abbrev takesL : List BL := [wNever, wMay, wMust]
abbrev blocksL : List BL := [wLoses, wWins, wDraws]
abbrev howL : List BL := [wWins, wLoses]
/-! ### What is printed -/
/-- ruletext.letter. -/
def letT (ps : List PieceM) (n : Int) : BL := if n = 0 then [45] else [chU ((ps.map (·.letter)).getD (n - 1).toNat 0)]
def wayWs (x : WayM) : List BL := [wWay, itoa x.dx, itoa x.dy, itoa x.most, takesL.getD x.take.toNat []]
def pieceWs (ps : List PieceM) (p : PieceM) : List BL := [wPiece, [chU p.letter], itoa p.hand, letT ps p.promote]
def pieceLs (ps : List PieceM) (p : PieceM) : List (List BL) := pieceWs ps p :: p.ways.map wayWs
/-- ruletext.cell. -/
def cellT (ps : List PieceM) (c : Int) : UInt8 := if c = 0 then 46 else cellU ps c
def rowWs (R : RulesM) (y : Nat) : List BL := [wRow, ((R.start.drop (y * R.width.toNat)).take R.width.toNat).map (cellT R.pieces)]
def rowsWs (R : RulesM) : List (List BL) := ((List.range R.height.toNat).map (rowWs R)).reverse
def howT (x : EndM) : BL := if x.loses then wLoses else wWins
def endWs (ps : List PieceM) (x : EndM) : List BL :=
  if x.kind = 0 then [wEnd, wLine, itoa x.count, howT x]
  else if x.kind = 1 then [wEnd, wReach, letT ps (x.piece + 1), howT x]
  else [wEnd, wTake, letT ps (x.piece + 1), itoa x.count, howT x]
def tailWs (R : RulesM) : List (List BL) := [[wBlocked, blocksL.getD R.blocked.toNat []], [wQuiet, itoa R.quiet], [wRepeat, itoa R.rept]]
def headWs (R : RulesM) : List BL := [wGame, R.name.data.toList, itoa R.width, itoa R.height]
def flagWs (b : Bool) (w : BL) : List (List BL) := if b then [[w]] else []
def linesW (R : RulesM) : List (List BL) := headWs R :: (R.pieces.flatMap (pieceLs R.pieces) ++ (rowsWs R ++ (flagWs R.falls wFalls ++ (flagWs R.keeps wKeeps ++ (R.ends.map (endWs R.pieces) ++ tailWs R)))))
def lineT (ws : List BL) : BL := joinL 32 ws
def linesT (R : RulesM) : List BL := (linesW R).map lineT
def printT (R : RulesM) : BL := joinL 10 (linesT R) ++ [10]
/-! ### What is read -/
structure RdM where
  lines : List BL
  r : RulesM
  tos : List BL
  bad : Bool
def RdM.mark (x : RdM) (b : Bool) : RdM := { x with bad := x.bad || b }
/-- reader.next. -/
def nextR (word : BL) (n : Nat) (x : RdM) : Option (List BL × RdM) :=
  match x.lines with
  | [] => none
  | l :: ls => if (splitL 32 l).getD 0 [] = word ∧ (splitL 32 l).length = n + 1 then some ((splitL 32 l).tail, { x with lines := ls }) else none
/-- reader.must. -/
def mustR (word : BL) (n : Nat) (x : RdM) : List BL × RdM :=
  match nextR word n x with
  | some p => p
  | none => (List.replicate n [], x.mark true)
/-- reader.number: the number, and whether it is written as it is printed. -/
def numV (s : BL) : Int := match atoiAll s with
  | .ok v => v
  | .range => atoiSat s
  | _ => 0
def numBad (s : BL) : Bool := match atoiAll s with
  | .ok v => !decide (itoa v = s)
  | _ => true
/-- reader.choice. -/
def ixW (l : List BL) (s : BL) : Int := match l.findIdx? (fun x => decide (x = s)) with
  | some k => (k : Int)
  | none => -1
/-- reader.piece. -/
def pieceIx (ps : List PieceM) (s : BL) : Int := match s with
  | [b] => pieceK ps b
  | _ => -1
def wayV (l : List BL) : WayM := ⟨numV (l.getD 0 []), numV (l.getD 1 []), numV (l.getD 2 []), max (ixW takesL (l.getD 3 [])) 0⟩
def wayBad (l : List BL) : Bool := ((numBad (l.getD 0 []) || numBad (l.getD 1 [])) || numBad (l.getD 2 [])) || decide (ixW takesL (l.getD 3 []) < 0)
def waysR : Nat → RdM → List WayM → RdM × List WayM
  | 0, x, ws => (x, ws)
  | f + 1, x, ws => match nextR wWay 4 x with
    | none => (x, ws)
    | some (l, x') => waysR f (x'.mark (wayBad l)) (ws ++ [wayV l])
def promR : Nat → List BL → RdM → RdM
  | _, [], x => x
  | i, s :: r, x => promR (i + 1) r (if s = [45] then x else { x with r := { x.r with pieces := x.r.pieces.modify i fun p => { p with promote := max (pieceIx x.r.pieces s) 0 + 1 } }, bad := x.bad || decide (pieceIx x.r.pieces s < 0) })
/-- The letter of a line of a piece, if it is one. -/
def letOf (s : BL) : Option UInt8 := match s with
  | [b] => if 65 ≤ b.toNat ∧ b.toNat ≤ 90 then some b else none
  | _ => none
/-- A piece that is read, without its ways and its change. -/
def pushR (x : RdM) (b : UInt8) (hand : Int) (ws : List WayM) : RdM := { x with r := { x.r with pieces := x.r.pieces ++ [⟨(b.toNat : Int), hand, 0, ws⟩] } }
/-- The loop of reader.pieces; false: it returned from within. -/
def piecesL : Nat → RdM → RdM × Bool
  | 0, x => (x, true)
  | f + 1, x => match nextR wPiece 3 x with
    | none => (x, true)
    | some (l, x1) => match letOf (l.getD 0 []) with
      | none => ((x1.mark (numBad (l.getD 1 []))).mark true, false)
      | some b =>
        let y := waysR (x1.lines.length + 1) { x1.mark (numBad (l.getD 1 [])) with tos := x1.tos ++ [l.getD 2 []] } []
        piecesL f (pushR y.1 b (numV (l.getD 1 [])) y.2)
/-- reader.pieces. -/
def piecesR (x : RdM) : RdM :=
  let y := piecesL (x.lines.length + 1) x
  if y.2 then promR 0 y.1.tos y.1 else y.1
/-- The type whose letter is a byte's rune. -/
def runeIx (ps : List PieceM) (b : Nat) : Int := if b < 128 then pieceK ps (UInt8.ofNat b) else -1
def cellIx (ps : List PieceM) (b : UInt8) : Int := if 97 ≤ b.toNat ∧ b.toNat ≤ 122 then runeIx ps (b.toNat - 32) else runeIx ps b.toNat
def cellV (ps : List PieceM) (b : UInt8) : Int := if b = 46 then 0 else 2 * max (cellIx ps b) 0 + (if 97 ≤ b.toNat ∧ b.toNat ≤ 122 then 2 else 1)
def cellBad (ps : List PieceM) (b : UInt8) : Bool := !decide (b = 46) && decide (cellIx ps b < 0)
/-- A row is stored at a place. -/
def putAt : List Int → Nat → List Int → List Int
  | L, _, [] => L
  | L, k, z :: zs => putAt (L.set k z) (k + 1) zs
def rowR (x : RdM) (y : Nat) (s : BL) : RdM := { x with r := { x.r with start := putAt x.r.start (y * x.r.width.toNat) (s.map (cellV x.r.pieces)) }, bad := x.bad || s.any (cellBad x.r.pieces) }
def rowsL : Nat → RdM → RdM
  | 0, x => x
  | y + 1, x =>
    let l := mustR wRow 1 x
    if ((l.1.getD 0 []).length : Int) = l.2.r.width then rowsL y (rowR l.2 y (l.1.getD 0 [])) else l.2.mark true
/-- reader.rows. -/
def rowsR (x : RdM) : RdM := rowsL x.r.height.toNat { x with r := { x.r with start := List.replicate (x.r.width * x.r.height).toNat 0 } }
/-- The condition of a line, and whether it is none. -/
def endV (ps : List PieceM) (l : List BL) : EndM :=
  let how : Bool := decide (max (ixW howL (l.getLastD [])) 0 = 1)
  if l.length = 4 ∧ l.getD 1 [] = wLine then ⟨0, 0, numV (l.getD 2 []), how⟩
  else if l.length = 4 ∧ l.getD 1 [] = wReach then ⟨1, max (pieceIx ps (l.getD 2 [])) 0, 0, how⟩
  else if l.length = 5 ∧ l.getD 1 [] = wTake then ⟨2, max (pieceIx ps (l.getD 2 [])) 0, numV (l.getD 3 []), how⟩
  else ⟨0, 0, 0, how⟩
def endBad (ps : List PieceM) (l : List BL) : Bool :=
  (if l.length = 4 ∧ l.getD 1 [] = wLine then numBad (l.getD 2 [])
  else if l.length = 4 ∧ l.getD 1 [] = wReach then decide (pieceIx ps (l.getD 2 []) < 0)
  else if l.length = 5 ∧ l.getD 1 [] = wTake then decide (pieceIx ps (l.getD 2 []) < 0) || numBad (l.getD 3 [])
  else true) || decide (ixW howL (l.getLastD []) < 0)
abbrev endPre : BL := [101, 110, 100, 32]
/-- reader.ends. -/
def endsR : Nat → RdM → RdM
  | 0, x => x
  | f + 1, x => match x.lines with
    | [] => x
    | l :: ls => if endPre.isPrefixOf l = true ∧ x.bad = false then
        endsR f { x with lines := ls, r := { x.r with ends := x.r.ends ++ [endV x.r.pieces (splitL 32 l)] }, bad := x.bad || endBad x.r.pieces (splitL 32 l) }
      else x
def flagR (w : BL) (x : RdM) : Bool × RdM := match nextR w 0 x with
  | none => (false, x)
  | some (_, x') => (true, x')
def rules0 : RulesM := ⟨⟨#[]⟩, 0, 0, [], [], false, false, [], 0, 0, 0⟩
/-- The first line. -/
def gameR (body : BL) : RdM :=
  let l := mustR wGame 3 ⟨splitL 10 body, rules0, [], false⟩
  { l.2 with r := { l.2.r with name := ⟨(l.1.getD 0 []).toArray⟩, width := numV (l.1.getD 1 []), height := numV (l.1.getD 2 []) }, bad := (l.2.bad || numBad (l.1.getD 1 [])) || numBad (l.1.getD 2 []) }
def gameBad (x : RdM) : Bool := x.bad || (decide (x.r.name.size = 0) || (decide (x.r.width < 1) || (decide (8 < x.r.width) || (decide (x.r.height < 1) || decide (8 < x.r.height)))))
def fallsR (x : RdM) : RdM := let l := flagR wFalls x; { l.2 with r := { l.2.r with falls := l.1 } }
def keepsR (x : RdM) : RdM := let l := flagR wKeeps x; { l.2 with r := { l.2.r with keeps := l.1 } }
def blockedR (x : RdM) : RdM := let l := mustR wBlocked 1 x; { l.2 with r := { l.2.r with blocked := max (ixW blocksL (l.1.getD 0 [])) 0 }, bad := l.2.bad || decide (ixW blocksL (l.1.getD 0 []) < 0) }
def quietR (x : RdM) : RdM := let l := mustR wQuiet 1 x; { l.2 with r := { l.2.r with quiet := numV (l.1.getD 0 []) }, bad := l.2.bad || numBad (l.1.getD 0 []) }
def reptR (x : RdM) : RdM := let l := mustR wRepeat 1 x; { l.2 with r := { l.2.r with rept := numV (l.1.getD 0 []) }, bad := l.2.bad || numBad (l.1.getD 0 []) }
/-- What stands behind the pieces. -/
def restR (x : RdM) : RdM := let y := keepsR (fallsR (rowsR x)); reptR (quietR (blockedR (endsR (y.lines.length + 1) y)))
/-- ruletext.Parse. -/
def parseR (s : BL) : Option RulesM :=
  if 8192 < s.length then none
  else if s.getLast? ≠ some 10 then none
  else if gameBad (gameR s.dropLast) = true then none
  else if (piecesR (gameR s.dropLast)).bad = true then none
  else
    let x := restR (piecesR (gameR s.dropLast))
    if x.bad = true ∨ x.lines ≠ [] then none
    else if rulesE x.r ≠ 0 then none
    else some x.r
end Go.Proofs.YtdoibgmmijhlfaaDoor
namespace Go.Proofs.YtdoibgmmijhlfaaDoor
open Go.Lib
set_option linter.unusedVariables false
theorem split_pos (c : UInt8) (s : BL) : splitL c s ≠ [] := by
  cases s with
  | nil => simp [splitL]
  | cons b l =>
    rw [splitL]
    split
    · simp
    · split <;> simp
theorem join_split (c : UInt8) : ∀ s : BL, joinL c (splitL c s) = s
  | [] => rfl
  | b :: l => by
    have ih := join_split c l
    rw [splitL]
    split
    · rename_i h
      subst h
      cases hs : splitL b l with
      | nil => exact absurd hs (split_pos b l)
      | cons x xs => rw [hs] at ih; rw [joinL, ih]; rfl
    · split
      · rename_i h
        rw [h] at ih
        rw [← ih]; rfl
      · rename_i x xs h
        rw [h] at ih
        cases xs with
        | nil => rw [← ih]; rfl
        | cons y r => rw [← ih]; rfl
theorem next_says {word : BL} {n : Nat} {x x' : RdM} {l : List BL} (h : nextR word n x = some (l, x')) : x.lines = lineT (word :: l) :: x'.lines ∧ l.length = n ∧ x' = { x with lines := x'.lines } := by
  unfold nextR at h
  split at h
  · cases h
  · rename_i l0 ls hl
    split at h
    · rename_i hw
      injection h with h
      obtain ⟨h1, h2⟩ := Prod.mk.inj h
      subst h1 h2
      refine ⟨?_, by rw [List.length_tail, hw.2]; rfl, rfl⟩
      cases hs : splitL 32 l0 with
      | nil => exact absurd hs (split_pos 32 l0)
      | cons w ws =>
        rw [hs] at hw
        have e : w = word := by simpa using hw.1
        rw [List.tail_cons, ← e, ← hs]
        unfold lineT
        rw [join_split, hl]
    · cases h
theorem mark_bad {x : RdM} {b : Bool} (h : (x.mark b).bad = false) : x.bad = false ∧ b = false := by
  unfold RdM.mark at h
  simpa using h
theorem must_says {word : BL} {n : Nat} {x : RdM} (h : (mustR word n x).2.bad = false) : x.bad = false ∧ x.lines = lineT (word :: (mustR word n x).1) :: (mustR word n x).2.lines ∧ (mustR word n x).1.length = n ∧ (mustR word n x).2 = { x with lines := (mustR word n x).2.lines } := by
  unfold mustR at h ⊢
  cases hn : nextR word n x with
  | none =>
    rw [hn] at h
    exact absurd (mark_bad h).2 (by decide)
  | some p =>
    obtain ⟨l, x'⟩ := p
    rw [hn] at h
    simp only at h ⊢
    obtain ⟨h1, h2, h3⟩ := next_says hn
    refine ⟨by rw [h3] at h; exact h, h1, h2, h3⟩
theorem num_says {s : BL} (h : numBad s = false) : itoa (numV s) = s := by
  unfold numBad at h
  unfold numV
  split at h
  · rename_i v hv
    simpa [hv] using h
  · cases h
theorem idx_says {l : List BL} {s : BL} (h : decide (ixW l s < 0) = false) : l.getD (max (ixW l s) 0).toNat [] = s ∧ max (ixW l s) 0 < (l.length : Int) := by
  unfold ixW at h ⊢
  cases hf : l.findIdx? (fun x => decide (x = s)) with
  | none => rw [hf] at h; exact absurd h (by decide)
  | some k =>
    obtain ⟨hk, he, -⟩ := List.findIdx?_eq_some_iff_getElem.1 hf
    have e : l[k] = s := of_decide_eq_true he
    simp only
    rw [show (max (k : Int) 0).toNat = k by omega]
    exact ⟨by rw [List.getD_eq_getElem?_getD, List.getElem?_eq_getElem hk, e]; rfl, by omega⟩
theorem ps_get {ps : List PieceM} {k : Nat} {p : PieceM} (h : ps[k]? = some p) : (ps.map (·.letter)).getD k 0 = p.letter := by
  rw [List.getD_eq_getElem?_getD, List.getElem?_map, h]; rfl
theorem pieceK_says {ps : List PieceM} {b : UInt8} (h : ¬ pieceK ps b < 0) : ∃ (k : Nat) (p : PieceM), pieceK ps b = (k : Int) ∧ ps[k]? = some p ∧ p.letter = (b.toNat : Int) := by
  unfold pieceK at h ⊢
  cases hf : ps.findIdx? (fun p => decide (p.letter = (b.toNat : Int))) with
  | none => rw [hf] at h; exact absurd (show (-1 : Int) < 0 by decide) h
  | some k =>
    obtain ⟨hk, he, -⟩ := List.findIdx?_eq_some_iff_getElem.1 hf
    exact ⟨k, ps[k], rfl, List.getElem?_eq_getElem hk, of_decide_eq_true he⟩
theorem chU_of (b : UInt8) : chU (b.toNat : Int) = b := by
  unfold chU
  rw [Int.toNat_natCast]
  exact UInt8.ofNat_toNat
theorem piece_says {ps : List PieceM} {s : BL} (h : decide (pieceIx ps s < 0) = false) : letT ps (max (pieceIx ps s) 0 + 1) = s := by
  have h' : ¬ pieceIx ps s < 0 := of_decide_eq_false h
  unfold pieceIx at h' ⊢
  split at h'
  · rename_i b
    obtain ⟨k, p, e1, e2, e3⟩ := pieceK_says h'
    rw [e1]
    unfold letT
    rw [if_neg (by omega), show (max (k : Int) 0 + 1 - 1).toNat = k by omega, ps_get e2, e3, chU_of]
  · exact absurd (show (-1 : Int) < 0 by decide) h'
theorem way_says {l : List BL} (h4 : l.length = 4) (h : wayBad l = false) : wayWs (wayV l) = wWay :: l := by
  match l, h4 with
  | [a, b, c, d], _ =>
    unfold wayBad at h
    simp only [List.getD_cons_zero, List.getD_cons_succ, Bool.or_eq_false_iff] at h
    obtain ⟨⟨⟨h1, h2⟩, h3⟩, h5⟩ := h
    show [wWay, itoa (numV a), itoa (numV b), itoa (numV c), takesL.getD (max (ixW takesL d) 0).toNat []] = _
    rw [num_says h1, num_says h2, num_says h3, (idx_says h5).1]
theorem ways_says : ∀ (f : Nat) (x : RdM) (ws : List WayM), (waysR f x ws).1.bad = false → x.bad = false ∧ ∃ more, (waysR f x ws).2 = ws ++ more ∧ x.lines = more.map (fun m => lineT (wayWs m)) ++ (waysR f x ws).1.lines ∧ (waysR f x ws).1 = { x with lines := (waysR f x ws).1.lines }
  | 0, x, ws, h => ⟨h, [], (List.append_nil ws).symm, rfl, rfl⟩
  | f + 1, x, ws, h => by
    rw [waysR] at h ⊢
    cases hn : nextR wWay 4 x with
    | none =>
      rw [hn] at h
      exact ⟨h, [], (List.append_nil ws).symm, rfl, rfl⟩
    | some p =>
      obtain ⟨l, x'⟩ := p
      rw [hn] at h
      simp only at h ⊢
      obtain ⟨h1, h2, h3⟩ := next_says hn
      obtain ⟨b1, more, e1, e2, e3⟩ := ways_says f _ _ h
      obtain ⟨b2, b3⟩ := mark_bad b1
      refine ⟨by rw [h3] at b2; exact b2, wayV l :: more, by rw [e1, List.append_assoc]; rfl, ?_, ?_⟩
      · rw [h1, List.map_cons, way_says h2 b3, List.cons_append]
        exact congrArg _ e2
      · rw [e3]
        unfold RdM.mark
        rw [b2, b3, h3]
        simp only [Bool.or_false]
        rw [show x.bad = false by rw [h3] at b2; exact b2]
/-- The lines of a piece whose change is not known yet. -/
def roughLs (t : BL) (p : PieceM) : List BL := lineT [wPiece, [chU p.letter], itoa p.hand, t] :: p.ways.map fun m => lineT (wayWs m)
def roughAll : List BL → List PieceM → List BL
  | t :: ts, p :: ps => roughLs t p ++ roughAll ts ps
  | _, _ => []
theorem rough_app : ∀ (ts : List BL) (ps : List PieceM) (us : List BL) (qs : List PieceM), ts.length = ps.length → roughAll (ts ++ us) (ps ++ qs) = roughAll ts ps ++ roughAll us qs
  | [], [], us, qs, _ => rfl
  | t :: ts, p :: ps, us, qs, h => by
    rw [List.cons_append, List.cons_append, roughAll, roughAll, rough_app ts ps us qs (by simpa using h), List.append_assoc]
theorem let_says {s : BL} {b : UInt8} (h : letOf s = some b) : s = [b] ∧ 65 ≤ b.toNat ∧ b.toNat ≤ 90 := by
  unfold letOf at h
  split at h
  · split at h
    · injection h with h
      subst h
      rename_i hb
      exact ⟨rfl, hb⟩
    · cases h
  · cases h
theorem pieces_says : ∀ (f : Nat) (x : RdM), (piecesL f x).1.bad = false → x.bad = false ∧ (piecesL f x).2 = true ∧ ∃ (ts : List BL) (ps : List PieceM), ts.length = ps.length ∧ (∀ p ∈ ps, p.promote = 0) ∧ x.lines = roughAll ts ps ++ (piecesL f x).1.lines ∧ (piecesL f x).1 = { x with lines := (piecesL f x).1.lines, tos := x.tos ++ ts, r := { x.r with pieces := x.r.pieces ++ ps } }
  | 0, x, h => ⟨h, rfl, [], [], rfl, by simp, rfl, by simp [piecesL]⟩
  | f + 1, x, h => by
    rw [piecesL] at h ⊢
    cases hn : nextR wPiece 3 x with
    | none =>
      rw [hn] at h
      exact ⟨h, rfl, [], [], rfl, by simp, rfl, by simp⟩
    | some p =>
      obtain ⟨l, x1⟩ := p
      rw [hn] at h
      simp only at h ⊢
      obtain ⟨h1, h2, h3⟩ := next_says hn
      cases hl : letOf (l.getD 0 []) with
      | none =>
        rw [hl] at h
        exact absurd (mark_bad h).2 (by decide)
      | some b =>
        rw [hl] at h
        simp only at h ⊢
        have b1 := (pieces_says f _ h).1
        have c1 := (ways_says _ _ _ (show (waysR (x1.lines.length + 1) { x1.mark (numBad (l.getD 1 [])) with tos := x1.tos ++ [l.getD 2 []] } []).1.bad = false from b1)).1
        obtain ⟨c2, c3⟩ := mark_bad (x := x1) (b := numBad (l.getD 1 [])) c1
        have hx0 : x.bad = false := by rw [h3] at c2; exact c2
        have hZ : ({ x1.mark (numBad (l.getD 1 [])) with tos := x1.tos ++ [l.getD 2 []] } : RdM) = ⟨x1.lines, x.r, x.tos ++ [l.getD 2 []], false⟩ := by
          unfold RdM.mark
          rw [c3, c2, h3]
          rfl
        rw [hZ] at h b1 ⊢
        obtain ⟨-, more, d1, d2, d3⟩ := ways_says _ _ _ (show (waysR (x1.lines.length + 1) ⟨x1.lines, x.r, x.tos ++ [l.getD 2 []], false⟩ []).1.bad = false from b1)
        generalize waysR (x1.lines.length + 1) ⟨x1.lines, x.r, x.tos ++ [l.getD 2 []], false⟩ [] = Y at *
        obtain ⟨⟨Ya, Yb, Yc, Yd⟩, Y2⟩ := Y
        simp only [RdM.mk.injEq, List.nil_append] at d1 d2 d3
        obtain ⟨-, rfl, rfl, rfl⟩ := d3
        subst d1
        obtain ⟨-, b0, ts, ps, e1, e2, e3, e4⟩ := pieces_says f _ h
        refine ⟨hx0, b0, l.getD 2 [] :: ts, ⟨(b.toNat : Int), numV (l.getD 1 []), 0, Y2⟩ :: ps, by simp [e1], ?_, ?_, ?_⟩
        · intro p hp
          rcases List.mem_cons.1 hp with rfl | hp
          · rfl
          · exact e2 p hp
        · rw [roughAll, roughLs, h1]
          match l, h2 with
          | [u, v, t], _ =>
            obtain ⟨rfl, -⟩ := let_says (show letOf u = some b from hl)
            rw [chU_of]
            have e5 : itoa (numV v) = v := num_says c3
            show lineT [wPiece, [b], v, t] :: x1.lines = lineT [wPiece, [b], itoa (numV v), t] :: (Y2.map fun m => lineT (wayWs m)) ++ roughAll ts ps ++ _
            rw [e5]
            simp only [List.cons_append, List.append_assoc]
            refine congrArg _ (d2.trans (congrArg _ e3))
        · rw [e4]
          unfold pushR
          simp only [List.append_assoc, List.singleton_append, hx0]
/-! ### The changes -/
def proV (ps : List PieceM) (p : PieceM) (s : BL) : PieceM := if s = [45] then p else { p with promote := max (pieceIx ps s) 0 + 1 }
def proBad (ps : List PieceM) (s : BL) : Bool := !decide (s = [45]) && decide (pieceIx ps s < 0)
theorem pieceK_let {ps qs : List PieceM} (h : ps.map (·.letter) = qs.map (·.letter)) (b : UInt8) : pieceK ps b = pieceK qs b := by
  have e : ∀ l : List PieceM, l.findIdx? (fun p => decide (p.letter = (b.toNat : Int))) = (l.map (·.letter)).findIdx? (fun z => decide (z = (b.toNat : Int))) := fun l => by rw [List.findIdx?_map]; rfl
  unfold pieceK
  rw [e, e, h]
theorem pieceIx_let {ps qs : List PieceM} (h : ps.map (·.letter) = qs.map (·.letter)) (s : BL) : pieceIx ps s = pieceIx qs s := by
  unfold pieceIx
  split
  · exact pieceK_let h _
  · rfl
theorem let_modify (ps : List PieceM) (i : Nat) (q : Int) : (ps.modify i fun p => { p with promote := q }).map (·.letter) = ps.map (·.letter) := by
  induction ps generalizing i with
  | nil => cases i <;> rfl
  | cons a l ih =>
    cases i with
    | zero => rfl
    | succ i => rw [List.modify_succ_cons, List.map_cons, List.map_cons, ih]
theorem modify_mid {α : Type} (f : α → α) (b : α) (B : List α) : ∀ A : List α, (A ++ b :: B).modify A.length f = A ++ f b :: B
  | [] => rfl
  | a :: A => by rw [List.cons_append, List.length_cons, List.modify_succ_cons, modify_mid f b B A, List.cons_append]
theorem prom_form (ls : List Int) : ∀ (ts : List BL) (i : Nat) (x : RdM) (A B : List PieceM), x.r.pieces = A ++ B → A.length = i → B.length = ts.length → x.r.pieces.map (·.letter) = ls → ∀ ps : List PieceM, ps.map (·.letter) = ls →
    promR i ts x = { x with r := { x.r with pieces := A ++ List.zipWith (proV ps) B ts }, bad := x.bad || ts.any (proBad ps) }
  | [], i, x, A, B, h1, h2, h3, h4, ps, h5 => by
    have hB : B = [] := List.length_eq_zero_iff.1 h3
    subst hB
    rw [promR, List.zipWith_nil_left, ← h1]
    simp
  | s :: r, i, x, A, [], h1, h2, h3, h4, ps, h5 => by cases h3
  | s :: r, i, x, A, b :: B, h1, h2, h3, h4, ps, h5 => by
    rw [promR, List.zipWith_cons_cons]
    have hpx : pieceIx x.r.pieces s = pieceIx ps s := pieceIx_let (h4.trans h5.symm) s
    by_cases hs : s = [45]
    · rw [if_pos hs, prom_form ls r (i + 1) x (A ++ [b]) B (by rw [h1, List.append_assoc]; rfl) (by simp [h2]) (by simpa using h3) h4 ps h5]
      simp [proV, proBad, hs]
    · rw [if_neg hs]
      have hm : x.r.pieces.modify i (fun p => { p with promote := max (pieceIx x.r.pieces s) 0 + 1 }) = A ++ (proV ps b s :: B) := by
        rw [hpx, h1, ← h2, modify_mid]
        unfold proV
        rw [if_neg hs]
      rw [prom_form ls r (i + 1) _ (A ++ [proV ps b s]) B (by simp only; rw [hm, List.append_assoc]; rfl) (by simp [h2]) (by simpa using h3) (by simp only; rw [let_modify]; exact h4) ps h5]
      simp only [List.any_cons, proBad, hs, hpx, decide_false, Bool.not_false, Bool.true_and, List.append_assoc, List.singleton_append, Bool.or_assoc]
theorem proV_let (ps : List PieceM) (p : PieceM) (s : BL) : (proV ps p s).letter = p.letter ∧ (proV ps p s).hand = p.hand ∧ (proV ps p s).ways = p.ways := by
  unfold proV
  split <;> exact ⟨rfl, rfl, rfl⟩
theorem zip_let (ps : List PieceM) : ∀ (B : List PieceM) (ts : List BL), B.length = ts.length → (List.zipWith (proV ps) B ts).map (·.letter) = B.map (·.letter)
  | [], [], _ => rfl
  | b :: B, t :: ts, h => by rw [List.zipWith_cons_cons, List.map_cons, List.map_cons, (proV_let ps b t).1, zip_let ps B ts (by simpa using h)]
theorem letT_let {ps qs : List PieceM} (h : ps.map (·.letter) = qs.map (·.letter)) (n : Int) : letT ps n = letT qs n := by unfold letT; rw [h]
theorem rough_done (ps qs : List PieceM) (h : ps.map (·.letter) = qs.map (·.letter)) : ∀ (B : List PieceM) (ts : List BL), B.length = ts.length → (∀ p ∈ B, p.promote = 0) → ts.any (proBad ps) = false →
    roughAll ts B = ((List.zipWith (proV ps) B ts).flatMap (pieceLs qs)).map lineT
  | [], [], _, _, _ => rfl
  | b :: B, t :: ts, hl, h0, hb => by
    rw [List.any_cons, Bool.or_eq_false_iff] at hb
    rw [List.zipWith_cons_cons, List.flatMap_cons, List.map_append, roughAll, rough_done ps qs h B ts (by simpa using hl) (fun p hp => h0 p (List.mem_cons_of_mem _ hp)) hb.2]
    congr 1
    unfold roughLs pieceLs pieceWs
    obtain ⟨e1, e2, e3⟩ := proV_let ps b t
    rw [e1, e2, e3, List.map_cons, List.map_map]
    have e4 : letT qs (proV ps b t).promote = t := by
      unfold proV
      by_cases ht : t = [45]
      · rw [if_pos ht, h0 b List.mem_cons_self, ht]; rfl
      · rw [if_neg ht]
        have := hb.1
        unfold proBad at this
        rw [decide_eq_false ht, Bool.not_false, Bool.true_and] at this
        rw [← letT_let h, piece_says this]
    rw [e4]
    rfl
end Go.Proofs.YtdoibgmmijhlfaaDoor
namespace Go.Proofs.YtdoibgmmijhlfaaDoor
open Go.Lib
set_option linter.unusedVariables false
theorem cell_says {ps : List PieceM} {b : UInt8} (h : cellBad ps b = false) : cellT ps (cellV ps b) = b := by
  unfold cellBad at h
  by_cases h0 : b = 46
  · subst h0; rfl
  rw [decide_eq_false h0, Bool.not_false, Bool.true_and] at h
  have h' := of_decide_eq_false h
  unfold cellV
  rw [if_neg h0]
  unfold cellIx at h' ⊢
  have hb := b.toNat_lt
  by_cases hl : 97 ≤ b.toNat ∧ b.toNat ≤ 122
  · rw [if_pos hl] at h' ⊢
    rw [if_pos hl]
    unfold runeIx at h' ⊢
    rw [if_pos (by omega)] at h' ⊢
    obtain ⟨k, p, e1, e2, e3⟩ := pieceK_says h'
    rw [e1]
    unfold cellT cellU
    rw [if_neg (by omega), show ((2 * max (k : Int) 0 + 2 - 1) / 2).toNat = k by omega, ps_get e2, if_pos (by omega), e3, UInt8.toNat_ofNat']
    unfold chU
    rw [show (((b.toNat - 32) % 2 ^ 8 : Nat) + (32 : Int)).toNat = b.toNat by omega]
    exact UInt8.ofNat_toNat
  · rw [if_neg hl] at h' ⊢
    rw [if_neg hl]
    unfold runeIx at h' ⊢
    by_cases h128 : b.toNat < 128
    · rw [if_pos h128] at h' ⊢
      obtain ⟨k, p, e1, e2, e3⟩ := pieceK_says h'
      rw [e1]
      unfold cellT cellU
      rw [if_neg (by omega), show ((2 * max (k : Int) 0 + 1 - 1) / 2).toNat = k by omega, ps_get e2, if_neg (by omega), e3, UInt8.ofNat_toNat, Int.add_zero, chU_of]
    · rw [if_neg h128] at h'
      exact absurd (show (-1 : Int) < 0 by decide) h'
theorem put_len : ∀ (zs L : List Int) (k : Nat), (putAt L k zs).length = L.length
  | [], L, k => rfl
  | z :: zs, L, k => by rw [putAt, put_len zs, List.length_set]
theorem put_get : ∀ (zs L : List Int) (k j : Nat), k + zs.length ≤ L.length → (putAt L k zs)[j]? = if k ≤ j ∧ j < k + zs.length then zs[j - k]? else L[j]?
  | [], L, k, j, h => by rw [putAt, if_neg (by simp)]
  | z :: zs, L, k, j, h => by
    rw [List.length_cons] at h ⊢
    rw [putAt, put_get zs (L.set k z) (k + 1) j (by rw [List.length_set]; omega)]
    by_cases h1 : k + 1 ≤ j ∧ j < k + 1 + zs.length
    · rw [if_pos h1, if_pos (by omega), show j - k = (j - (k + 1)) + 1 by omega, List.getElem?_cons_succ]
    · rw [if_neg h1]
      by_cases h2 : j = k
      · subst h2
        rw [if_pos (by omega), Nat.sub_self, List.getElem?_cons_zero, List.getElem?_set_self (by omega)]
      · rw [if_neg (by omega), List.getElem?_set_ne (by omega)]
theorem rows_says : ∀ (y : Nat) (x : RdM), (rowsL y x).bad = false → 0 ≤ x.r.width → y * x.r.width.toNat ≤ x.r.start.length → x.bad = false ∧ ∃ S : List Int, S.length = x.r.start.length ∧ (∀ k, y * x.r.width.toNat ≤ k → S[k]? = x.r.start[k]?) ∧ rowsL y x = { x with lines := (rowsL y x).lines, r := { x.r with start := S } } ∧ x.lines = (((List.range y).map fun j => lineT (rowWs { x.r with start := S } j)).reverse) ++ (rowsL y x).lines
  | 0, x, h, _, _ => ⟨h, x.r.start, rfl, fun _ _ => rfl, rfl, rfl⟩
  | y + 1, x, h, hw, hs => by
    rw [rowsL] at h ⊢
    simp only at h ⊢
    by_cases hl : (((mustR wRow 1 x).1.getD 0 []).length : Int) = (mustR wRow 1 x).2.r.width
    · rw [if_pos hl] at h ⊢
      have hmb : ∀ u, (rowsL y u).bad = false → 0 ≤ u.r.width → y * u.r.width.toNat ≤ u.r.start.length → u.bad = false := fun u a b c => (rows_says y u a b c).1
      have hbad : (mustR wRow 1 x).2.bad = false := by
        have hwd : (mustR wRow 1 x).2.r = x.r := by
          unfold mustR
          cases hn : nextR wRow 1 x with
          | none => rfl
          | some p => obtain ⟨l, x'⟩ := p; rw [(next_says hn).2.2]
        have h2 := hmb _ h (by show 0 ≤ (mustR wRow 1 x).2.r.width; rw [hwd]; exact hw) (by
          show y * (mustR wRow 1 x).2.r.width.toNat ≤ (putAt (mustR wRow 1 x).2.r.start _ _).length
          rw [put_len, hwd]
          rw [Nat.add_mul] at hs
          omega)
        unfold rowR at h2
        exact (Bool.or_eq_false_iff.1 h2).1
      obtain ⟨b0, e1, e2, e3⟩ := must_says hbad
      generalize hM : mustR wRow 1 x = M at *
      obtain ⟨l, x1⟩ := M
      simp only at e1 e2 e3 h hl ⊢
      match l, e2 with
      | [s], _ =>
        simp only [List.getD_cons_zero] at h hl ⊢
        rw [e3] at h hl ⊢
        obtain ⟨xl, xr, xt, xb⟩ := x
        simp only at *
        have hWn : s.length = xr.width.toNat := by omega
        have hsl : y * xr.width.toNat + xr.width.toNat ≤ xr.start.length := by rw [Nat.add_mul, Nat.one_mul] at hs; exact hs
        obtain ⟨b1, S, f1, f2, f3, f4⟩ := rows_says y (rowR ⟨x1.lines, xr, xt, xb⟩ y s) h hw (by show y * xr.width.toNat ≤ (putAt xr.start _ _).length; rw [put_len]; omega)
        have hany : s.any (cellBad xr.pieces) = false := by unfold rowR at b1; exact (Bool.or_eq_false_iff.1 b1).2
        have hrow : ∀ k, y * xr.width.toNat ≤ k → S[k]? = if y * xr.width.toNat ≤ k ∧ k < y * xr.width.toNat + xr.width.toNat then (s.map (cellV xr.pieces))[k - y * xr.width.toNat]? else xr.start[k]? := fun k hk => by
          rw [f2 k hk]
          show (putAt xr.start (y * xr.width.toNat) (s.map (cellV xr.pieces)))[k]? = _
          rw [put_get _ _ _ _ (by rw [List.length_map]; omega), List.length_map, hWn]
        have hseg : (S.drop (y * xr.width.toNat)).take xr.width.toNat = s.map (cellV xr.pieces) := by
          apply List.ext_getElem?
          intro j
          by_cases hj : j < xr.width.toNat
          · rw [List.getElem?_take_of_lt hj, List.getElem?_drop, hrow _ (by omega), if_pos (by omega), Nat.add_sub_cancel_left]
          · rw [List.getElem?_eq_none (by rw [List.length_take]; omega), List.getElem?_eq_none (by rw [List.length_map]; omega)]
        refine ⟨b0, S, by rw [f1]; exact put_len _ _ _, fun k hk => ?_, ?_, ?_⟩
        · rw [Nat.add_mul, Nat.one_mul] at hk
          rw [hrow k (by omega), if_neg (by omega)]
        · rw [f3]
          unfold rowR
          simp only [hany, Bool.or_false]
        · rw [e1, List.range_succ, List.map_append, List.reverse_append, List.map_singleton, List.reverse_singleton, List.singleton_append, List.cons_append]
          refine congr (congrArg _ ?_) f4
          unfold rowWs
          simp only
          rw [hseg, List.map_map]
          have : s.map (cellT xr.pieces ∘ cellV xr.pieces) = s := by
            conv => rhs; rw [← List.map_id s]
            apply List.map_congr_left
            intro b hb
            refine cell_says ?_
            cases hc : cellBad xr.pieces b with
            | false => rfl
            | true => rw [← hany]; exact (List.any_eq_true.2 ⟨b, hb, hc⟩).symm
          rw [this]
    · rw [if_neg hl] at h
      exact absurd (mark_bad h).2 (by decide)
theorem how_says {c : BL} (h : decide (ixW howL c < 0) = false) : (if decide (max (ixW howL c) 0 = 1) = true then wLoses else wWins) = c := by
  obtain ⟨h1, h2⟩ := idx_says h
  generalize hk : max (ixW howL c) 0 = k at *
  have h0 : 0 ≤ k := by omega
  have h3 : k = 0 ∨ k = 1 := by
    have : k < 2 := h2
    omega
  rcases h3 with rfl | rfl
  · rw [if_neg (by decide)]; exact h1
  · rw [if_pos (by decide)]; exact h1
theorem end_says {ps : List PieceM} {l : BL} (hp : endPre.isPrefixOf l = true) (h : endBad ps (splitL 32 l) = false) : lineT (endWs ps (endV ps (splitL 32 l))) = l := by
  obtain ⟨l', rfl⟩ := List.isPrefixOf_iff_prefix.1 hp
  have hsp : splitL 32 (endPre ++ l') = wEnd :: splitL 32 l' := split_cat (c := 32) (x := wEnd) l' (by decide)
  have hj : lineT (wEnd :: splitL 32 l') = endPre ++ l' := by unfold lineT; rw [← hsp]; exact join_split 32 _
  rw [hsp] at h ⊢
  rw [← hj]
  generalize splitL 32 l' = ws at *
  congr 1
  unfold endBad at h
  rw [Bool.or_eq_false_iff] at h
  obtain ⟨ha, hb⟩ := h
  have hhow := how_says hb
  unfold endV
  by_cases h1 : (wEnd :: ws).length = 4 ∧ (wEnd :: ws).getD 1 [] = wLine
  · rw [if_pos h1] at ha
    rw [if_pos h1]
    match ws, h1 with
    | [a, b, c], h1 =>
      have e1 : a = wLine := h1.2
      have e2 : itoa (numV b) = b := num_says ha
      have e3 : (if decide (max (ixW howL c) 0 = 1) = true then wLoses else wWins) = c := hhow
      show [wEnd, wLine, itoa (numV b), (if decide (max (ixW howL c) 0 = 1) = true then wLoses else wWins)] = _
      rw [e1, e2, e3]
  · rw [if_neg h1] at ha
    rw [if_neg h1]
    by_cases h2 : (wEnd :: ws).length = 4 ∧ (wEnd :: ws).getD 1 [] = wReach
    · rw [if_pos h2] at ha
      rw [if_pos h2]
      match ws, h2 with
      | [a, b, c], h2 =>
        have e1 : a = wReach := h2.2
        have e2 : letT ps (max (pieceIx ps b) 0 + 1) = b := piece_says ha
        have e3 : (if decide (max (ixW howL c) 0 = 1) = true then wLoses else wWins) = c := hhow
        show [wEnd, wReach, letT ps (max (pieceIx ps b) 0 + 1), (if decide (max (ixW howL c) 0 = 1) = true then wLoses else wWins)] = _
        rw [e1, e2, e3]
    · rw [if_neg h2] at ha
      rw [if_neg h2]
      by_cases h3 : (wEnd :: ws).length = 5 ∧ (wEnd :: ws).getD 1 [] = wTake
      · rw [if_pos h3] at ha
        rw [if_pos h3]
        match ws, h3 with
        | [a, b, n, c], h3 =>
          have e1 : a = wTake := h3.2
          obtain ⟨ha1, ha2⟩ := Bool.or_eq_false_iff.1 ha
          have e2 : letT ps (max (pieceIx ps b) 0 + 1) = b := piece_says ha1
          have e4 : itoa (numV n) = n := num_says ha2
          have e3 : (if decide (max (ixW howL c) 0 = 1) = true then wLoses else wWins) = c := hhow
          show [wEnd, wTake, letT ps (max (pieceIx ps b) 0 + 1), itoa (numV n), (if decide (max (ixW howL c) 0 = 1) = true then wLoses else wWins)] = _
          rw [e1, e2, e3, e4]
      · rw [if_neg h3] at ha
        cases ha
theorem ends_says : ∀ (f : Nat) (x : RdM), (endsR f x).bad = false → x.bad = false ∧ ∃ more : List EndM, endsR f x = { x with lines := (endsR f x).lines, r := { x.r with ends := x.r.ends ++ more } } ∧ x.lines = more.map (fun e => lineT (endWs x.r.pieces e)) ++ (endsR f x).lines
  | 0, x, h => ⟨h, [], by simp [endsR], rfl⟩
  | f + 1, x, h => by
    rw [endsR] at h ⊢
    split at h
    · rename_i hl
      exact ⟨h, [], by simp, rfl⟩
    · rename_i l ls hl
      by_cases hc : endPre.isPrefixOf l = true ∧ x.bad = false
      · rw [if_pos hc] at h
        simp only [hl]
        rw [if_pos hc]
        obtain ⟨b, more, e1, e2⟩ := ends_says f _ h
        have b2 := (Bool.or_eq_false_iff.1 b).2
        refine ⟨hc.2, endV x.r.pieces (splitL 32 l) :: more, ?_, ?_⟩
        · rw [e1]
          simp only [hc.2, b2, Bool.or_false, List.append_assoc, List.singleton_append]
        · rw [List.map_cons, end_says hc.1 b2, List.cons_append]
          exact congrArg _ e2
      · rw [if_neg hc] at h
        simp only [hl]
        rw [if_neg hc]
        exact ⟨h, [], by rw [List.append_nil], by rw [hl]; rfl⟩
theorem flag_says {w : BL} {x : RdM} : x.lines = (flagWs (flagR w x).1 w).map lineT ++ (flagR w x).2.lines ∧ (flagR w x).2 = { x with lines := (flagR w x).2.lines } := by
  unfold flagR
  cases hn : nextR w 0 x with
  | none => exact ⟨rfl, rfl⟩
  | some p =>
    obtain ⟨l, x'⟩ := p
    obtain ⟨h1, h2, h3⟩ := next_says hn
    obtain rfl := List.length_eq_zero_iff.1 h2
    exact ⟨h1, h3⟩
theorem prom_bad : ∀ (ts : List BL) (i : Nat) (x : RdM), (promR i ts x).bad = false → x.bad = false
  | [], _, x, h => h
  | s :: r, i, x, h => by
    rw [promR] at h
    have h2 := prom_bad r (i + 1) _ h
    split at h2
    · exact h2
    · exact (Bool.or_eq_false_iff.1 h2).1
/-- The pieces, read. -/
theorem piecesR_says {x : RdM} (h0 : x.r.pieces = []) (h1 : x.tos = []) (h : (piecesR x).bad = false) : x.bad = false ∧ ∃ (ps : List PieceM) (ts : List BL), piecesR x = { x with lines := (piecesR x).lines, tos := ts, r := { x.r with pieces := ps } } ∧ x.lines = (ps.flatMap (pieceLs ps)).map lineT ++ (piecesR x).lines := by
  unfold piecesR at h ⊢
  simp only at h ⊢
  have hb : (piecesL (x.lines.length + 1) x).1.bad = false := by
    split at h
    · exact prom_bad _ _ _ h
    · exact h
  obtain ⟨b, e0, ts, ps, e1, e2, e3, e4⟩ := pieces_says _ _ hb
  rw [if_pos e0] at h ⊢
  rw [h0, h1, List.nil_append, List.nil_append] at e4
  generalize piecesL (x.lines.length + 1) x = Y at *
  obtain ⟨⟨Ya, Yb, Yc, Yd⟩, Y2⟩ := Y
  simp only [RdM.mk.injEq] at e4
  obtain ⟨-, rfl, rfl, rfl⟩ := e4
  simp only at *
  have hf := prom_form (ps.map (·.letter)) Yc 0 ⟨Ya, { x.r with pieces := ps }, Yc, x.bad⟩ [] ps rfl rfl e1.symm rfl ps rfl
  rw [hf] at h ⊢
  have hany := (Bool.or_eq_false_iff.1 h).2
  refine ⟨b, List.zipWith (proV ps) ps Yc, Yc, ?_, ?_⟩
  · simp only [hany, Bool.or_false, List.nil_append]
  · rw [e3, rough_done ps (List.zipWith (proV ps) ps Yc) (zip_let ps ps Yc e1.symm).symm ps Yc e1.symm e2 hany]
theorem game_says {body : BL} (h : (gameR body).bad = false) : ∃ (n : BL) (W H : Int) (L : List BL), gameR body = ⟨L, { rules0 with name := ⟨n.toArray⟩, width := W, height := H }, [], false⟩ ∧ splitL 10 body = lineT [wGame, n, itoa W, itoa H] :: L := by
  unfold gameR at h ⊢
  simp only at h ⊢
  obtain ⟨h1, h3⟩ := Bool.or_eq_false_iff.1 h
  obtain ⟨h1, h2⟩ := Bool.or_eq_false_iff.1 h1
  obtain ⟨-, e1, e2, e3⟩ := must_says h1
  generalize mustR wGame 3 ⟨splitL 10 body, rules0, [], false⟩ = M at *
  obtain ⟨l, x1⟩ := M
  simp only at *
  match l, e2 with
  | [a, b, c], _ =>
    have e4 : itoa (numV b) = b := num_says h2
    have e5 : itoa (numV c) = c := num_says h3
    refine ⟨a, numV b, numV c, x1.lines, ?_, by rw [e4, e5]; exact e1⟩
    rw [e3]
    have h2' : numBad b = false := h2
    have h3' : numBad c = false := h3
    show (⟨x1.lines, { rules0 with name := ⟨a.toArray⟩, width := numV b, height := numV c }, [], (false || numBad b) || numBad c⟩ : RdM) = _
    rw [h2', h3']
    rfl
theorem word_says {w : BL} {x : RdM} (h : (mustR w 1 x).2.bad = false) : x.bad = false ∧ x.lines = lineT [w, (mustR w 1 x).1.getD 0 []] :: (mustR w 1 x).2.lines ∧ (mustR w 1 x).2 = { x with lines := (mustR w 1 x).2.lines } := by
  obtain ⟨b, e1, e2, e3⟩ := must_says h
  generalize mustR w 1 x = M at *
  obtain ⟨l, x1⟩ := M
  simp only at *
  match l, e2 with
  | [a], _ => exact ⟨b, e1, e3⟩
theorem rept_says {x : RdM} (h : (reptR x).bad = false) : x.bad = false ∧ ∃ v, (reptR x).r = { x.r with rept := v } ∧ x.lines = lineT [wRepeat, itoa v] :: (reptR x).lines := by
  unfold reptR at h ⊢
  simp only at h ⊢
  obtain ⟨c1, c2⟩ := Bool.or_eq_false_iff.1 h
  obtain ⟨b, e1, e2⟩ := word_says c1
  refine ⟨b, _, ?_, by rw [num_says c2]; exact e1⟩
  rw [e2]
theorem quiet_says {x : RdM} (h : (quietR x).bad = false) : x.bad = false ∧ ∃ v, (quietR x).r = { x.r with quiet := v } ∧ x.lines = lineT [wQuiet, itoa v] :: (quietR x).lines := by
  unfold quietR at h ⊢
  simp only at h ⊢
  obtain ⟨c1, c2⟩ := Bool.or_eq_false_iff.1 h
  obtain ⟨b, e1, e2⟩ := word_says c1
  refine ⟨b, _, ?_, by rw [num_says c2]; exact e1⟩
  rw [e2]
theorem blocked_says {x : RdM} (h : (blockedR x).bad = false) : x.bad = false ∧ ∃ v : Int, (blockedR x).r = { x.r with blocked := v } ∧ x.lines = lineT [wBlocked, blocksL.getD v.toNat []] :: (blockedR x).lines := by
  unfold blockedR at h ⊢
  simp only at h ⊢
  obtain ⟨c1, c2⟩ := Bool.or_eq_false_iff.1 h
  obtain ⟨b, e1, e2⟩ := word_says c1
  refine ⟨b, _, ?_, by rw [(idx_says c2).1]; exact e1⟩
  rw [e2]
theorem falls_says {x : RdM} (h : (fallsR x).bad = false) : x.bad = false ∧ ∃ v, (fallsR x).r = { x.r with falls := v } ∧ x.lines = (flagWs v wFalls).map lineT ++ (fallsR x).lines := by
  obtain ⟨j1, j2⟩ := @flag_says wFalls x
  unfold fallsR at h ⊢
  simp only at h ⊢
  refine ⟨by rw [j2] at h; exact h, _, ?_, j1⟩
  rw [j2]
theorem keeps_says {x : RdM} (h : (keepsR x).bad = false) : x.bad = false ∧ ∃ v, (keepsR x).r = { x.r with keeps := v } ∧ x.lines = (flagWs v wKeeps).map lineT ++ (keepsR x).lines := by
  obtain ⟨j1, j2⟩ := @flag_says wKeeps x
  unfold keepsR at h ⊢
  simp only at h ⊢
  refine ⟨by rw [j2] at h; exact h, _, ?_, j1⟩
  rw [j2]
theorem rowsR_says {x : RdM} (h : (rowsR x).bad = false) (hw : 0 ≤ x.r.width) (hh : 0 ≤ x.r.height) : x.bad = false ∧ ∃ S, (rowsR x).r = { x.r with start := S } ∧ x.lines = (rowsWs { x.r with start := S }).map lineT ++ (rowsR x).lines := by
  unfold rowsR at h ⊢
  have hl : x.r.height.toNat * x.r.width.toNat ≤ (List.replicate (x.r.width * x.r.height).toNat (0 : Int)).length := by
    rw [List.length_replicate, Int.toNat_mul hw hh, Nat.mul_comm]
    exact Nat.le_refl _
  obtain ⟨b, S, s1, s2, s3, s4⟩ := rows_says x.r.height.toNat { x with r := { x.r with start := List.replicate (x.r.width * x.r.height).toNat 0 } } h hw hl
  refine ⟨b, S, by rw [s3], ?_⟩
  unfold rowsWs
  rw [List.map_reverse, List.map_map]
  exact s4
theorem parse_says {s : BL} {R : RulesM} (h : parseR s = some R) : rulesE R = 0 ∧ printT R = s ∧ s.length ≤ 8192 := by
  unfold parseR at h
  split at h
  · cases h
  rename_i hlen
  split at h
  · cases h
  rename_i hlast
  split at h
  · cases h
  rename_i hg
  split at h
  · cases h
  rename_i hpb
  simp only at h
  split at h
  · cases h
  rename_i hx
  split at h
  · cases h
  rename_i hE
  injection h with h
  have hE' : rulesE R = 0 := by rw [← h]; exact Classical.byContradiction hE
  refine ⟨hE', ?_, by omega⟩
  clear hE hE'
  have hs : s = s.dropLast ++ [10] := by
    have hl : s.getLast? = some 10 := Classical.byContradiction hlast
    have hne : s ≠ [] := fun e => by rw [e] at hl; cases hl
    have h2 := List.dropLast_concat_getLast hne
    rw [List.getLast?_eq_some_getLast hne] at hl
    rw [Option.some.inj hl] at h2
    exact h2.symm
  have hg' : (gameR s.dropLast).bad = false := by
    unfold gameBad at hg
    rw [Bool.not_eq_true] at hg
    exact (Bool.or_eq_false_iff.1 hg).1
  have hW : 1 ≤ (gameR s.dropLast).r.width ∧ (gameR s.dropLast).r.width ≤ 8 ∧ 1 ≤ (gameR s.dropLast).r.height ∧ (gameR s.dropLast).r.height ≤ 8 := by
    unfold gameBad at hg
    rw [Bool.not_eq_true] at hg
    simp only [Bool.or_eq_false_iff, decide_eq_false_iff_not] at hg
    omega
  obtain ⟨n, W, H, L, g1, g2⟩ := game_says hg'
  rw [g1] at hpb hx hW h
  simp only at hW
  rw [Bool.not_eq_true] at hpb
  obtain ⟨-, ps, ts, p1, p2⟩ := piecesR_says rfl rfl hpb
  generalize piecesR _ = X at *
  have hb : (restR X).bad = false := by
    cases hh : (restR X).bad with
    | false => rfl
    | true => exact absurd (.inl hh) hx
  have hnil : (restR X).lines = [] := Classical.byContradiction fun hh => hx (.inr hh)
  clear hx
  have hXr : X.r = { rules0 with name := ⟨n.toArray⟩, width := W, height := H, pieces := ps } := by rw [p1]
  unfold restR at hb hnil h
  simp only at hb hnil h
  obtain ⟨hb, v1, r1, l1⟩ := rept_says hb
  obtain ⟨hb, v2, r2, l2⟩ := quiet_says hb
  obtain ⟨hb, v3, r3, l3⟩ := blocked_says hb
  obtain ⟨hb, es, r4, l4⟩ := ends_says _ _ hb
  obtain ⟨hb, v5, r5, l5⟩ := keeps_says hb
  obtain ⟨hb, v6, r6, l6⟩ := falls_says hb
  obtain ⟨-, S, r7, l7⟩ := rowsR_says hb (by rw [hXr]; simp only; omega) (by rw [hXr]; simp only; omega)
  replace r4 := congrArg RdM.r r4
  simp only at r4
  rw [r5, r6, r7, hXr] at l4
  rw [hXr] at l7
  rw [r1, r2, r3, r4, r5, r6, r7, hXr] at h
  simp only at h l4 l7
  rw [hnil] at l1
  rw [l1] at l2
  rw [l2] at l3
  rw [l3] at l4
  rw [l4] at l5
  rw [l5] at l6
  rw [l6] at l7
  rw [l7] at p2
  change L = _ at p2
  rw [p2] at g2
  have hj := join_split 10 s.dropLast
  rw [g2] at hj
  rw [hs, ← hj, ← h]
  unfold printT linesT linesW
  simp only [List.map_cons, List.map_append, List.map_map, headWs, tailWs, List.map_nil]
  rfl
end Go.Proofs.YtdoibgmmijhlfaaDoor
