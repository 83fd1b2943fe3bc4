/- Walks over the package moves: filled; rules.IsLast. Walks over the package moves: way. Plain facts on the pieces that may be put, for the walk of puts. -/
import Derived.Test.YtdoibgmmijhlfaaGBase
import Derived.Test.YtdoibgmmijhlfaaMirror
import Derived.Deep.QuietTactic
import Derived.BigQuiet
import Derived.Test.YtdoibgmmijhlfaaAppend
import Derived.Test.YtdoibgmmijhlfaaOther
namespace Go.Proofs.Ytdoibgmmijhlfaa
open Go.ChangeShapes Go.WideShapes Go.ChangeAt Go.RowKit
set_option linter.unusedVariables false
/-- Are all lower squares of the column of square x occupied? -/
def fillA (cs : List Int) (W x : Nat) : Bool := fillB cs W x x
theorem fillB_fuel (cs : List Int) (W : Nat) (hW : 1 ≤ W) : ∀ n x, x ≤ n → fillB cs W n x = fillB cs W x x
  | 0, x, h => by obtain rfl : x = 0 := by omega
                  rfl
  | n + 1, 0, _ => by
    show (if 0 < W then true else _) = true
    rw [if_pos (by omega)]
  | n + 1, x + 1, h => by
    show (if x + 1 < W then true else if cs.getD (x + 1 - W) 0 = 0 then false else fillB cs W n (x + 1 - W)) = (if x + 1 < W then true else if cs.getD (x + 1 - W) 0 = 0 then false else fillB cs W x (x + 1 - W))
    rw [fillB_fuel cs W hW n (x + 1 - W) (by omega), fillB_fuel cs W hW x (x + 1 - W) (by omega)]
theorem fillA_low {cs : List Int} {W x : Nat} (h : x < W) : fillA cs W x = true := by
  unfold fillA
  cases x with
  | zero => rfl
  | succ x =>
    show (if x + 1 < W then true else _) = true
    rw [if_pos h]
theorem fillA_step {cs : List Int} {W x : Nat} (hW : 1 ≤ W) (h : W ≤ x) : fillA cs W x = if cs.getD (x - W) 0 = 0 then false else fillA cs W (x - W) := by
  unfold fillA
  obtain ⟨y, rfl⟩ : ∃ y, x = y + 1 := ⟨x - 1, by omega⟩
  show (if y + 1 < W then true else if cs.getD (y + 1 - W) 0 = 0 then false else fillB cs W y (y + 1 - W)) = _
  rw [if_neg (by omega), fillB_fuel cs W hW y (y + 1 - W) (by omega)]
set_option maxHeartbeats 1000000 in
theorem filled_any (R : RulesM) (P : PosM) (v u : Value) (s W : Nat) (w : World) (hR : RulesAt w v R) (hP : PosAt w u P) (hW : R.width = W) (h1 : 1 ≤ W) (h8 : W ≤ 8) (hs : s < P.cells.length) (h64 : P.cells.length ≤ 64) :
    Calls Try.prog 112 #[v, u, .int .i64 (s : Int)] w fun e w' => e = .returned (.bool (fillA P.cells W s)) ∧ Ext w w' := by
  obtain ⟨pA, pc, sA, sc, eA, ec, rfl, -⟩ := hR
  obtain ⟨cA, cc, aA, ac, bA, bc, rfl, hc, -⟩ := hP
  rw [hW]
  clear hW
  obtain ⟨x1, k1, k2⟩ := blks2 w #[.string R.name, .int .i64 (W : Int), .int .i64 R.height, .slice pA R.pieces.length pc, .slice sA R.start.length sc, .bool R.falls, .bool R.keeps, .slice eA R.ends.length ec, .int .i64 R.blocked, .int .i64 R.quiet, .int .i64 R.rept] 26 #[.slice cA P.cells.length cc, .slice aA P.hand0.length ac, .slice bA P.hand1.length bc, .int .i64 P.turn, .int .i64 P.quiet] 29
  have hc' := hide (hc.ext x1)
  have X := hide x1
  clear hc x1
  go_enter Try.func112, Try.ntmps112
  go_wp2
  generalize ((w.alloc (.cells #[.string R.name, .int .i64 (W : Int), .int .i64 R.height, .slice pA R.pieces.length pc, .slice sA R.start.length sc, .bool R.falls, .bool R.keeps, .slice eA R.ends.length ec, .int .i64 R.blocked, .int .i64 R.quiet, .int .i64 R.rept] 26)).alloc (.cells #[.slice cA P.cells.length cc, .slice aA P.hand0.length ac, .slice bA P.hand1.length bc, .int .i64 P.turn, .int .i64 P.quiet] 29)) = w2 at *
  generalize w.heap.size + 1 = B2 at *
  generalize w.heap.size = B1 at *
  have f1 : w2.cell? ⟨B1, 1, none⟩ = some (.int .i64 (W : Int)) := k1.cell 1
  have f2 : w2.cell? ⟨B2, 0, none⟩ = some (.slice cA P.cells.length cc) := k2.cell 0
  clear k1 k2
  go_loop [2] (fun z => ∃ x : Nat, x ≤ s ∧ z = .int .i64 ((x : Int) - W) ∧ Hid (fillA P.cells W x = fillA P.cells W s)) (fun z => (intOf z + W).toNat)
  case atStart => exact ⟨s, Nat.le_refl _, rfl, hide rfl⟩
  case round =>
    obtain ⟨x, hx, rfl, hT⟩ := hrel
    by_cases hlt : x < W
    · have HF := hide (hT.out.symm.trans (fillA_low hlt))
      clear hT
      have hn : ¬ (0 : Int) ≤ (x : Int) - W := by omega
      go_wp2
      go_ret
      exact ⟨by rw [HF.out]; rfl, X.out⟩
    · obtain ⟨y, rfl⟩ : ∃ y, x = y + W := ⟨x - W, by omega⟩
      have HF := hide (hT.out.symm.trans (fillA_step h1 (by omega)))
      rw [Nat.add_sub_cancel] at HF
      obtain ⟨b, o, rfl, hcell⟩ := hc'.out y (by omega)
      have e : ((y + W : Nat) : Int) - W = y := by omega
      rw [e]
      clear hT e
      generalize hz : P.cells.getD y 0 = z at *
      by_cases h0 : z = 0
      · subst h0
        have HF2 : Hid (fillA P.cells W s = false) := hide (by rw [HF.out]; rfl)
        clear HF hz
        go_wp2
        go_ret
        exact ⟨by rw [HF2.out]; rfl, X.out⟩
      · have h0' : (z == 0) = false := by simpa using h0
        have HF2 : Hid (fillA P.cells W y = fillA P.cells W s) := hide (by rw [HF.out, if_neg h0])
        clear HF hz h0
        go_wp2
        go_round
        case rel => exact ⟨y, by omega, rfl, HF2⟩
        case measure => simp [intOf]; omega
theorem IsLast_any (R : RulesM) (v : Value) (p s : Int) (w : World) (hR : RulesAt w v R) (h1 : 1 ≤ R.width) (h8 : R.width ≤ 8) (g1 : 1 ≤ R.height) (g8 : R.height ≤ 8) (hp : p = 0 ∨ p = 1) (hs : 0 ≤ s) (hs64 : s ≤ 64) :
    Calls Try.prog 69 #[v, .int .i64 p, .int .i64 s] w fun e w' => e = .returned (.bool (lastM R p s)) ∧ Ext w w' := by
  obtain ⟨pA, pc, sA, sc, eA, ec, rfl, -⟩ := hR
  unfold lastM
  have hq0 : 0 ≤ s / R.width := Int.ediv_nonneg hs (by omega)
  have hq1 : s / R.width ≤ 64 := Int.le_trans (Int.ediv_le_self _ hs) hs64
  rcases hp with rfl | rfl
  · go_enter Try.func69, Try.ntmps69
    go_wp2
    go_quiet (fail)
    go_wp2
    go_ret
    exact ⟨by simp; rfl, ext_drewN (ext_alloc (Below.refl _ _) _) _⟩
  · go_enter Try.func69, Try.ntmps69
    go_wp2
    go_ret
    exact ⟨by simp; rfl, ext_alloc (Below.refl _ _) _⟩
end Go.Proofs.Ytdoibgmmijhlfaa
namespace Go.Proofs.Ytdoibgmmijhlfaa
open Go.ChangeShapes Go.WideShapes Go.ChangeAt Go.RowKit Go.Shelf
set_option linter.unusedVariables false
theorem wayB_bd {x : WayM} (h : wayB x = true) : (-7 ≤ x.dx ∧ x.dx ≤ 7) ∧ (-7 ≤ x.dy ∧ x.dy ≤ 7) ∧ (1 ≤ x.most ∧ x.most ≤ 7) ∧ (x.take = 0 ∨ x.take = 1 ∨ x.take = 2) := by
  unfold wayB at h
  simp only [Bool.and_eq_true, inB_iff] at h
  omega
theorem wayFrom_zero {W H turn take dx dy : Int} {cs : List Int} {x y : Int} : wayFrom W H turn take dx dy cs 0 x y = [] := rfl
theorem wayFrom_out {W H turn take dx dy : Int} {cs : List Int} {n : Nat} {x y : Int} (h : x + dx < 0 ∨ W ≤ x + dx ∨ y + dy < 0 ∨ H ≤ y + dy) : wayFrom W H turn take dx dy cs n x y = [] := by
  cases n with
  | zero => rfl
  | succ n => unfold wayFrom; rw [if_pos h]
theorem wayFrom_in {W H turn take dx dy : Int} {cs : List Int} {n j : Nat} {x y : Int} (h : ¬ (x + dx < 0 ∨ W ≤ x + dx ∨ y + dy < 0 ∨ H ≤ y + dy)) (e : (y + dy) * W + (x + dx) = (j : Int)) :
    wayFrom W H turn take dx dy cs (n + 1) x y = (if endsB turn take (cs.getD j 0) then [(j : Int)] else []) ++ (if cs.getD j 0 = 0 then wayFrom W H turn take dx dy cs n (x + dx) (y + dy) else []) := by
  show (if x + dx < 0 ∨ W ≤ x + dx ∨ y + dy < 0 ∨ H ≤ y + dy then [] else (if endsB turn take (cs.getD ((y + dy) * W + (x + dx)).toNat 0) then [(y + dy) * W + (x + dx)] else []) ++
      (if cs.getD ((y + dy) * W + (x + dx)).toNat 0 = 0 then wayFrom W H turn take dx dy cs n (x + dx) (y + dy) else [])) = _
  rw [if_neg h, e, Int.toNat_natCast]
theorem drewN_ext (w : World) (n : Nat) : Ext w (w.drewN n) := ext_drewN (Below.refl _ _) n
theorem OwnI.base {w0 w1 w : World} {v : Value} {xs : List Int} (h : OwnI w1 w v xs) (he : Ext w0 w1) : OwnI w0 w v xs := by
  obtain ⟨A, c, e, h⟩ := h
  exact ⟨A, c, e, own_mono h he.size⟩
theorem OwnM.base {w0 w1 w : World} {v : Value} {xs : List MoveM} (h : OwnM w1 w v xs) (he : Ext w0 w1) : OwnM w0 w v xs := by
  obtain ⟨A, c, e, h⟩ := h
  exact ⟨A, c, e, own_mono h he.size⟩
/-- The post of way. -/
def WayPost (w : World) (T : List Int) (e : Ending) (w' : World) : Prop := ∃ v', e = .returned v' ∧ OwnI w w' v' T ∧ Ext w w'
end Go.Proofs.Ytdoibgmmijhlfaa
namespace Go.Proofs.Ytdoibgmmijhlfaa
open Go.ChangeShapes Go.WideShapes Go.ChangeAt Go.RowKit Go.Shelf
set_option linter.unusedVariables false
theorem putsAt_succ (hd : List Int) (s m : Nat) : putsAt hd s (m + 1) = putsAt hd s m ++ (if 0 < hd.getD m 0 then [⟨-1, s, m⟩] else []) := by
  unfold putsAt
  rw [List.range_succ, List.flatMap_append]
  simp
theorem putsTo_succ (R : RulesM) (P : PosM) (k : Nat) : putsTo R P (k + 1) = putsTo R P k ++ (if putB R P k then putsAt P.hand k P.hand.length else []) := by
  unfold putsTo
  rw [List.range_succ, List.flatMap_append]
  simp
theorem putsAt_len (hd : List Int) (s : Nat) : ∀ m, (putsAt hd s m).length ≤ m
  | 0 => by simp [putsAt]
  | m + 1 => by
    have := putsAt_len hd s m
    rw [putsAt_succ, List.length_append]
    split <;> simp <;> omega
theorem putsTo_len (R : RulesM) (P : PosM) (h : P.hand.length ≤ 6) : ∀ k, (putsTo R P k).length ≤ 6 * k
  | 0 => by simp [putsTo]
  | k + 1 => by
    have := putsTo_len R P h k
    have h2 := putsAt_len P.hand k P.hand.length
    rw [putsTo_succ, List.length_append]
    split
    · omega
    · simp; omega
theorem putB_cell {R : RulesM} {P : PosM} {k : Nat} (h : P.cells.getD k 0 ≠ 0) : putB R P k = false := by
  unfold putB; rw [decide_eq_false h]; rfl
theorem putB_free {R : RulesM} {P : PosM} {k : Nat} (h : P.cells.getD k 0 = 0) (hf : R.falls = false) : putB R P k = true := by
  unfold putB; rw [decide_eq_true h, hf]; rfl
theorem putB_low {R : RulesM} {P : PosM} {k W : Nat} (h : P.cells.getD k 0 = 0) (hW : R.width = W) (hk : k < W) : putB R P k = true := by
  unfold putB
  rw [decide_eq_true h, hW, Int.toNat_natCast, decide_eq_true hk]
  simp
theorem putB_fill {R : RulesM} {P : PosM} {k W : Nat} (h : P.cells.getD k 0 = 0) (hf : R.falls = true) (hW : R.width = W) (hk : W ≤ k) : putB R P k = fillA P.cells W k := by
  unfold putB fillA
  rw [decide_eq_true h, hf, hW, Int.toNat_natCast, decide_eq_false (by omega)]
  simp
/-- The post of a function that returns moves of its own. -/
def MovesPost (w : World) (T : List MoveM) (e : Ending) (w' : World) : Prop := ∃ v', e = .returned v' ∧ OwnM w w' v' T ∧ Ext w w'
end Go.Proofs.Ytdoibgmmijhlfaa
