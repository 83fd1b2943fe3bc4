/- Walks over the package ends: holds. -/
import Derived.Test.YtcfiannlpkofpaaEndsW1
namespace Go.Proofs.Ytcfiannlpkofpaa
open Go.ChangeShapes Go.WideShapes Go.ChangeAt Go.RowKit Go.Shelf
set_option linter.unusedVariables false
def evals (x : EndM) : Value := .agg #[.int .i64 x.kind, .int .i64 x.piece, .int .i64 x.count, .bool x.loses]
def reachT (R : RulesM) (P : PosM) (piece p : Int) (s : Nat) : Bool := decide (P.cells.getD s 0 = 2 * piece + p + 1) && lastM R p s
set_option maxHeartbeats 4000000 in
set_option maxRecDepth 100000 in
theorem holds_line (R : RulesM) (P : PosM) (p piece : Int) (n : Nat) (l : Bool) (v u : Value) (w : World) (hR : RulesAt w v R) (hP : PosAt w u P) (hV : Valid R) (hS : Sound R P) (hp : p = 0 ∨ p = 1) (hn : n ≤ 64) :
    Calls Try.prog 98 #[v, u, .agg #[.int .i64 0, .int .i64 piece, .int .i64 (n : Int), .bool l], .int .i64 p] w fun e w' => e = .returned (.bool (lineB R P p n)) ∧ Ext w w' := by
  have HL := hide (fun W (hW : Ext w W) => line_any R P p n v u W (hR.ext hW) (hP.ext hW) hV hS hp hn)
  obtain ⟨pA, pc, sA, sc, eA, ec, rfl, -⟩ := hR
  obtain ⟨cA, cc, aA, ac, bA, bc, rfl, -⟩ := hP
  obtain ⟨x1, k1, k2, k3⟩ := blks3 w #[.string R.name, .int .i64 R.width, .int .i64 R.height, .slice pA R.pieces.length pc, .slice sA R.start.length sc, .bool R.falls, .bool R.keeps, .slice eA R.ends.length ec, .int .i64 R.blocked, .int .i64 R.quiet, .int .i64 R.rept] 26 #[.slice cA P.cells.length cc, .slice aA P.hand0.length ac, .slice bA P.hand1.length bc, .int .i64 P.turn, .int .i64 P.quiet] 36 #[.int .i64 0, .int .i64 piece, .int .i64 (n : Int), .bool l] 88
  have HX := hide x1
  have f1 := k1.cell
  have f2 := k2.cell
  have f3 := k3.cell
  clear x1 k1 k2 k3 hV hS hp hn
  generalize lineB R P p n = b at *
  go_enter Try.func98, Try.ntmps98
  go_wp2_with fail
  refine (HL.out _ HX.out).mono ?_
  rintro e w2 ⟨rfl, x2⟩
  clear f1 f2 f3
  go_wp2
  go_ret
  exact ⟨rfl, ext_trans HX.out x2⟩
set_option maxHeartbeats 4000000 in
set_option maxRecDepth 100000 in
theorem holds_reach (R : RulesM) (P : PosM) (p piece n : Int) (l : Bool) (v u : Value) (w : World) (hR : RulesAt w v R) (hP : PosAt w u P) (hV : Valid R) (hS : Sound R P) (hp : p = 0 ∨ p = 1) (h0 : 0 ≤ piece) (h6 : piece ≤ 6) :
    Calls Try.prog 98 #[v, u, .agg #[.int .i64 1, .int .i64 piece, .int .i64 n, .bool l], .int .i64 p] w fun e w' => e = .returned (.bool (reachB R P piece p)) ∧ Ext w w' := by
  have ha := hS.area
  have h64 : P.cells.length ≤ 64 := by have := area_bd _ _ hV.side; omega
  have HL := hide (fun (s : Nat) (hs : s < P.cells.length) W (hW : Ext w W) => IsLast_any R v p s W (hR.ext hW) hV.side.1 hV.side.2.1 hV.side.2.2.1 hV.side.2.2.2 hp (by omega) (by omega))
  have p0 : 0 ≤ p := by omega
  have p1 : p ≤ 1 := by omega
  obtain ⟨pA, pc, sA, sc, eA, ec, rfl, -⟩ := hR
  obtain ⟨cA, cc, aA, ac, bA, bc, rfl, hcc, -⟩ := hP
  obtain ⟨x1, k1, k2, k3⟩ := blks3 w #[.string R.name, .int .i64 R.width, .int .i64 R.height, .slice pA R.pieces.length pc, .slice sA R.start.length sc, .bool R.falls, .bool R.keeps, .slice eA R.ends.length ec, .int .i64 R.blocked, .int .i64 R.quiet, .int .i64 R.rept] 26 #[.slice cA P.cells.length cc, .slice aA P.hand0.length ac, .slice bA P.hand1.length bc, .int .i64 P.turn, .int .i64 P.quiet] 36 #[.int .i64 1, .int .i64 piece, .int .i64 n, .bool l] 88
  have HX := hide x1
  have K1 := hide k1
  have K3 := hide k3
  have HC := hide (hcc.ext x1)
  have f2 := k2.cell
  have f3 := k3.cell
  clear x1 k1 k2 k3 hV hS hp hcc ha
  go_enter Try.func98, Try.ntmps98
  go_wp2
  clear f2 f3
  generalize ((w.alloc (.cells #[.string R.name, .int .i64 R.width, .int .i64 R.height, .slice pA R.pieces.length pc, .slice sA R.start.length sc, .bool R.falls, .bool R.keeps, .slice eA R.ends.length ec, .int .i64 R.blocked, .int .i64 R.quiet, .int .i64 R.rept] 26)).alloc (.cells #[.slice cA P.cells.length cc, .slice aA P.hand0.length ac, .slice bA P.hand1.length bc, .int .i64 P.turn, .int .i64 P.quiet] 36)).alloc (.cells #[.int .i64 1, .int .i64 piece, .int .i64 n, .bool l] 88) = w2 at *
  generalize w.heap.size + 1 + 1 = B3 at *
  generalize w.heap.size + 1 = B2 at *
  generalize hB1 : w.heap.size = B1 at *
  have HB1 := hide hB1
  clear hB1
  go_loopw [29] (fun i wr => ∃ k : Nat, k ≤ P.cells.length ∧ i = .int .i64 k ∧ Ext w2 wr ∧ Hid (∀ s, s < k → reachT R P piece p s = false)) (fun i _ => P.cells.length - (intOf i).toNat)
  case atStart => exact ⟨0, Nat.zero_le _, rfl, Below.refl _ _, hide (fun s hs => by omega)⟩
  case round =>
    obtain ⟨k, hk, rfl, hext, hno⟩ := hrel
    have XO := hide hext
    clear hext
    by_cases hlt : k < P.cells.length
    · obtain ⟨bC, oC, rfl, hz⟩ := (HC.out.ext XO.out) k hlt
      have f1 := (K1.out.ext XO.out).cell
      have f3 := (K3.out.ext XO.out).cell
      have HT := hide (show reachT R P piece p k = (decide (P.cells.getD k 0 = 2 * piece + p + 1) && lastM R p k) from rfl)
      have HLC := hide (HL.out k hlt _ (ext_trans HX.out XO.out))
      generalize P.cells.getD k 0 = z at *
      have hstep : Hid (reachT R P piece p k = false → ∀ s, s < k + 1 → reachT R P piece p s = false) := hide (fun h s hs => by
        rcases (by omega : s < k ∨ s = k) with h1 | h1
        · exact hno.out s h1
        · subst h1; exact h)
      by_cases hzc : z = 2 * piece + p + 1
      · have t0 : (z == 2 * piece + p + 1) = true := by simpa using hzc
        have HT2 := hide (show reachT R P piece p k = lastM R p k by rw [HT.out, decide_eq_true hzc]; rfl)
        clear HT hzc
        go_wp2_with fail
        refine HLC.out.mono ?_
        rintro e w3 ⟨rfl, x3⟩
        have X3 := hide (ext_trans XO.out x3)
        clear f1 f3 x3
        cases hl : lastM R p k
        · have HF := hide (hstep.out (by rw [HT2.out, hl]))
          clear hl
          go_wp2
          go_roundw
          case rel => exact ⟨k + 1, by omega, by go_num, X3.out, HF⟩
          case measure => simp [intOf]; omega
        · have HF := hide (show reachB R P piece p = true from any_range_true hlt (show reachT R P piece p k = true by rw [HT2.out, hl]))
          clear hl
          go_wp2
          go_ret
          exact ⟨by rw [HF.out]; rfl, ext_trans HX.out X3.out⟩
      · have t0 : (z == 2 * piece + p + 1) = false := by simpa using hzc
        have HF := hide (hstep.out (by rw [HT.out, decide_eq_false hzc]; rfl))
        clear HT hzc f1
        go_wp2
        go_roundw
        case rel => exact ⟨k + 1, by omega, by go_num, XO.out, HF⟩
        case measure => simp [intOf]; omega
    · obtain rfl : k = P.cells.length := by omega
      have HE := hide (show reachB R P piece p = false from any_range_false hno.out)
      go_wp2
      go_ret
      exact ⟨by rw [HE.out]; rfl, ext_trans HX.out XO.out⟩
set_option maxHeartbeats 4000000 in
set_option maxRecDepth 100000 in
theorem holds_take (R : RulesM) (P : PosM) (p piece n : Int) (l : Bool) (v u : Value) (w : World) (hR : RulesAt w v R) (hP : PosAt w u P) (hV : Valid R) (hS : Sound R P) (hp : p = 0 ∨ p = 1) (h0 : 0 ≤ piece) (h6 : piece ≤ 6) :
    Calls Try.prog 98 #[v, u, .agg #[.int .i64 2, .int .i64 piece, .int .i64 n, .bool l], .int .i64 p] w fun e w' => e = .returned (.bool (decide ((countC P.cells (2 * piece + 1 - p + 1) : Int) < n))) ∧ Ext w w' := by
  have ha := hS.area
  have h64 : P.cells.length ≤ 64 := by have := area_bd _ _ hV.side; omega
  have p0 : 0 ≤ p := by omega
  have p1 : p ≤ 1 := by omega
  obtain ⟨pA, pc, sA, sc, eA, ec, rfl, -⟩ := hR
  obtain ⟨cA, cc, aA, ac, bA, bc, rfl, hcc, -⟩ := hP
  obtain ⟨x1, k1, k2, k3⟩ := blks3 w #[.string R.name, .int .i64 R.width, .int .i64 R.height, .slice pA R.pieces.length pc, .slice sA R.start.length sc, .bool R.falls, .bool R.keeps, .slice eA R.ends.length ec, .int .i64 R.blocked, .int .i64 R.quiet, .int .i64 R.rept] 26 #[.slice cA P.cells.length cc, .slice aA P.hand0.length ac, .slice bA P.hand1.length bc, .int .i64 P.turn, .int .i64 P.quiet] 36 #[.int .i64 2, .int .i64 piece, .int .i64 n, .bool l] 88
  have HX := hide x1
  have K3 := hide k3
  have HC := hide (hcc.ext x1)
  have f2 := k2.cell
  have f3 := k3.cell
  clear x1 k1 k2 k3 hV hS hp hcc ha
  go_enter Try.func98, Try.ntmps98
  go_wp2
  clear f2 f3
  generalize ((w.alloc (.cells #[.string R.name, .int .i64 R.width, .int .i64 R.height, .slice pA R.pieces.length pc, .slice sA R.start.length sc, .bool R.falls, .bool R.keeps, .slice eA R.ends.length ec, .int .i64 R.blocked, .int .i64 R.quiet, .int .i64 R.rept] 26)).alloc (.cells #[.slice cA P.cells.length cc, .slice aA P.hand0.length ac, .slice bA P.hand1.length bc, .int .i64 P.turn, .int .i64 P.quiet] 36)).alloc (.cells #[.int .i64 2, .int .i64 piece, .int .i64 n, .bool l] 88) = w2 at *
  generalize w.heap.size + 1 + 1 = B3 at *
  generalize w.heap.size + 1 = B2 at *
  generalize hB1 : w.heap.size = B1 at *
  have HB1 := hide hB1
  clear hB1
  have f3 := K3.out.cell
  go_loop [11, 52] (fun o i => ∃ k : Nat, k ≤ P.cells.length ∧ i = .int .i64 k ∧ o = .int .i64 (countC (P.cells.take k) (2 * piece + 1 - p + 1) : Int)) (fun _ i => P.cells.length - (intOf i).toNat)
  case atStart => exact ⟨0, Nat.zero_le _, rfl, rfl⟩
  case round =>
    obtain ⟨k, hk, rfl, rfl⟩ := hrel
    have hcl : countC (P.cells.take k) (2 * piece + 1 - p + 1) ≤ 64 := Nat.le_trans (countC_le _ _) (by rw [List.length_take]; omega)
    by_cases hlt : k < P.cells.length
    · obtain ⟨bC, oC, rfl, hz⟩ := HC.out k hlt
      have HS := hide (countC_take P.cells (2 * piece + 1 - p + 1) k hlt)
      generalize countC (P.cells.take k) (2 * piece + 1 - p + 1) = s at *
      generalize P.cells.getD k 0 = z at *
      by_cases hzc : z = 2 * piece + 1 - p + 1
      · have t0 : (z == 2 * piece + 1 - p + 1) = true := by simpa using hzc
        have HN := hide (HS.out.trans (by rw [if_pos hzc]))
        clear HS hzc
        go_wp2
        go_round
        case rel => exact ⟨k + 1, by omega, by go_num, by rw [HN.out]; go_num⟩
        case measure => simp [intOf]; omega
      · have t0 : (z == 2 * piece + 1 - p + 1) = false := by simpa using hzc
        have HN := hide (HS.out.trans (by rw [if_neg hzc, Nat.add_zero]))
        clear HS hzc
        go_wp2
        go_round
        case rel => exact ⟨k + 1, by omega, by go_num, by rw [HN.out]⟩
        case measure => simp [intOf]; omega
    · obtain rfl : k = P.cells.length := by omega
      have HE := hide (show countC (P.cells.take P.cells.length) (2 * piece + 1 - p + 1) = countC P.cells (2 * piece + 1 - p + 1) by rw [List.take_length])
      clear hcl
      go_wp2
      go_ret
      exact ⟨by rw [← HE.out]; rfl, HX.out⟩
/-- holds answers holdsB. -/
theorem holds_any (R : RulesM) (P : PosM) (p : Int) (x : EndM) (v u : Value) (w : World) (hR : RulesAt w v R) (hP : PosAt w u P) (hV : Valid R) (hS : Sound R P) (hp : p = 0 ∨ p = 1) (hx : x ∈ R.ends) :
    Calls Try.prog 98 #[v, u, .agg #[.int .i64 x.kind, .int .i64 x.piece, .int .i64 x.count, .bool x.loses], .int .i64 p] w fun e w' => e = .returned (.bool (holdsB R P p x)) ∧ Ext w w' := by
  have hf := ends_facts hV hx
  have h6 := hV.pieces6
  obtain ⟨kind, piece, count, loses⟩ := x
  simp only at hf ⊢
  rcases hf with ⟨rfl, h1, h2⟩ | ⟨rfl, h1, h2⟩ | ⟨rfl, h1, h2, h3, h4⟩
  · obtain ⟨n, rfl⟩ := Int.eq_ofNat_of_zero_le (show 0 ≤ count by omega)
    have h := holds_line R P p piece n loses v u w hR hP hV hS hp (by omega)
    exact h.mono fun e w' ⟨he, hx⟩ => ⟨by rw [he]; simp [holdsB], hx⟩
  · have h := holds_reach R P p piece count loses v u w hR hP hV hS hp h1 (by omega)
    exact h.mono fun e w' ⟨he, hx⟩ => ⟨by rw [he]; simp [holdsB], hx⟩
  · have h := holds_take R P p piece count loses v u w hR hP hV hS hp h3 (by omega)
    exact h.mono fun e w' ⟨he, hx⟩ => ⟨by rw [he]; simp [holdsB], hx⟩
end Go.Proofs.Ytcfiannlpkofpaa
