/- Walks over the package rules: a letter that occurs twice; the ways of a piece. -/
import Derived.Test.YtcfiannlpkofpaaRulesW1
import Derived.Test.YtcfiannlpkofpaaIdxInts
namespace Go.Proofs.Ytcfiannlpkofpaa
open Go.ChangeShapes Go.WideShapes Go.ChangeAt Go.RowKit
set_option linter.unusedVariables false
theorem idxLetter_any (A : Option Addr) (n c : Nat) (ps : List PieceM) (l : Int) (a : Addr) (w : World) (hn : ps.length = n) (hm : n ≤ 1000) (hp : PiecesAt w A ps) (hc : w.cell? a = some (.int .u8 l)) (ha : a.spot = none) :
    Calls Try.prog 100 #[.slice A n c, .func (.func 82) #[] #[.pointer (some a)]] w (SomeIdx (ps.any (fun q => decide (q.letter = l))) w) := by
  have HN := hide hn
  clear hn
  go_enter Try.func100, Try.ntmps100
  go_wp2
  go_loopw [5, 8] (fun _ i wr => ∃ k : Nat, k ≤ n ∧ i = .int .i64 k ∧ Hid (∀ (j : Nat) (q : PieceM), j < k → ps[j]? = some q → q.letter ≠ l) ∧ Ext w wr) (fun _ i _ => n - (intOf i).toNat)
  case atStart => exact ⟨0, Nat.zero_le _, rfl, hide (fun j q hj => by omega), Below.refl _ _⟩
  case round =>
    obtain ⟨k, hk, rfl, hall, hext⟩ := hrel
    by_cases hlt : k < n
    · have hkl : k < ps.length := by rw [HN.out]; exact hlt
      have hget : ps[k]? = some ps[k] := List.getElem?_eq_getElem hkl
      have HG := hide hget
      obtain ⟨b, o, wA, wc, rfl, c0, c1, c2, c3, hw⟩ := (hp.ext hext).get hget
      have hca := Ext.cell hext hc
      clear hget hp hw
      generalize ps[k] = q at *
      by_cases hql : q.letter = l
      · have hb : (q.letter == l) = true := by simpa using hql
        have HB : Hid (ps.any (fun q => decide (q.letter = l)) = true) := hide (by
          rw [List.any_eq_true]
          exact ⟨q, List.mem_of_getElem? HG.out, by simpa using hql⟩)
        clear hql hall
        go_wp2_with (go_at_call 82; refine (pieces1_any _ _ _ _ 0 0 _ _ _ hca ha).mono ?_; rintro e w1 ⟨rfl, x1⟩)
        go_ret
        exact ⟨k, by rw [HB.out]; simp, rfl, ext_trans hext x1⟩
      · have hb : (q.letter == l) = false := by simpa using hql
        have HALL : Hid (∀ (j : Nat) (q : PieceM), j < k + 1 → ps[j]? = some q → q.letter ≠ l) := hide (fun j q' hj hq' => by
          by_cases e : j = k
          · subst e
            rw [HG.out] at hq'
            injection hq' with e2
            subst e2
            exact hql
          · exact hall.out j q' (by omega) hq')
        clear hql hall
        go_wp2_with (go_at_call 82; refine (pieces1_any _ _ _ _ 0 0 _ _ _ hca ha).mono ?_; rintro e w1 ⟨rfl, x1⟩)
        go_roundw
        case rel => exact ⟨k + 1, by omega, by go_num, HALL, ext_trans hext x1⟩
        case measure => simp [intOf]; omega
    · obtain rfl : k = n := by omega
      have HB : Hid (ps.any (fun q => decide (q.letter = l)) = false) := hide (by
        rw [List.any_eq_false]
        intro q hq
        obtain ⟨j, hj, rfl⟩ := List.mem_iff_getElem.1 hq
        have := hall.out j ps[j] (by rw [HN.out] at hj; exact hj) (List.getElem?_eq_getElem hj)
        simpa using this)
      clear hall
      go_wp2
      go_ret
      exact ⟨-1, by rw [HB.out]; simp, rfl, hext⟩
theorem hasLetter_any (A : Option Addr) (n c : Nat) (ps : List PieceM) (l : Int) (a : Addr) (w : World) (hn : ps.length = n) (hm : n ≤ 1000) (hp : PiecesAt w A ps) (hc : w.cell? a = some (.int .u8 l)) (ha : a.spot = none) :
    Calls Try.prog 81 #[.slice A n c, .func (.func 82) #[] #[.pointer (some a)]] w fun e w' => e = .returned (.bool (ps.any (fun q => decide (q.letter = l)))) ∧ Ext w w' := by
  have HI := hide (idxLetter_any A n c ps l a w hn hm hp hc ha)
  clear hn hp hc ha
  generalize ps.any (fun q => decide (q.letter = l)) = b at *
  go_enter Try.func81, Try.ntmps81
  go_wp2_with fail
  refine HI.out.mono ?_
  rintro e w1 ⟨r, hr, rfl, x1⟩
  have HR := hide hr
  clear hr
  go_wp2
  go_ret
  exact ⟨by rw [← HR.out]; rfl, x1⟩
end Go.Proofs.Ytcfiannlpkofpaa
