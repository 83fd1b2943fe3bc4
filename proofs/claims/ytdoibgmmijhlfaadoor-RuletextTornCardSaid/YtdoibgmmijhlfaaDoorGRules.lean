/- Walks over the package rules: within, Name, the pieces. Walks over the package rules: a letter that occurs twice; the ways of a piece. Walks over the package rules: Name. -/
import Derived.Test.YtdoibgmmijhlfaaDoorRows
import Derived.Test.YtdoibgmmijhlfaaDoorGBase
import Derived.ProofKit
import Derived.OpenShut
import Derived.Outline
import Derived.Deep.QuietTactic
import Derived.BigQuiet
import Derived.Test.YtdoibgmmijhlfaaDoorGLibA
namespace Go.Proofs.YtdoibgmmijhlfaaDoor
open Go.ChangeShapes Go.WideShapes Go.ChangeAt Go.RowKit
set_option linter.unusedVariables false
theorem within_any (n lo hi : Int) (w : World) :
    Calls Tryd.prog 58 #[.int .i64 n, .int .i64 lo, .int .i64 hi] w fun e w' => e = .returned (.bool (inB n lo hi)) ∧ w = w' := by
  unfold inB
  by_cases h1 : lo ≤ n
  · by_cases h2 : n ≤ hi
    · go_enter Tryd.func58, Tryd.ntmps58
      go_wp2
      go_ret
      exact ⟨by simp [h1, h2], rfl⟩
    · go_enter Tryd.func58, Tryd.ntmps58
      go_wp2
      go_ret
      exact ⟨by simp; omega, rfl⟩
  · go_enter Tryd.func58, Tryd.ntmps58
    go_wp2
    go_ret
    exact ⟨by simp; omega, rfl⟩
theorem within_at (n lo hi : Int) (b : Bool) (w : World) (h : inB n lo hi = b) :
    Calls Tryd.prog 58 #[.int .i64 n, .int .i64 lo, .int .i64 hi] w fun e w' => e = .returned (.bool b) ∧ w = w' := by
  rw [← h]
  exact within_any n lo hi w
/-- The letter of a piece, asked by the closure in pieces. -/
theorem pieces1_any (l l0 h0 p0 : Int) (hd pr : Int) (v : Value) (a : Addr) (w : World) (hc : w.cell? a = some (.int .u8 l)) (ha : a.spot = none) :
    Calls Tryd.prog 82 #[.agg #[.int .u8 l0, .int .i64 h0, .int .i64 p0, v], .pointer (some a)] w fun e w' => e = .returned (.bool (l0 == l)) ∧ Ext w w' := by
  obtain ⟨b, o, s⟩ := a
  obtain rfl : s = none := ha
  have hlt := lt_of_cell hc
  go_enter Tryd.func82, Tryd.ntmps82
  go_wp2
  go_ret
  exact ⟨rfl, ext_alloc (Below.refl _ _) _⟩
end Go.Proofs.YtdoibgmmijhlfaaDoor
namespace Go.Proofs.YtdoibgmmijhlfaaDoor
open Go.ChangeShapes Go.WideShapes Go.ChangeAt Go.RowKit
set_option linter.unusedVariables false
theorem idxLetter_any (A : Option Addr) (n c : Nat) (ps : List PieceM) (l : Int) (a : Addr) (w : World) (hn : ps.length = n) (hm : n ≤ 1000) (hp : PiecesAt w A ps) (hc : w.cell? a = some (.int .u8 l)) (ha : a.spot = none) :
    Calls Tryd.prog 84 #[.slice A n c, .func (.func 82) #[] #[.pointer (some a)]] w (SomeIdx (ps.any (fun q => decide (q.letter = l))) w) := by
  have HN := hide hn
  clear hn
  go_enter Tryd.func84, Tryd.ntmps84
  go_wp2
  go_loopw [5, 8] (fun _ i wr => ∃ k : Nat, k ≤ n ∧ i = .int .i64 k ∧ Hid (∀ (j : Nat) (q : PieceM), j < k → ps[j]? = some q → q.letter ≠ l) ∧ Ext w wr) (fun _ i _ => n - (intOf i).toNat)
  case atStart => exact ⟨0, Nat.zero_le _, rfl, hide (fun j q hj => by omega), Below.refl _ _⟩
  case round =>
    obtain ⟨k, hk, rfl, hall, hext⟩ := hrel
    by_cases hlt : k < n
    · have hkl : k < ps.length := by rw [HN.out]; exact hlt
      have hget : ps[k]? = some ps[k] := List.getElem?_eq_getElem hkl
      have HG := hide hget
      obtain ⟨b, o, wA, wc, rfl, c0, c1, c2, c3, hw⟩ := (hp.ext hext).get hget
      have hca := Ext.cell hext hc
      clear hget hp hw
      generalize ps[k] = q at *
      by_cases hql : q.letter = l
      · have hb : (q.letter == l) = true := by simpa using hql
        have HB : Hid (ps.any (fun q => decide (q.letter = l)) = true) := hide (by
          rw [List.any_eq_true]
          exact ⟨q, List.mem_of_getElem? HG.out, by simpa using hql⟩)
        clear hql hall
        go_wp2_with (go_at_call 82; refine (pieces1_any _ _ _ _ 0 0 _ _ _ hca ha).mono ?_; rintro e w1 ⟨rfl, x1⟩)
        go_ret
        exact ⟨k, by rw [HB.out]; simp, rfl, ext_trans hext x1⟩
      · have hb : (q.letter == l) = false := by simpa using hql
        have HALL : Hid (∀ (j : Nat) (q : PieceM), j < k + 1 → ps[j]? = some q → q.letter ≠ l) := hide (fun j q' hj hq' => by
          by_cases e : j = k
          · subst e
            rw [HG.out] at hq'
            injection hq' with e2
            subst e2
            exact hql
          · exact hall.out j q' (by omega) hq')
        clear hql hall
        go_wp2_with (go_at_call 82; refine (pieces1_any _ _ _ _ 0 0 _ _ _ hca ha).mono ?_; rintro e w1 ⟨rfl, x1⟩)
        go_roundw
        case rel => exact ⟨k + 1, by omega, by go_num, HALL, ext_trans hext x1⟩
        case measure => simp [intOf]; omega
    · obtain rfl : k = n := by omega
      have HB : Hid (ps.any (fun q => decide (q.letter = l)) = false) := hide (by
        rw [List.any_eq_false]
        intro q hq
        obtain ⟨j, hj, rfl⟩ := List.mem_iff_getElem.1 hq
        have := hall.out j ps[j] (by rw [HN.out] at hj; exact hj) (List.getElem?_eq_getElem hj)
        simpa using this)
      clear hall
      go_wp2
      go_ret
      exact ⟨-1, by rw [HB.out]; simp, rfl, hext⟩
theorem hasLetter_any (A : Option Addr) (n c : Nat) (ps : List PieceM) (l : Int) (a : Addr) (w : World) (hn : ps.length = n) (hm : n ≤ 1000) (hp : PiecesAt w A ps) (hc : w.cell? a = some (.int .u8 l)) (ha : a.spot = none) :
    Calls Tryd.prog 81 #[.slice A n c, .func (.func 82) #[] #[.pointer (some a)]] w fun e w' => e = .returned (.bool (ps.any (fun q => decide (q.letter = l)))) ∧ Ext w w' := by
  have HI := hide (idxLetter_any A n c ps l a w hn hm hp hc ha)
  clear hn hp hc ha
  generalize ps.any (fun q => decide (q.letter = l)) = b at *
  go_enter Tryd.func81, Tryd.ntmps81
  go_wp2_with fail
  refine HI.out.mono ?_
  rintro e w1 ⟨r, hr, rfl, x1⟩
  have HR := hide hr
  clear hr
  go_wp2
  go_ret
  exact ⟨by rw [← HR.out]; rfl, x1⟩
end Go.Proofs.YtdoibgmmijhlfaaDoor
namespace Go.Proofs.YtdoibgmmijhlfaaDoor
open Go.ChangeShapes Go.WideShapes Go.ChangeAt Go.RowKit
set_option linter.unusedVariables false
/-- Character k of a name. -/
def charB (s : ByteArray) (i : Nat) : Bool := letterB (s.data.toList.getD i 0) || (decide (0 < i) && digitB (s.data.toList.getD i 0))
theorem byte_at (s : ByteArray) (k : Nat) (h : k < s.size) : s.data.toList.getD k 0 = s[k] := by
  have h' : k < s.data.toList.length := by simpa using h
  rw [List.getD_eq_getElem?_getD, List.getElem?_eq_getElem h']
  rfl
theorem charB_iff (s : ByteArray) (k : Nat) (h : k < s.size) : charB s k = true ↔ ((65 ≤ (s[k].toNat : Int) ∧ (s[k].toNat : Int) ≤ 90) ∨ (0 < k ∧ 48 ≤ (s[k].toNat : Int) ∧ (s[k].toNat : Int) ≤ 57)) := by
  unfold charB letterB digitB
  rw [byte_at s k h]
  simp only [Bool.or_eq_true, Bool.and_eq_true, decide_eq_true_eq, UInt8.le_iff_toNat_le]
  simp
  omega
theorem nameB_iff (s : ByteArray) : nameB s = true ↔ (1 ≤ s.size ∧ s.size ≤ 8 ∧ ∀ k, k < s.size → charB s k = true) := by
  unfold nameB
  simp only [Bool.and_eq_true, decide_eq_true_eq, List.all_eq_true, List.mem_range]
  constructor
  · rintro ⟨⟨h1, h2⟩, h3⟩; exact ⟨h1, h2, fun k hk => h3 k hk⟩
  · rintro ⟨h1, h2, h3⟩; exact ⟨⟨h1, h2⟩, fun k hk => h3 k hk⟩
theorem Name_any (s : ByteArray) (w : World) (hs : s.size ≤ 9223372036854775807) :
    Calls Tryd.prog 57 #[.string s] w fun e w' => e = .returned (.bool (nameB s)) ∧ w = w' := by
  have HS : Hid (∀ k, k < s.size → charB s k = false → nameB s = false) := hide (fun k hk hc => by
    cases h : nameB s
    · rfl
    · have := (nameB_iff s).1 h
      rw [this.2.2 k hk] at hc
      cases hc)
  have HE : Hid ((∀ k, k < s.size → charB s k = true) → nameB s = decide (1 ≤ s.size ∧ s.size ≤ 8)) := hide (fun h => by
    by_cases h1 : 1 ≤ s.size ∧ s.size ≤ 8
    · rw [decide_eq_true h1]
      exact (nameB_iff s).2 ⟨h1.1, h1.2, h⟩
    · rw [decide_eq_false h1]
      cases h2 : nameB s
      · rfl
      · have := (nameB_iff s).1 h2
        exact absurd ⟨this.1, this.2.1⟩ h1)
  generalize nameB s = N at *
  go_enter Tryd.func57, Tryd.ntmps57
  go_wp2
  go_loop [3, 4, 7] (fun _ _ i => ∃ k : Nat, k ≤ s.size ∧ i = .int .i64 k ∧ Hid (∀ j, j < k → charB s j = true)) (fun _ _ i => s.size - (intOf i).toNat)
  case atStart => exact ⟨0, Nat.zero_le _, rfl, hide (fun j hj => by omega)⟩
  case round =>
    obtain ⟨k, hk, rfl, hall⟩ := hrel
    by_cases hlt : k < s.size
    · have hci := charB_iff s k hlt
      cases hc : charB s k
      · have HF := hide (HS.out k hlt hc)
        have hbad : ((s[k].toNat : Int) < 65 ∧ k = 0) ∨ (65 ≤ (s[k].toNat : Int) ∧ 90 < (s[k].toNat : Int) ∧ k = 0) ∨ ((s[k].toNat : Int) < 48 ∧ 0 < k) ∨ (57 < (s[k].toNat : Int) ∧ (s[k].toNat : Int) < 65 ∧ 0 < k) ∨ (65 ≤ (s[k].toNat : Int) ∧ 90 < (s[k].toNat : Int) ∧ 0 < k) := by
          rw [hc] at hci
          simp only [Bool.false_eq_true, false_iff] at hci
          omega
        clear hci hc HS HE hall
        rcases hbad with ⟨h1, h2⟩ | ⟨h1, h2, h3⟩ | ⟨h1, h2⟩ | ⟨h1, h2, h3⟩ | ⟨h1, h2, h3⟩
        · have e1 : decide (65 ≤ (s[k].toNat : Int)) = false := by simp; omega
          have e5 : ((k : Int) == 0) = true := by simp; omega
          clear h1 h2
          go_wp2
          go_ret
          exact ⟨by rw [HF.out]; rfl, rfl⟩
        · have e1 : decide (65 ≤ (s[k].toNat : Int)) = true := by simp; omega
          have e2 : decide ((s[k].toNat : Int) ≤ 90) = false := by simp; omega
          have e5 : ((k : Int) == 0) = true := by simp; omega
          clear h1 h2 h3
          go_wp2
          go_ret
          exact ⟨by rw [HF.out]; rfl, rfl⟩
        · have e1 : decide (65 ≤ (s[k].toNat : Int)) = false := by simp; omega
          have e3 : decide ((s[k].toNat : Int) < 48) = true := by simp; omega
          have e5 : ((k : Int) == 0) = false := by simp; omega
          clear h1 h2
          go_wp2
          go_ret
          exact ⟨by rw [HF.out]; rfl, rfl⟩
        · have e1 : decide (65 ≤ (s[k].toNat : Int)) = false := by simp; omega
          have e3 : decide ((s[k].toNat : Int) < 48) = false := by simp; omega
          have e4 : decide (57 < (s[k].toNat : Int)) = true := by simp; omega
          have e5 : ((k : Int) == 0) = false := by simp; omega
          clear h1 h2 h3
          go_wp2
          go_ret
          exact ⟨by rw [HF.out]; rfl, rfl⟩
        · have e1 : decide (65 ≤ (s[k].toNat : Int)) = true := by simp; omega
          have e2 : decide ((s[k].toNat : Int) ≤ 90) = false := by simp; omega
          have e3 : decide ((s[k].toNat : Int) < 48) = false := by simp; omega
          have e4 : decide (57 < (s[k].toNat : Int)) = true := by simp; omega
          have e5 : ((k : Int) == 0) = false := by simp; omega
          clear h1 h2 h3
          go_wp2
          go_ret
          exact ⟨by rw [HF.out]; rfl, rfl⟩
      · have HALL : Hid (∀ j, j < k + 1 → charB s j = true) := hide (fun j hj => by
          by_cases e : j = k
          · subst e; exact hc
          · exact hall.out j (by omega))
        rw [hc] at hci
        have hci := hci.1 rfl
        clear hc HS HE hall
        rcases hci with ⟨h1, h2⟩ | ⟨h1, h2, h3⟩
        · have e1 : decide (65 ≤ (s[k].toNat : Int)) = true := by simp; omega
          have e2 : decide ((s[k].toNat : Int) ≤ 90) = true := by simp; omega
          clear h1 h2
          go_wp2
          go_round
          case rel => exact ⟨k + 1, by omega, by go_num, HALL⟩
          case measure => simp [intOf]; omega
        · have e1 : decide (65 ≤ (s[k].toNat : Int)) = false := by simp; omega
          have e3 : decide ((s[k].toNat : Int) < 48) = false := by simp; omega
          have e4 : decide (57 < (s[k].toNat : Int)) = false := by simp; omega
          have e5 : ((k : Int) == 0) = false := by simp; omega
          clear h1 h2 h3
          go_wp2
          go_round
          case rel => exact ⟨k + 1, by omega, by go_num, HALL⟩
          case measure => simp [intOf]; omega
    · obtain rfl : k = s.size := by omega
      have HF := hide (HE.out hall.out)
      clear HS HE hall
      by_cases h0 : s.size = 0
      · have hl : s.toList = [] := by rw [ByteArray.toList_eq]; exact List.eq_nil_of_length_eq_zero (by simpa using h0)
        have HF0 : Hid (N = false) := hide (by rw [HF.out]; exact decide_eq_false (by omega))
        clear HF h0
        go_wp2
        go_ret
        exact ⟨by rw [HF0.out]; rfl, rfl⟩
      · have hl : ¬ s.toList = [] := by
          intro h
          rw [ByteArray.toList_eq] at h
          have := congrArg List.length h
          simp at this
          exact h0 (by rw [this]; rfl)
        have hl2 : s.toList.isEmpty = false := by simpa using hl
        by_cases h8 : s.size ≤ 8
        · have HF0 : Hid (N = true) := hide (by rw [HF.out]; exact decide_eq_true (by omega))
          have h8' : decide ((s.size : Int) ≤ 8) = true := by simp; omega
          clear HF h0
          go_wp2
          go_ret
          exact ⟨by rw [HF0.out]; rfl, rfl⟩
        · have HF0 : Hid (N = false) := hide (by rw [HF.out]; exact decide_eq_false (by omega))
          have h8' : decide ((s.size : Int) ≤ 8) = false := by simp; omega
          clear HF h0
          go_wp2
          go_ret
          exact ⟨by rw [HF0.out]; rfl, rfl⟩
end Go.Proofs.YtdoibgmmijhlfaaDoor
