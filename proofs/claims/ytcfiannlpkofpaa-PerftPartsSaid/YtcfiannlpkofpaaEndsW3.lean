/- Walks over the package ends: Result, Of. -/
import Derived.Test.YtcfiannlpkofpaaEndsW2
import Derived.Test.YtcfiannlpkofpaaGAll
namespace Go.Proofs.Ytcfiannlpkofpaa
open Go.ChangeShapes Go.WideShapes Go.ChangeAt Go.RowKit Go.Shelf
set_option linter.unusedVariables false
def FirstIdx (es : List EndM) (p : EndM → Bool) (r : Int) : Prop := (r = -1 ∧ ∀ x ∈ es, p x = false) ∨ (∃ (k : Nat) (x : EndM), r = (k : Int) ∧ es[k]? = some x ∧ p x = true ∧ ∀ j, j < k → ∀ y, es[j]? = some y → p y = false)
def IdxEPost (w : World) (es : List EndM) (p : EndM → Bool) (e : Ending) (w' : World) : Prop := ∃ r, FirstIdx es p r ∧ e = .returned (.int .i64 r) ∧ Ext w w'
theorem find_first {p : EndM → Bool} : ∀ {es : List EndM} {k : Nat} {x : EndM}, es[k]? = some x → p x = true → (∀ j, j < k → ∀ y, es[j]? = some y → p y = false) → es.find? p = some x
  | [], k, x, h, _, _ => by simp at h
  | a :: l, 0, x, h, hp, _ => by
    simp only [List.getElem?_cons_zero, Option.some.injEq] at h
    subst h
    rw [List.find?_cons, hp]
  | a :: l, k + 1, x, h, hp, hn => by
    have ha := hn 0 (by omega) a rfl
    rw [List.find?_cons, ha]
    exact find_first (es := l) (k := k) (by simpa using h) hp (fun j hj y hy => hn (j + 1) (by omega) y (by simpa using hy))
theorem find_none {p : EndM → Bool} {es : List EndM} (h : ∀ x ∈ es, p x = false) : es.find? p = none := by
  rw [List.find?_eq_none]
  intro x hx
  simp [h x hx]
set_option maxHeartbeats 2000000 in
theorem idxEnds (cl : FuncId) (c0_ c1_ c2_ : Value) (p : EndM → Bool) (A : Option Addr) (c : Nat) (es : List EndM) (w : World) (hm : es.length ≤ 1000000) (hz : EndsAt w A es)
    (eg : ∀ args W, (callFunc cl args).run Try.prog W = .ok (.enter cl args) W) (hcl : ∀ x ∈ es, ∀ W, Ext w W → Calls Try.prog cl #[.agg #[.int .i64 x.kind, .int .i64 x.piece, .int .i64 x.count, .bool x.loses], c0_, c1_, c2_] W fun e w' => e = .returned (.bool (p x)) ∧ Ext W w') :
    Calls Try.prog 96 #[.slice A es.length c, .func (.func cl) #[] #[c0_, c1_, c2_]] w (IdxEPost w es p) := by
  have HC := hide hcl
  have HZ := hide hz
  clear hcl hz
  go_enter Try.func96, Try.ntmps96
  go_wp2
  go_loopw [5, 8] (fun _ i wr => ∃ k : Nat, k ≤ es.length ∧ i = .int .i64 k ∧ Hid (∀ j, j < k → ∀ y, es[j]? = some y → p y = false) ∧ Ext w wr) (fun _ i _ => es.length - (intOf i).toNat)
  case atStart => exact ⟨0, Nat.zero_le _, rfl, hide (fun j hj => by omega), Below.refl _ _⟩
  case round =>
    obtain ⟨k, hk, rfl, hall, hext⟩ := hrel
    have XO := hide hext
    clear hext
    by_cases hlt : k < es.length
    · obtain ⟨x, hx⟩ : ∃ x, es[k]? = some x := ⟨es[k], List.getElem?_eq_getElem _⟩
      obtain ⟨b, o, rfl, d0, d1, d2, d3⟩ := EndsAt.get (CellsAt.ext HZ.out XO.out) hx
      have HXX := hide hx
      have HCALL := hide (HC.out x (List.mem_of_getElem? hx) wr XO.out)
      have j0 : (0 : Int) ≤ (k : Int) := by omega
      have j1 : (k : Int) < (es.length : Int) := by omega
      clear hx
      go_wp2_with fail
      refine HCALL.out.mono ?_
      rintro e w1 ⟨rfl, y1⟩
      have Y1 := hide (ext_trans XO.out y1)
      clear y1 d0 d1 d2 d3
      cases hp : p x
      · have HN : Hid (∀ j, j < k + 1 → ∀ y, es[j]? = some y → p y = false) := hide (fun j hj y hy => by
          rcases (by omega : j < k ∨ j = k) with h | h
          · exact hall.out j h y hy
          · subst h
            have := HXX.out
            rw [hy] at this
            injection this with this
            rw [this]; exact hp)
        clear hp
        go_wp2
        go_roundw
        case rel => exact ⟨k + 1, by omega, by go_num, HN, Y1.out⟩
        case measure => simp [intOf]; omega
      · have HP := hide hp
        clear hp
        go_wp2
        go_ret
        exact ⟨k, .inr ⟨k, x, rfl, HXX.out, HP.out, hall.out⟩, rfl, Y1.out⟩
    · obtain rfl : k = es.length := by omega
      go_wp2
      go_ret
      exact ⟨-1, .inl ⟨rfl, fun x hx => by
        obtain ⟨j, hj, rfl⟩ := List.mem_iff_getElem.1 hx
        exact hall.out j hj _ (List.getElem?_eq_getElem hj)⟩, rfl, XO.out⟩
theorem wins_any (p : Int) (w : World) (h0 : 0 ≤ p) (h1 : p ≤ 1) : Calls Try.prog 99 #[.int .i64 p] w fun e w' => e = .returned (.int .i64 (1 + p)) ∧ w = w' := by
  go_enter Try.func99, Try.ntmps99
  go_wp2
  go_ret
  exact ⟨rfl, rfl⟩
set_option maxHeartbeats 2000000 in
set_option maxRecDepth 100000 in
theorem rclo_any (R : RulesM) (P : PosM) (p : Int) (x : EndM) (pA sA eA cA aA bA : Option Addr) (pc sc ec cc ac bc B1 B2 B3 : Nat) (w : World)
    (hR : RulesAt w (.agg #[.string R.name, .int .i64 R.width, .int .i64 R.height, .slice pA R.pieces.length pc, .slice sA R.start.length sc, .bool R.falls, .bool R.keeps, .slice eA R.ends.length ec, .int .i64 R.blocked, .int .i64 R.quiet, .int .i64 R.rept]) R) (hP : PosAt w (.agg #[.slice cA P.cells.length cc, .slice aA P.hand0.length ac, .slice bA P.hand1.length bc, .int .i64 P.turn, .int .i64 P.quiet]) P) (hV : Valid R) (hS : Sound R P) (hp : p = 0 ∨ p = 1) (hx : x ∈ R.ends)
    (k1 : Blk w B1 26 #[.string R.name, .int .i64 R.width, .int .i64 R.height, .slice pA R.pieces.length pc, .slice sA R.start.length sc, .bool R.falls, .bool R.keeps, .slice eA R.ends.length ec, .int .i64 R.blocked, .int .i64 R.quiet, .int .i64 R.rept]) (k2 : Blk w B2 36 #[.slice cA P.cells.length cc, .slice aA P.hand0.length ac, .slice bA P.hand1.length bc, .int .i64 P.turn, .int .i64 P.quiet]) (k3 : Blk w B3 3 #[.int .i64 p]) :
    Calls Try.prog 97 #[.agg #[.int .i64 x.kind, .int .i64 x.piece, .int .i64 x.count, .bool x.loses], .pointer (some ⟨B1, 0, none⟩), .pointer (some ⟨B2, 0, none⟩), .pointer (some ⟨B3, 0, none⟩)] w
      fun e w' => e = .returned (.bool (holdsB R P p x)) ∧ Ext w w' := by
  have HH := hide (fun W (hW : Ext w W) => holds_any R P p x _ _ W (hR.ext hW) (hP.ext hW) hV hS hp hx)
  obtain ⟨x1, k4⟩ := blks1 w #[.int .i64 x.kind, .int .i64 x.piece, .int .i64 x.count, .bool x.loses] 88
  have f1 := (k1.ext x1).cell
  have f2 := (k2.ext x1).cell
  have f3 := (k3.ext x1).cell
  have f4 := k4.cell
  have HX := hide x1
  clear hR hP hV hS hp hx k1 k2 k3 k4 x1
  generalize holdsB R P p x = b at *
  go_enter Try.func97, Try.ntmps97
  go_wp2_with fail
  refine (HH.out _ HX.out).mono ?_
  rintro e w2 ⟨rfl, x2⟩
  clear f1 f2 f3 f4
  go_wp2
  go_ret
  exact ⟨rfl, ext_trans HX.out x2⟩
set_option maxHeartbeats 8000000 in
set_option maxRecDepth 100000 in
theorem Result_any (R : RulesM) (P : PosM) (v u : Value) (w : World) (hR : RulesAt w v R) (hP : PosAt w u P) (hV : Valid R) (hS : Sound R P) :
    Calls Try.prog 72 #[v, u] w fun e w' => e = .returned (.int .i64 (resultM R P)) ∧ Ext w w' := by
  have ht := hS.turn
  have ht0 : 0 ≤ P.turn := by omega
  have ht1 : P.turn ≤ 1 := by omega
  have h6 := hV.ends6
  have HL := hide (fun W (hW : Ext w W) => List_any R P v u W (hR.ext hW) (hP.ext hW) hV hS)
  have HLL := hide (listM_len hV hS)
  obtain ⟨pA, pc, sA, sc, eA, ec, rfl, hp1, hp2, he, hrest⟩ := hR
  obtain ⟨cA, cc, aA, ac, bA, bc, rfl, hpos⟩ := hP
  have hR : RulesAt w (.agg #[.string R.name, .int .i64 R.width, .int .i64 R.height, .slice pA R.pieces.length pc, .slice sA R.start.length sc, .bool R.falls, .bool R.keeps, .slice eA R.ends.length ec, .int .i64 R.blocked, .int .i64 R.quiet, .int .i64 R.rept]) R := ⟨pA, pc, sA, sc, eA, ec, rfl, hp1, hp2, he, hrest⟩
  have hP : PosAt w (.agg #[.slice cA P.cells.length cc, .slice aA P.hand0.length ac, .slice bA P.hand1.length bc, .int .i64 P.turn, .int .i64 P.quiet]) P := ⟨cA, cc, aA, ac, bA, bc, rfl, hpos⟩
  have HCL := hide (fun (x : EndM) (hx : x ∈ R.ends) B1 B2 B3 W (hW : Ext w W) k1 k2 k3 => rclo_any R P (1 - P.turn) x pA sA eA cA aA bA pc sc ec cc ac bc B1 B2 B3 W (hR.ext hW) (hP.ext hW) hV hS (by omega) hx k1 k2 k3)
  have HE := hide he
  obtain ⟨x1, k1, k2, k3⟩ := blks3 w #[.string R.name, .int .i64 R.width, .int .i64 R.height, .slice pA R.pieces.length pc, .slice sA R.start.length sc, .bool R.falls, .bool R.keeps, .slice eA R.ends.length ec, .int .i64 R.blocked, .int .i64 R.quiet, .int .i64 R.rept] 26 #[.slice cA P.cells.length cc, .slice aA P.hand0.length ac, .slice bA P.hand1.length bc, .int .i64 P.turn, .int .i64 P.quiet] 36 #[.int .i64 (1 - P.turn)] 3
  have f1 := k1.cell
  have f2 := k2.cell
  have HX := hide x1
  have K1 := hide k1
  have K2 := hide k2
  have K3 := hide k3
  have HE2 := hide (show EndsAt _ eA R.ends from CellsAt.ext HE.out x1)
  clear hp1 hp2 he hrest hpos hR hP hV hS ht x1 k1 k2 k3
  go_enter Try.func72, Try.ntmps72
  go_wp2_with fail
  generalize ((w.alloc (.cells #[.string R.name, .int .i64 R.width, .int .i64 R.height, .slice pA R.pieces.length pc, .slice sA R.start.length sc, .bool R.falls, .bool R.keeps, .slice eA R.ends.length ec, .int .i64 R.blocked, .int .i64 R.quiet, .int .i64 R.rept] 26)).alloc (.cells #[.slice cA P.cells.length cc, .slice aA P.hand0.length ac, .slice bA P.hand1.length bc, .int .i64 P.turn, .int .i64 P.quiet] 36)).alloc (.cells #[.int .i64 (1 - P.turn)] 3) = w2 at *
  generalize w.heap.size + 1 + 1 = B3 at *
  generalize w.heap.size + 1 = B2 at *
  generalize hB1 : w.heap.size = B1 at *
  have HB1 := hide hB1
  clear hB1 f1 f2
  refine (idxEnds 97 _ _ _ (holdsB R P (1 - P.turn)) eA ec R.ends w2 (by omega) HE2.out (enters_of Try.func97 (by kernel_rfl) rfl) (fun x hx W hW => HCL.out x hx B1 B2 B3 W (ext_trans HX.out hW) (K1.out.ext hW) (K2.out.ext hW) (K3.out.ext hW))).mono ?_
  rintro e w3 ⟨r, hr, rfl, x3⟩
  have X3 := hide (ext_trans HX.out x3)
  have l1 := (K1.out.ext x3)
  have l2 := (K2.out.ext x3)
  have l3 := (K3.out.ext x3)
  have f1 := l1.cell
  have f2 := l2.cell
  have f3 := l3.cell
  rcases hr with ⟨rfl, hno⟩ | ⟨k, x, rfl, hk, hp, hn⟩
  · have HR := hide (show resultM R P = restM R P by unfold resultM; rw [find_none hno])
    have L1 := hide l1
    have L2 := hide l2
    have L3 := hide l3
    clear hno x3 l1 l2 l3
    by_cases hq : R.quiet = 0
    · have tq : (R.quiet != 0) = false := by simpa using hq
      have HR2 := hide (show resultM R P = _ from HR.out.trans (by unfold restM; rw [if_neg (fun h => h.1 hq)]))
      clear HR hq
      go_wp2_with fail
      refine (HL.out _ X3.out).mono ?_
      rintro e w4 ⟨v4, rfl, own4, x4⟩
      have X4 := hide (ext_trans X3.out x4)
      have m1 := (L1.out.ext x4).cell
      have m2 := (L2.out.ext x4).cell
      have m3 := (L3.out.ext x4).cell
      obtain ⟨A4, c4, rfl, -⟩ := own4
      have hll := HLL.out
      clear f1 f2 f3 x4 L1 L2 L3 HL HLL
      generalize listM R P = L at *
      by_cases hl : 0 < L.length
      · have HR3 := hide (show resultM R P = 0 by rw [HR2.out, if_pos hl])
        have tl : decide (0 < L.length) = true := by simpa using hl
        have tl2 : decide ((0 : Int) < (L.length : Int)) = true := decide_eq_true (by omega)
        clear HR2
        go_wp2
        go_ret
        exact ⟨by rw [HR3.out]; rfl, X4.out⟩
      · have HR3 := hide (HR2.out.trans (if_neg hl))
        have tl : decide (0 < L.length) = false := by simpa using hl
        have tl2 : decide ((0 : Int) < (L.length : Int)) = false := decide_eq_false (by omega)
        clear HR2
        by_cases hb : R.blocked = 0
        · have HR4 := hide (HR3.out.trans (if_pos hb))
          have tb : (R.blocked == 0) = true := by simpa using hb
          clear HR3 hb hl
          go_wp2_with fail
          refine (wins_any _ _ (by omega) (by omega)).mono ?_
          rintro e w' ⟨rfl, rfl⟩
          go_wp2
          go_ret
          exact ⟨by rw [HR4.out]; rfl, X4.out⟩
        · have HR4 := hide (HR3.out.trans (if_neg hb))
          have tb : (R.blocked == 0) = false := by simpa using hb
          clear HR3 hb hl
          by_cases hb : R.blocked = 1
          · have HR5 := hide (HR4.out.trans (if_pos hb))
            have tb1 : (R.blocked == 1) = true := by simpa using hb
            clear HR4 hb
            go_wp2_with fail
            refine (wins_any _ _ (by omega) (by omega)).mono ?_
            rintro e w' ⟨rfl, rfl⟩
            go_wp2
            go_ret
            exact ⟨by rw [HR5.out]; rfl, X4.out⟩
          · have HR5 := hide (HR4.out.trans (if_neg hb))
            have tb1 : (R.blocked == 1) = false := by simpa using hb
            clear HR4 hb
            go_wp2
            go_ret
            exact ⟨by rw [HR5.out]; rfl, X4.out⟩
    · have tq : (R.quiet != 0) = true := by simpa using hq
      by_cases hle : R.quiet ≤ P.quiet
      · have HR2 := hide (show resultM R P = 3 from HR.out.trans (by unfold restM; rw [if_pos ⟨hq, hle⟩]))
        clear HR hq
        go_wp2
        go_ret
        exact ⟨by rw [HR2.out]; rfl, X3.out⟩
      · have HR2 := hide (show resultM R P = _ from HR.out.trans (by unfold restM; rw [if_neg (fun h => hle h.2)]))
        have hlt : P.quiet < R.quiet := by omega
        clear HR hq hle
        go_wp2_with fail
        refine (HL.out _ X3.out).mono ?_
        rintro e w4 ⟨v4, rfl, own4, x4⟩
        have X4 := hide (ext_trans X3.out x4)
        have m1 := (L1.out.ext x4).cell
        have m2 := (L2.out.ext x4).cell
        have m3 := (L3.out.ext x4).cell
        obtain ⟨A4, c4, rfl, -⟩ := own4
        have hll := HLL.out
        clear f1 f2 f3 x4 L1 L2 L3 HL HLL
        generalize listM R P = L at *
        by_cases hl : 0 < L.length
        · have HR3 := hide (show resultM R P = 0 by rw [HR2.out, if_pos hl])
          have tl : decide (0 < L.length) = true := by simpa using hl
          have tl2 : decide ((0 : Int) < (L.length : Int)) = true := decide_eq_true (by omega)
          clear HR2
          go_wp2
          go_ret
          exact ⟨by rw [HR3.out]; rfl, X4.out⟩
        · have HR3 := hide (HR2.out.trans (if_neg hl))
          have tl : decide (0 < L.length) = false := by simpa using hl
          have tl2 : decide ((0 : Int) < (L.length : Int)) = false := decide_eq_false (by omega)
          clear HR2
          by_cases hb : R.blocked = 0
          · have HR4 := hide (HR3.out.trans (if_pos hb))
            have tb : (R.blocked == 0) = true := by simpa using hb
            clear HR3 hb hl
            go_wp2_with fail
            refine (wins_any _ _ (by omega) (by omega)).mono ?_
            rintro e w' ⟨rfl, rfl⟩
            go_wp2
            go_ret
            exact ⟨by rw [HR4.out]; rfl, X4.out⟩
          · have HR4 := hide (HR3.out.trans (if_neg hb))
            have tb : (R.blocked == 0) = false := by simpa using hb
            clear HR3 hb hl
            by_cases hb : R.blocked = 1
            · have HR5 := hide (HR4.out.trans (if_pos hb))
              have tb1 : (R.blocked == 1) = true := by simpa using hb
              clear HR4 hb
              go_wp2_with fail
              refine (wins_any _ _ (by omega) (by omega)).mono ?_
              rintro e w' ⟨rfl, rfl⟩
              go_wp2
              go_ret
              exact ⟨by rw [HR5.out]; rfl, X4.out⟩
            · have HR5 := hide (HR4.out.trans (if_neg hb))
              have tb1 : (R.blocked == 1) = false := by simpa using hb
              clear HR4 hb
              go_wp2
              go_ret
              exact ⟨by rw [HR5.out]; rfl, X4.out⟩
  · have HR := hide (show resultM R P = if x.loses then 1 + P.turn else 1 + (1 - P.turn) by unfold resultM; rw [find_first hk hp hn])
    obtain ⟨b, o, rfl, -, -, -, d3⟩ := EndsAt.get (CellsAt.ext HE2.out x3) hk
    have hkl : k < R.ends.length := (List.getElem?_eq_some_iff.1 hk).1
    have j0 : (0 : Int) ≤ (k : Int) := by omega
    have j1 : (k : Int) < (R.ends.length : Int) := by omega
    clear hk hp hn x3 l1 l2 l3 hkl
    cases hl : x.loses
    · rw [hl] at d3
      have HR2 := hide (show resultM R P = 1 + (1 - P.turn) by rw [HR.out, hl]; rfl)
      clear hl HR
      go_wp2_with fail
      refine (wins_any _ _ (by omega) (by omega)).mono ?_
      rintro e w' ⟨rfl, rfl⟩
      go_wp2
      go_ret
      exact ⟨by rw [HR2.out]; rfl, X3.out⟩
    · rw [hl] at d3
      have HR2 := hide (show resultM R P = 1 + P.turn by rw [HR.out, hl]; rfl)
      clear hl HR
      go_wp2_with fail
      refine (wins_any _ _ (by omega) (by omega)).mono ?_
      rintro e w' ⟨rfl, rfl⟩
      go_wp2
      go_ret
      exact ⟨by rw [HR2.out]; rfl, X3.out⟩
set_option maxHeartbeats 2000000 in
set_option maxRecDepth 100000 in
theorem EOf_yes (R : RulesM) (P : PosM) (v u : Value) (w : World) (hR : RulesAt w v R) (hP : PosAt w u P) (hV : Valid R) (hS : Sound R P) :
    Calls Try.prog 36 #[v, u] w fun e w' => e = .returned (.tuple #[.int .i64 (resultM R P), .int .i64 0]) ∧ Ext w w' := by
  have h0 := check_iff.2 ⟨hV, hS⟩
  have HC := hide (fun W (hW : Ext w W) => h0 ▸ PCheck_any R P v u W (hR.ext hW) (hP.ext hW))
  have HL := hide (fun W (hW : Ext w W) => Result_any R P v u W (hR.ext hW) (hP.ext hW) hV hS)
  obtain ⟨pA, pc, sA, sc, eA, ec, rfl, -⟩ := hR
  obtain ⟨cA, cc, aA, ac, bA, bc, rfl, -⟩ := hP
  clear h0 hV hS
  generalize resultM R P = z at *
  obtain ⟨x1, k1, k2⟩ := blks2 w #[.string R.name, .int .i64 R.width, .int .i64 R.height, .slice pA R.pieces.length pc, .slice sA R.start.length sc, .bool R.falls, .bool R.keeps, .slice eA R.ends.length ec, .int .i64 R.blocked, .int .i64 R.quiet, .int .i64 R.rept] 26 #[.slice cA P.cells.length cc, .slice aA P.hand0.length ac, .slice bA P.hand1.length bc, .int .i64 P.turn, .int .i64 P.quiet] 36
  have HX := hide x1
  have K1 := hide k1
  have K2 := hide k2
  clear x1 k1 k2
  have f1 := K1.out.cell
  have f2 := K2.out.cell
  go_enter Try.func36, Try.ntmps36
  go_wp2_with fail
  refine (HC.out _ HX.out).mono ?_
  rintro e w2 ⟨rfl, x2⟩
  have X2 := hide (ext_trans HX.out x2)
  have g1 := (K1.out.ext x2).cell
  have g2 := (K2.out.ext x2).cell
  clear f1 f2 x2
  go_wp2_with fail
  refine (HL.out _ X2.out).mono ?_
  rintro e w3 ⟨rfl, x3⟩
  have X3 := hide x3
  clear g1 g2 x3
  go_wp2
  go_ret2
  exact ⟨rfl, ext_trans X2.out X3.out⟩
set_option maxHeartbeats 2000000 in
set_option maxRecDepth 100000 in
theorem EOf_no (R : RulesM) (P : PosM) (v u : Value) (w : World) (hR : RulesAt w v R) (hP : PosAt w u P) (h : checkE R P ≠ 0) :
    Calls Try.prog 36 #[v, u] w fun e w' => e = .returned (.tuple #[.int .i64 0, .int .i64 (checkE R P)]) ∧ Ext w w' := by
  have HC := hide (fun W (hW : Ext w W) => PCheck_any R P v u W (hR.ext hW) (hP.ext hW))
  obtain ⟨pA, pc, sA, sc, eA, ec, rfl, -⟩ := hR
  obtain ⟨cA, cc, aA, ac, bA, bc, rfl, -⟩ := hP
  have hn : (checkE R P != 0) = true := by simpa using h
  clear h
  generalize checkE R P = E at *
  obtain ⟨x1, k1, k2⟩ := blks2 w #[.string R.name, .int .i64 R.width, .int .i64 R.height, .slice pA R.pieces.length pc, .slice sA R.start.length sc, .bool R.falls, .bool R.keeps, .slice eA R.ends.length ec, .int .i64 R.blocked, .int .i64 R.quiet, .int .i64 R.rept] 26 #[.slice cA P.cells.length cc, .slice aA P.hand0.length ac, .slice bA P.hand1.length bc, .int .i64 P.turn, .int .i64 P.quiet] 36
  have HX := hide x1
  clear x1
  have f1 := k1.cell
  have f2 := k2.cell
  go_enter Try.func36, Try.ntmps36
  go_wp2_with fail
  refine (HC.out _ HX.out).mono ?_
  rintro e w2 ⟨rfl, x2⟩
  clear f1 f2 k1 k2
  go_wp2
  go_ret2
  exact ⟨rfl, ext_trans HX.out x2⟩
end Go.Proofs.Ytcfiannlpkofpaa
