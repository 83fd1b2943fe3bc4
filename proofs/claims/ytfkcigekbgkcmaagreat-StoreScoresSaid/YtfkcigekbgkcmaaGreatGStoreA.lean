/- A store of scores, as plain data. A store of scores in memory. Walks: (*store.Store).slot, check, put. Walk: (*store.Store).get. Walks: (*store.Store).Put, Get, Found, Len. -/
import Derived.Test.YtfkcigekbgkcmaaGreatGZob
import Derived.Test.YtfkcigekbgkcmaaGreatGRowP
import Derived.Test.YtfkcigekbgkcmaaGreatGMini
import Derived.Test.YtfkcigekbgkcmaaGreatGProofP
import Derived.Test.YtfkcigekbgkcmaaGreatRegionK
namespace Go.Proofs.YtfkcigekbgkcmaaGreat
open Go.ChangeShapes Go.WideShapes Go.ChangeAt Go.RowKit Go.Shelf
set_option linter.unusedVariables false
theorem wrap_u_bd (x : Int) : 0 ≤ IntKind.u64.wrap x ∧ IntKind.u64.wrap x < 18446744073709551616 := by
  rw [IntKind.wrap_u64]; omega
theorem keyC_bd (cs : List Int) : ∀ k, 0 ≤ keyC cs k ∧ keyC cs k < 18446744073709551616
  | 0 => by unfold keyC; omega
  | k + 1 => by
    unfold keyC
    split
    · exact keyC_bd cs k
    · exact wrap_u_bd _
theorem keyH_bd {b : Int} (hb : 0 ≤ b ∧ b < 18446744073709551616) (hd : List Int) (p : Int) : ∀ k, 0 ≤ keyH b hd p k ∧ keyH b hd p k < 18446744073709551616
  | 0 => hb
  | k + 1 => by unfold keyH; exact wrap_u_bd _
theorem keyM_bd (P : PosM) : 0 ≤ keyM P ∧ keyM P < 18446744073709551616 := by
  unfold keyM
  split
  · exact wrap_u_bd _
  · unfold keyB; exact keyH_bd (keyH_bd (keyC_bd _ _) _ _ _) _ _ _
/-- A slot: the score of a position to a depth. -/
structure SlotM where
  pos : PosM
  depth : Int
  score : Int
def slotI (P : PosM) (n : Nat) : Nat := (keyM P % (n : Int)).toNat
theorem slotI_lt (P : PosM) {n : Nat} (h : 0 < n) : slotI P n < n := by
  have h1 := Int.emod_lt_of_pos (keyM P) (show (0 : Int) < n by omega)
  have h2 := Int.emod_nonneg (keyM P) (show (n : Int) ≠ 0 by omega)
  unfold slotI
  omega
/-- Does this slot hold the score of P to depth D? -/
def hasB (x : Option SlotM) (P : PosM) (D : Int) : Bool := match x with
  | none => false
  | some s => decide (s.depth = D) && (decide (s.pos.quiet = P.quiet) && sameB s.pos P)
/-- May it be written over? -/
def freeB (x : Option SlotM) (D : Int) : Bool := match x with
  | none => true
  | some s => decide (s.depth ≤ D)
def scoreS (x : Option SlotM) : Int := match x with
  | none => 0
  | some s => s.score
theorem has_eq {x : Option SlotM} {P : PosM} {D : Int} (h : hasB x P D = true) : ∃ s, x = some s ∧ s.pos = P ∧ s.depth = D := by
  cases x with
  | none => cases h
  | some s =>
    simp only [hasB, sameB, Bool.and_eq_true, decide_eq_true_eq] at h
    obtain ⟨h1, h2, h3, h4, h5, h6⟩ := h
    refine ⟨s, rfl, ?_, h1⟩
    obtain ⟨p, d, sc⟩ := s
    obtain ⟨c, a, b, t, q⟩ := p
    cases P
    simp only at *
    subst h2 h3 h4 h5 h6
    rfl
theorem has_self (P : PosM) (D s : Int) : hasB (some ⟨P, D, s⟩) P D = true := by simp [hasB, sameB]
def putS (L : List (Option SlotM)) (P : PosM) (D s : Int) : List (Option SlotM) := if freeB (L.getD (slotI P L.length) none) D = true then L.set (slotI P L.length) (some ⟨P, D, s⟩) else L
theorem putS_len (L : List (Option SlotM)) (P : PosM) (D s : Int) : (putS L P D s).length = L.length := by
  unfold putS; split <;> simp
/-- All scores of a store are right. -/
def RightS (R : RulesM) (L : List (Option SlotM)) : Prop := ∀ s, some s ∈ L → 0 ≤ s.depth ∧ s.score = ofM R s.depth.toNat s.pos
theorem RightS.put {R : RulesM} {L : List (Option SlotM)} {P : PosM} {D s : Int} (h : RightS R L) (h0 : 0 ≤ D) (hs : s = ofM R D.toNat P) : RightS R (putS L P D s) := by
  unfold putS
  split
  · intro x hx
    rcases List.mem_or_eq_of_mem_set hx with hx | hx
    · exact h x hx
    · cases hx; exact ⟨h0, hs⟩
  · exact h
theorem RightS.get {R : RulesM} {L : List (Option SlotM)} {P : PosM} {D : Int} (h : RightS R L) (hb : hasB (L.getD (slotI P L.length) none) P D = true) : scoreS (L.getD (slotI P L.length) none) = ofM R D.toNat P := by
  obtain ⟨s, hx, hp, hd⟩ := has_eq hb
  have hm : some s ∈ L := by
    rw [← hx, List.getD_eq_getElem?_getD]
    cases he : L[slotI P L.length]? with
    | none => rw [List.getD_eq_getElem?_getD, he] at hx; cases hx
    | some y => exact List.mem_of_getElem? he
  rw [hx]
  obtain ⟨-, e⟩ := h s hm
  show s.score = _
  rw [e, hp, hd]
theorem rightS_new (R : RulesM) (n : Nat) : RightS R (List.replicate n none) := fun s h => by
  have := List.eq_of_mem_replicate h
  cases this
/-- What StoreSlots says. -/
theorem slots_first {n : Nat} {P Q : PosM} {a b : Int} (hn : 0 < n) (h : slotI P n ≠ slotI Q n ∨ b < a) :
    hasB ((putS (putS (List.replicate n none) P a 3) Q b 4).getD (slotI P n) none) P a = true ∧ scoreS ((putS (putS (List.replicate n none) P a 3) Q b 4).getD (slotI P n) none) = 3 := by
  have hp := slotI_lt P hn
  have e1 : putS (List.replicate n none) P a 3 = (List.replicate n none).set (slotI P n) (some ⟨P, a, 3⟩) := by
    unfold putS
    rw [List.length_replicate, if_pos]
    rw [List.getD_eq_getElem?_getD, List.getElem?_replicate, if_pos hp]
    rfl
  have hl : ((List.replicate n none).set (slotI P n) (some (⟨P, a, 3⟩ : SlotM))).length = n := by simp
  rw [e1]
  have key : (putS ((List.replicate n none).set (slotI P n) (some ⟨P, a, 3⟩)) Q b 4).getD (slotI P n) none = some ⟨P, a, 3⟩ := by
    unfold putS
    rw [hl]
    by_cases hq : slotI P n = slotI Q n
    · rw [if_neg]
      · rw [List.getD_eq_getElem?_getD, List.getElem?_set_self (by simpa using hp)]; rfl
      · rw [← hq, List.getD_eq_getElem?_getD, List.getElem?_set_self (by simpa using hp)]
        have : b < a := by rcases h with h | h; exact absurd hq h; exact h
        simp [freeB]; omega
    · split
      · rw [List.getD_eq_getElem?_getD, List.getElem?_set_ne (fun e => hq e.symm), List.getElem?_set_self (by simpa using hp)]; rfl
      · rw [List.getD_eq_getElem?_getD, List.getElem?_set_self (by simpa using hp)]; rfl
  rw [key]
  exact ⟨has_self _ _ _, rfl⟩
theorem slots_second {n : Nat} {P Q : PosM} {a b : Int} (hn : 0 < n) (h : slotI P n = slotI Q n) (hab : a ≤ b) :
    hasB ((putS (putS (List.replicate n none) P a 3) Q b 4).getD (slotI Q n) none) Q b = true ∧ scoreS ((putS (putS (List.replicate n none) P a 3) Q b 4).getD (slotI Q n) none) = 4 := by
  have hp := slotI_lt P hn
  have e1 : putS (List.replicate n none) P a 3 = (List.replicate n none).set (slotI P n) (some ⟨P, a, 3⟩) := by
    unfold putS
    rw [List.length_replicate, if_pos]
    rw [List.getD_eq_getElem?_getD, List.getElem?_replicate, if_pos hp]
    rfl
  have hl : ((List.replicate n none).set (slotI P n) (some (⟨P, a, 3⟩ : SlotM))).length = n := by simp
  rw [e1]
  have key : (putS ((List.replicate n none).set (slotI P n) (some ⟨P, a, 3⟩)) Q b 4).getD (slotI Q n) none = some ⟨Q, b, 4⟩ := by
    unfold putS
    rw [hl, if_pos]
    · rw [List.getD_eq_getElem?_getD, List.getElem?_set_self (by rw [hl, ← h]; exact hp)]; rfl
    · rw [← h, List.getD_eq_getElem?_getD, List.getElem?_set_self (by simpa using hp)]
      simp [freeB]; omega
  rw [key]
  exact ⟨has_self _ _ _, rfl⟩
end Go.Proofs.YtfkcigekbgkcmaaGreat
namespace Go.Proofs.YtfkcigekbgkcmaaGreat
open Go.ChangeShapes Go.WideShapes Go.ChangeAt Go.RowKit Go.Shelf
set_option linter.unusedVariables false
set_option linter.unusedSimpArgs false
/-- The types of blocks that a store changes. -/
def tsS : List TypeId := [63, 67]
theorem int_tsS : 3 ∉ tsS := by decide
theorem rules_tsS : rulesT tsS := ⟨by decide, by decide, by decide, by decide⟩
/-- Blocks of other types are as they were; of the store only the number of scores that were found has changed. -/
def SFr (BS : Nat) (w W : World) : Prop := TFr tsS w W ∧ ∀ i u, i < 12 → w.cell? ⟨BS, i, none⟩ = some u → W.cell? ⟨BS, i, none⟩ = some u
theorem SFr.of_ext {BS : Nat} {w W : World} (x : Ext w W) : SFr BS w W := ⟨TFr.of_ext x, fun i u _ h => x.cell h⟩
theorem SFr.trans {BS : Nat} {a b c : World} (h : SFr BS a b) (k : SFr BS b c) : SFr BS a c := ⟨h.1.trans k.1, fun i u hi hu => k.2 i u hi (h.2 i u hi hu)⟩
theorem SFr.refl (BS : Nat) (w : World) : SFr BS w w := ⟨TFr.refl _ _, fun _ _ _ h => h⟩
theorem SFr.blk {BS B : Nat} {w W : World} {t : TypeId} {cs : Array Value} (h : SFr BS w W) (ht : t ∉ tsS) (k : Blk w B t cs) : Blk W B t cs := h.1 B t cs k ht
/-- What the cells of a slot say. -/
def SlotIs (W : World) (b : Bool) (v : Value) (d s : Int) : Option SlotM → Prop
  | none => b = false
  | some y => b = true ∧ PosI W v y.pos ∧ d = y.depth ∧ s = y.score
theorem SlotIs.tfr {ts : List TypeId} {w W : World} {b : Bool} {v : Value} {d s : Int} {x : Option SlotM} (h : SlotIs w b v d s x) (he : 3 ∉ ts) (f : TFr ts w W) : SlotIs W b v d s x := by
  cases x with
  | none => exact h
  | some y => exact ⟨h.1, h.2.1.tfr he f, h.2.2⟩
def SlotAt (W : World) (g i : Nat) (x : Option SlotM) : Prop :=
  ∃ b A0 n0 k0 A1 n1 k1 A2 n2 k2 t q d s, W.cell? ⟨g, i * 8, none⟩ = some (.bool b) ∧ W.cell? ⟨g, i * 8 + 1, none⟩ = some (.slice A0 n0 k0) ∧ W.cell? ⟨g, i * 8 + 2, none⟩ = some (.slice A1 n1 k1) ∧ W.cell? ⟨g, i * 8 + 3, none⟩ = some (.slice A2 n2 k2) ∧
    W.cell? ⟨g, i * 8 + 4, none⟩ = some (.int .i64 t) ∧ W.cell? ⟨g, i * 8 + 5, none⟩ = some (.int .i64 q) ∧ W.cell? ⟨g, i * 8 + 6, none⟩ = some (.int .i64 d) ∧ W.cell? ⟨g, i * 8 + 7, none⟩ = some (.int .i64 s) ∧
    SlotIs W b (.agg #[.slice A0 n0 k0, .slice A1 n1 k1, .slice A2 n2 k2, .int .i64 t, .int .i64 q]) d s x
theorem SlotAt.ext {w W : World} {g i : Nat} {x : Option SlotM} (h : SlotAt w g i x) (e : Ext w W) : SlotAt W g i x := by
  obtain ⟨b, A0, n0, k0, A1, n1, k1, A2, n2, k2, t, q, d, s, h0, h1, h2, h3, h4, h5, h6, h7, h8⟩ := h
  exact ⟨b, A0, n0, k0, A1, n1, k1, A2, n2, k2, t, q, d, s, e.cell h0, e.cell h1, e.cell h2, e.cell h3, e.cell h4, e.cell h5, e.cell h6, e.cell h7, h8.tfr (ts := []) (by simp) (TFr.of_ext e)⟩
/-- A store at block BS, its slots at block g, all of it newer than world w0. -/
def StoreAt (w0 W : World) (BS g : Nat) (R : RulesM) (f : Int) (L : List (Option SlotM)) : Prop :=
  ∃ pA pc sA sc eA ec base cs, Blk W BS 63 #[.string R.name, .int .i64 R.width, .int .i64 R.height, .slice pA R.pieces.length pc, .slice sA R.start.length sc, .bool R.falls, .bool R.keeps, .slice eA R.ends.length ec, .int .i64 R.blocked, .int .i64 R.quiet, .int .i64 R.rept, .slice (some ⟨g, 0, none⟩) L.length L.length, .int .i64 f] ∧ RulesOwn W base (.agg #[.string R.name, .int .i64 R.width, .int .i64 R.height, .slice pA R.pieces.length pc, .slice sA R.start.length sc, .bool R.falls, .bool R.keeps, .slice eA R.ends.length ec, .int .i64 R.blocked, .int .i64 R.quiet, .int .i64 R.rept]) R ∧ Blk W g 67 cs ∧ cs.size = L.length * 8 ∧
    (∀ i x, L[i]? = some x → SlotAt W g i x) ∧ w0.heap.size ≤ BS ∧ w0.heap.size ≤ g ∧ Ext w0 W
theorem StoreAt.ext {w0 w W : World} {BS g : Nat} {R : RulesM} {f : Int} {L : List (Option SlotM)} (h : StoreAt w0 w BS g R f L) (x : Ext w W) : StoreAt w0 W BS g R f L := by
  obtain ⟨pA, pc, sA, sc, eA, ec, base, cs, h1, h2, h3, h4, h5, h6, h7, h8⟩ := h
  exact ⟨pA, pc, sA, sc, eA, ec, base, cs, h1.ext x, h2.ext x, h3.ext x, h4, fun i y hi => (h5 i y hi).ext x, h6, h7, ext_trans h8 x⟩
theorem StoreAt.old {w0 w : World} {BS g : Nat} {R : RulesM} {f : Int} {L : List (Option SlotM)} (h : StoreAt w0 w BS g R f L) : Ext w0 w := by
  obtain ⟨pA, pc, sA, sc, eA, ec, base, cs, h1, h2, h3, h4, h5, h6, h7, h8⟩ := h
  exact h8
theorem set8_get (cs : Array Value) (o : Nat) (u0 u1 u2 u3 u4 u5 u6 u7 : Value) (hs : o + 8 ≤ cs.size) :
    let cs' := (((((((cs.setIfInBounds o u0).setIfInBounds (o + 1) u1).setIfInBounds (o + 2) u2).setIfInBounds (o + 3) u3).setIfInBounds (o + 4) u4).setIfInBounds (o + 5) u5).setIfInBounds (o + 6) u6).setIfInBounds (o + 7) u7
    cs'.size = cs.size ∧ cs'[o]? = some u0 ∧ cs'[o + 1]? = some u1 ∧ cs'[o + 2]? = some u2 ∧ cs'[o + 3]? = some u3 ∧ cs'[o + 4]? = some u4 ∧ cs'[o + 5]? = some u5 ∧ cs'[o + 6]? = some u6 ∧ cs'[o + 7]? = some u7 ∧ ∀ j, (j < o ∨ o + 8 ≤ j) → cs'[j]? = cs[j]? := by
  intro cs'
  have hz : cs'.size = cs.size := by simp [cs']
  have H : ∀ k, k < cs.size → True := fun _ _ => trivial
  refine ⟨hz, ?_, ?_, ?_, ?_, ?_, ?_, ?_, ?_, fun j hj => ?_⟩
  all_goals simp only [cs', Array.getElem?_setIfInBounds, Array.size_setIfInBounds]
  all_goals (repeat (first | rw [if_neg (by omega)] | rw [if_pos (by omega)] | rw [if_pos True.intro]))
theorem cell_set8 {w : World} {g o : Nat} {t : TypeId} {cs : Array Value} (h : Blk w g t cs) (u0 u1 u2 u3 u4 u5 u6 u7 : Value) (hs : o + 8 ≤ cs.size) :
    ∃ cs', Blk ((((((((w.setCell ⟨g, o, none⟩ u0).setCell ⟨g, o + 1, none⟩ u1).setCell ⟨g, o + 2, none⟩ u2).setCell ⟨g, o + 3, none⟩ u3).setCell ⟨g, o + 4, none⟩ u4).setCell ⟨g, o + 5, none⟩ u5).setCell ⟨g, o + 6, none⟩ u6).setCell ⟨g, o + 7, none⟩ u7) g t cs' ∧
      cs'.size = cs.size ∧ cs'[o]? = some u0 ∧ cs'[o + 1]? = some u1 ∧ cs'[o + 2]? = some u2 ∧ cs'[o + 3]? = some u3 ∧ cs'[o + 4]? = some u4 ∧ cs'[o + 5]? = some u5 ∧ cs'[o + 6]? = some u6 ∧ cs'[o + 7]? = some u7 ∧ ∀ j, (j < o ∨ o + 8 ≤ j) → cs'[j]? = cs[j]? :=
  ⟨_, (((((((h.set_ o u0).set_ (o + 1) u1).set_ (o + 2) u2).set_ (o + 3) u3).set_ (o + 4) u4).set_ (o + 5) u5).set_ (o + 6) u6).set_ (o + 7) u7, set8_get cs o u0 u1 u2 u3 u4 u5 u6 u7 hs⟩
/-- A world in which a slot has been written. -/
theorem StoreAt.put {w0 w : World} {BS g i : Nat} {R : RulesM} {f : Int} {L : List (Option SlotM)} {P : PosM} {D s : Int} {g0 g1 g2 d0 d1 d2 : Nat} (h : StoreAt w0 w BS g R f L) (hi : i < L.length)
    (hP : PosI w (.agg #[.slice (some ⟨g0, 0, none⟩) P.cells.length d0, .slice (some ⟨g1, 0, none⟩) P.hand0.length d1, .slice (some ⟨g2, 0, none⟩) P.hand1.length d2, .int .i64 P.turn, .int .i64 P.quiet]) P) {W : World}
    (hW : ((((((((w.setCell ⟨g, i * 8, none⟩ (.bool true)).setCell ⟨g, i * 8 + 1, none⟩ (.slice (some ⟨g0, 0, none⟩) P.cells.length d0)).setCell ⟨g, i * 8 + 2, none⟩ (.slice (some ⟨g1, 0, none⟩) P.hand0.length d1)).setCell ⟨g, i * 8 + 3, none⟩ (.slice (some ⟨g2, 0, none⟩) P.hand1.length d2)).setCell ⟨g, i * 8 + 4, none⟩ (.int .i64 P.turn)).setCell ⟨g, i * 8 + 5, none⟩ (.int .i64 P.quiet)).setCell ⟨g, i * 8 + 6, none⟩ (.int .i64 D)).setCell ⟨g, i * 8 + 7, none⟩ (.int .i64 s)) = W) :
    StoreAt w0 W BS g R f (L.set i (some ⟨P, D, s⟩)) ∧ SFr BS w W := by
  obtain ⟨pA, pc, sA, sc, eA, ec, base, cs, h1, h2, h3, h4, h5, h6, h7, h8⟩ := h
  have hne : BS ≠ g := by
    rintro rfl
    have e := h1.symm.trans h3
    simp only [Option.some.injEq, Obj.cells.injEq] at e
    exact absurd e.2.1 (by decide)
  obtain ⟨cs', k, ks, c0, c1, c2, c3, c4, c5, c6, c7, cf⟩ := cell_set8 (o := i * 8) h3 (.bool true) (.slice (some ⟨g0, 0, none⟩) P.cells.length d0) (.slice (some ⟨g1, 0, none⟩) P.hand0.length d1) (.slice (some ⟨g2, 0, none⟩) P.hand1.length d2) (.int .i64 P.turn) (.int .i64 P.quiet) (.int .i64 D) (.int .i64 s) (by omega)
  have ht : 67 ∈ tsS := by decide
  have F : TFr tsS w W := by
    rw [← hW]
    have s1 := h3.set_ (i * 8) (.bool true)
    have s2 := s1.set_ (i * 8 + 1) (.slice (some ⟨g0, 0, none⟩) P.cells.length d0)
    have s3 := s2.set_ (i * 8 + 2) (.slice (some ⟨g1, 0, none⟩) P.hand0.length d1)
    have s4 := s3.set_ (i * 8 + 3) (.slice (some ⟨g2, 0, none⟩) P.hand1.length d2)
    have s5 := s4.set_ (i * 8 + 4) (.int .i64 P.turn)
    have s6 := s5.set_ (i * 8 + 5) (.int .i64 P.quiet)
    have s7 := s6.set_ (i * 8 + 6) (.int .i64 D)
    exact (TFr.set h3 ht _ _).trans ((TFr.set s1 ht _ _).trans ((TFr.set s2 ht _ _).trans ((TFr.set s3 ht _ _).trans ((TFr.set s4 ht _ _).trans ((TFr.set s5 ht _ _).trans ((TFr.set s6 ht _ _).trans (TFr.set s7 ht _ _)))))))
  have X : Ext w0 W := by
    rw [← hW]
    exact ext_set (ext_set (ext_set (ext_set (ext_set (ext_set (ext_set (ext_set h8 (p := ⟨g, _, none⟩) h7 _) (p := ⟨g, _, none⟩) h7 _) (p := ⟨g, _, none⟩) h7 _) (p := ⟨g, _, none⟩) h7 _) (p := ⟨g, _, none⟩) h7 _) (p := ⟨g, _, none⟩) h7 _) (p := ⟨g, _, none⟩) h7 _) (p := ⟨g, _, none⟩) h7 _
  have B : Blk W BS 63 #[.string R.name, .int .i64 R.width, .int .i64 R.height, .slice pA R.pieces.length pc, .slice sA R.start.length sc, .bool R.falls, .bool R.keeps, .slice eA R.ends.length ec, .int .i64 R.blocked, .int .i64 R.quiet, .int .i64 R.rept, .slice (some ⟨g, 0, none⟩) L.length L.length, .int .i64 f] := by
    rw [← hW]
    exact (((((((h1.far (p := ⟨g, _, none⟩) hne _).far (p := ⟨g, _, none⟩) hne _).far (p := ⟨g, _, none⟩) hne _).far (p := ⟨g, _, none⟩) hne _).far (p := ⟨g, _, none⟩) hne _).far (p := ⟨g, _, none⟩) hne _).far (p := ⟨g, _, none⟩) hne _).far (p := ⟨g, _, none⟩) hne _
  have G : SFr BS w W := ⟨F, fun j u _ hu => by
    rw [B.cell, ← h1.cell]
    exact hu⟩
  rw [hW] at k
  refine ⟨⟨pA, pc, sA, sc, eA, ec, base, cs', by rw [List.length_set]; exact B, h2.tfr rules_tsS F, k, by rw [List.length_set]; omega, fun j x hj => ?_, h6, h7, X⟩, G⟩
  by_cases e : i = j
  · subst e
    rw [List.getElem?_set_self hi] at hj
    cases hj
    exact ⟨true, _, _, _, _, _, _, _, _, _, _, _, _, _, (k.cell _).trans c0, (k.cell _).trans c1, (k.cell _).trans c2, (k.cell _).trans c3, (k.cell _).trans c4, (k.cell _).trans c5, (k.cell _).trans c6, (k.cell _).trans c7, rfl, hP.tfr int_tsS F, rfl, rfl⟩
  · rw [List.getElem?_set_ne e] at hj
    obtain ⟨b, A0, n0, k0, A1, n1, k1, A2, n2, k2, t, q, d, s', q0, q1, q2, q3, q4, q5, q6, q7, q8⟩ := h5 j x hj
    have hk : ∀ a, a < 8 → ∀ v, w.cell? ⟨g, j * 8 + a, none⟩ = some v → W.cell? ⟨g, j * 8 + a, none⟩ = some v := fun a ha v hv => by
      rw [k.cell, cf _ (by omega), ← h3.cell]
      exact hv
    exact ⟨b, A0, n0, k0, A1, n1, k1, A2, n2, k2, t, q, d, s', hk 0 (by omega) _ q0, hk 1 (by omega) _ q1, hk 2 (by omega) _ q2, hk 3 (by omega) _ q3, hk 4 (by omega) _ q4, hk 5 (by omega) _ q5, hk 6 (by omega) _ q6, hk 7 (by omega) _ q7, q8.tfr int_tsS F⟩
/-- A world in which one more score has been found. -/
theorem StoreAt.hit {w0 w : World} {BS g : Nat} {R : RulesM} {f : Int} {L : List (Option SlotM)} (h : StoreAt w0 w BS g R f L) (f' : Int) : StoreAt w0 (w.setCell ⟨BS, 12, none⟩ (.int .i64 f')) BS g R f' L ∧ SFr BS w (w.setCell ⟨BS, 12, none⟩ (.int .i64 f')) := by
  obtain ⟨pA, pc, sA, sc, eA, ec, base, cs, h1, h2, h3, h4, h5, h6, h7, h8⟩ := h
  have hne : g ≠ BS := by
    rintro rfl
    have e := h1.symm.trans h3
    simp only [Option.some.injEq, Obj.cells.injEq] at e
    exact absurd e.2.1 (by decide)
  have F : TFr tsS w (w.setCell ⟨BS, 12, none⟩ (.int .i64 f')) := TFr.set h1 (by decide) _ _
  have hg : ∀ j, (w.setCell ⟨BS, 12, none⟩ (.int .i64 f')).cell? ⟨g, j, none⟩ = w.cell? ⟨g, j, none⟩ := fun j => by
    rw [(h3.far (p := ⟨BS, 12, none⟩) hne _).cell, h3.cell]
  refine ⟨⟨pA, pc, sA, sc, eA, ec, base, cs, blk_put h1 rfl, h2.tfr rules_tsS F, h3.far (p := ⟨BS, 12, none⟩) hne _, h4, fun j x hj => ?_, h6, h7, ext_set h8 (p := ⟨BS, 12, none⟩) h6 _⟩, F, fun j u hj hu => by
    rw [(h1.set_ 12 (.int .i64 f')).cell, Array.getElem?_setIfInBounds, if_neg (by omega), ← h1.cell]
    exact hu⟩
  obtain ⟨b, A0, n0, k0, A1, n1, k1, A2, n2, k2, t, q, d, s', q0, q1, q2, q3, q4, q5, q6, q7, q8⟩ := h5 j x hj
  exact ⟨b, A0, n0, k0, A1, n1, k1, A2, n2, k2, t, q, d, s', (hg _).trans q0, (hg _).trans q1, (hg _).trans q2, (hg _).trans q3, (hg _).trans q4, (hg _).trans q5, (hg _).trans q6, (hg _).trans q7, q8.tfr int_tsS F⟩
end Go.Proofs.YtfkcigekbgkcmaaGreat
namespace Go.Proofs.YtfkcigekbgkcmaaGreat
open Go.ChangeShapes Go.WideShapes Go.ChangeAt Go.RowKit Go.Shelf
set_option linter.unusedVariables false
set_option linter.unusedSimpArgs false
theorem StoreAt.frz {w0 w : World} {BS g : Nat} {R : RulesM} {f : Int} {L : List (Option SlotM)} (h : StoreAt w0 w BS g R f L) : ∀ i, w.frozen? ⟨g, i, none⟩ = false := by
  obtain ⟨pA, pc, sA, sc, eA, ec, base, cs, kS, ro, kg, -⟩ := h
  exact kg.frozen
theorem slot_none {w0 w : World} {BS g k : Nat} {R : RulesM} {f : Int} {L : List (Option SlotM)} (h : StoreAt w0 w BS g R f L) (hk : k < L.length) (hx : L.getD k none = none) :
    ∀ W, Ext w W → ∃ A0 n0 k0 A1 n1 k1 A2 n2 k2 t q d s, W.cell? ⟨g, k * 8, none⟩ = some (.bool false) ∧ W.cell? ⟨g, k * 8 + 1, none⟩ = some (.slice A0 n0 k0) ∧ W.cell? ⟨g, k * 8 + 2, none⟩ = some (.slice A1 n1 k1) ∧ W.cell? ⟨g, k * 8 + 3, none⟩ = some (.slice A2 n2 k2) ∧
      W.cell? ⟨g, k * 8 + 4, none⟩ = some (.int .i64 t) ∧ W.cell? ⟨g, k * 8 + 5, none⟩ = some (.int .i64 q) ∧ W.cell? ⟨g, k * 8 + 6, none⟩ = some (.int .i64 d) ∧ W.cell? ⟨g, k * 8 + 7, none⟩ = some (.int .i64 s) := fun W x => by
  obtain ⟨pA, pc, sA, sc, eA, ec, base, cs, kS, ro, kg, hcs, hsl, -⟩ := h
  rw [List.getD_eq_getElem?_getD, List.getElem?_eq_getElem hk] at hx
  obtain ⟨b, A0, n0, k0, A1, n1, k1, A2, n2, k2, t, q, d, s, h0, h1, h2, h3, h4, h5, h6, h7, h8⟩ := hsl k _ (List.getElem?_eq_getElem hk)
  rw [show L[k] = none from hx] at h8
  obtain rfl : b = false := h8
  exact ⟨A0, n0, k0, A1, n1, k1, A2, n2, k2, t, q, d, s, x.cell h0, x.cell h1, x.cell h2, x.cell h3, x.cell h4, x.cell h5, x.cell h6, x.cell h7⟩
theorem slot_some {w0 w : World} {BS g k : Nat} {R : RulesM} {f : Int} {L : List (Option SlotM)} {y : SlotM} (h : StoreAt w0 w BS g R f L) (hk : k < L.length) (hx : L.getD k none = some y) :
    ∀ W, Ext w W → ∃ A0 n0 k0 A1 n1 k1 A2 n2 k2 t q s, W.cell? ⟨g, k * 8, none⟩ = some (.bool true) ∧ W.cell? ⟨g, k * 8 + 1, none⟩ = some (.slice A0 n0 k0) ∧ W.cell? ⟨g, k * 8 + 2, none⟩ = some (.slice A1 n1 k1) ∧ W.cell? ⟨g, k * 8 + 3, none⟩ = some (.slice A2 n2 k2) ∧
      W.cell? ⟨g, k * 8 + 4, none⟩ = some (.int .i64 t) ∧ W.cell? ⟨g, k * 8 + 5, none⟩ = some (.int .i64 q) ∧ W.cell? ⟨g, k * 8 + 6, none⟩ = some (.int .i64 y.depth) ∧ W.cell? ⟨g, k * 8 + 7, none⟩ = some (.int .i64 s) := fun W x => by
  obtain ⟨pA, pc, sA, sc, eA, ec, base, cs, kS, ro, kg, hcs, hsl, -⟩ := h
  rw [List.getD_eq_getElem?_getD, List.getElem?_eq_getElem hk] at hx
  obtain ⟨b, A0, n0, k0, A1, n1, k1, A2, n2, k2, t, q, d, s, h0, h1, h2, h3, h4, h5, h6, h7, h8⟩ := hsl k _ (List.getElem?_eq_getElem hk)
  rw [show L[k] = some y from hx] at h8
  obtain ⟨rfl, -, rfl, -⟩ := h8
  exact ⟨A0, n0, k0, A1, n1, k1, A2, n2, k2, t, q, s, x.cell h0, x.cell h1, x.cell h2, x.cell h3, x.cell h4, x.cell h5, x.cell h6, x.cell h7⟩
set_option maxHeartbeats 2000000 in
set_option maxRecDepth 100000 in
theorem slot_any {w0 w : World} {BS g : Nat} {R : RulesM} {f : Int} {L : List (Option SlotM)} {P : PosM} {u : Value} (hG : StoreAt w0 w BS g R f L) (hn : 0 < L.length) (hl : L.length ≤ 4096) (hP : PosAt w u P) (hV : Valid R) (hS : Sound R P) :
    Calls Tryz.prog 63 #[.pointer (some ⟨BS, 0, none⟩), u] w fun e w' => e = .returned (.pointer (some ⟨g, slotI P L.length * 8, none⟩)) ∧ Ext w w' := by
  have HG := hide hG
  obtain ⟨pA, pc, sA, sc, eA, ec, base, cs, kS, ro, kg, hcs, hsl, hb1, hb2, hx0⟩ := hG
  obtain ⟨cA, cc, aA, ac, bA, bc, rfl, -⟩ := id hP
  have HOF := hide (fun W (h : Ext w W) => Of_any R P _ W (hP.ext h) hV hS)
  obtain ⟨x1, k1⟩ := blks1 w #[.slice cA P.cells.length cc, .slice aA P.hand0.length ac, .slice bA P.hand1.length bc, .int .i64 P.turn, .int .i64 P.quiet] 29
  have X1 := hide x1
  have KP := hide k1
  have KS := hide (kS.ext x1)
  have hkb := keyM_bd P
  have hkl := slotI_lt P hn
  have hkm : keyM P % (L.length : Int) = ((slotI P L.length : Nat) : Int) := by
    have := Int.emod_nonneg (keyM P) (show (L.length : Int) ≠ 0 by omega)
    unfold slotI
    omega
  have hkt : (keyM P).tmod (L.length : Int) = ((slotI P L.length : Nat) : Int) := by rw [Int.tmod_eq_emod_of_nonneg hkb.1]; exact hkm
  generalize slotI P L.length = k at *
  generalize keyM P = q at *
  obtain ⟨hq0, hq1⟩ := hkb
  have hw1 : IntKind.u64.wrap (L.length : Int) = (L.length : Int) := by rw [IntKind.wrap_u64]; omega
  have hw2 : IntKind.u64.wrap (k : Int) = (k : Int) := by rw [IntKind.wrap_u64]; omega
  have hw3 : IntKind.u64.wrap (q % (L.length : Int)) = (k : Int) := by rw [hkm]; exact hw2
  have i0 : (0 : Int) ≤ (k : Int) := by omega
  have i1 : (k : Int) < (L.length : Int) := by omega
  have t0 : ((L.length : Int) == 0) = false := beq_eq_false_iff_ne.2 (by omega)
  have t1 : ¬ L = [] := fun e => by rw [e] at hn; exact absurd hn (by decide)
  clear kS k1 x1 hV hS hP ro kg hcs hsl hb1 hb2 hx0 HG
  go_enter Tryz.func63, Tryz.ntmps63
  go_upto_region 1 with fail
  generalize w.alloc (.cells #[.slice cA P.cells.length cc, .slice aA P.hand0.length ac, .slice bA P.hand1.length bc, .int .i64 P.turn, .int .i64 P.quiet] 29) = w2 at *
  generalize w.heap.size = B1 at *
  have keepK := hide (fun W (h : Ext w2 W) => (show (fun W => W.cell? ⟨B1, 0, none⟩ = some (.slice cA P.cells.length cc) ∧ W.cell? ⟨B1, 1, none⟩ = some (.slice aA P.hand0.length ac) ∧ W.cell? ⟨B1, 2, none⟩ = some (.slice bA P.hand1.length bc) ∧ W.cell? ⟨B1, 3, none⟩ = some (.int .i64 P.turn) ∧ W.cell? ⟨B1, 4, none⟩ = some (.int .i64 P.quiet) ∧ W.cell? ⟨BS, 11, none⟩ = some (.slice (some ⟨g, 0, none⟩) L.length L.length) ∧ Ext w2 W) W from ⟨(KP.out.ext h).cell 0, (KP.out.ext h).cell 1, (KP.out.ext h).cell 2, (KP.out.ext h).cell 3, (KP.out.ext h).cell 4, (KS.out.ext h).cell 11, h⟩))
  have yy : Ext w2 w2.drew := Below.drew (Below.refl _ _)
  refine region_K (fun W => W.cell? ⟨B1, 0, none⟩ = some (.slice cA P.cells.length cc) ∧ W.cell? ⟨B1, 1, none⟩ = some (.slice aA P.hand0.length ac) ∧ W.cell? ⟨B1, 2, none⟩ = some (.slice bA P.hand1.length bc) ∧ W.cell? ⟨B1, 3, none⟩ = some (.int .i64 P.turn) ∧ W.cell? ⟨B1, 4, none⟩ = some (.int .i64 P.quiet) ∧ W.cell? ⟨BS, 11, none⟩ = some (.slice (some ⟨g, 0, none⟩) L.length L.length) ∧ Ext w2 W) (fun _ => True) [] (by kernel_rfl) ?_
  have hT0 := keepK.out _ yy
  refine anyK_take 0 (oi := ?oo1) ?ho1 (by kernel_rfl) (by kernel_rfl) (by kernel_rfl) (by kernel_rfl) ?hq1 ?hw1 hT0 (fun _ => trivial) (v := ?vv1) ?hy1 ?hk1
  case ho1 => (simp only [List.getElem?_toArray, List.getElem?_cons_succ, List.getElem?_cons_zero]; rfl)
  case hq1 => exact fun _ _ _ h => h
  case hw1 => rfl
  case hy1 =>
    intro W hW
    go_simp
    first | done | with_reducible rfl
  case hk1 =>
  try simp only [Act.put, List.setIfInBounds_toArray, List.set_cons_zero, List.set_cons_succ]
  refine anyK_take 1 (oi := ?oo2) ?ho2 (by kernel_rfl) (by kernel_rfl) (by kernel_rfl) (by kernel_rfl) ?hq2 ?hw2 hT0 (fun _ => trivial) (v := ?vv2) ?hy2 ?hk2
  case ho2 => (simp only [List.getElem?_toArray, List.getElem?_cons_succ, List.getElem?_cons_zero]; rfl)
  case hq2 => exact fun _ _ _ h => h
  case hw2 => rfl
  case hy2 =>
    intro W hW
    go_simp
    first | done | with_reducible rfl
  case hk2 =>
  try simp only [Act.put, List.setIfInBounds_toArray, List.set_cons_zero, List.set_cons_succ]
  refine anyK_take 2 (oi := ?oo3) ?ho3 (by kernel_rfl) (by kernel_rfl) (by kernel_rfl) (by kernel_rfl) ?hq3 ?hw3 hT0 (fun _ => trivial) (v := ?vv3) ?hy3 ?hk3
  case ho3 => (simp only [List.getElem?_toArray, List.getElem?_cons_succ, List.getElem?_cons_zero]; rfl)
  case hq3 => exact fun _ _ _ h => h
  case hw3 => rfl
  case hy3 =>
    intro W hW
    go_simp
    first | done | with_reducible rfl
  case hk3 =>
  try simp only [Act.put, List.setIfInBounds_toArray, List.set_cons_zero, List.set_cons_succ]
  refine anyK_take 3 (oi := ?oo4) ?ho4 (by kernel_rfl) (by kernel_rfl) (by kernel_rfl) (by kernel_rfl) ?hq4 ?hw4 hT0 (fun _ => trivial) (v := ?vv4) ?hy4 ?hk4
  case ho4 => (simp only [List.getElem?_toArray, List.getElem?_cons_succ, List.getElem?_cons_zero]; rfl)
  case hq4 => exact fun _ _ _ h => h
  case hw4 => rfl
  case hy4 =>
    intro W hW
    obtain ⟨z0, z1, z2, z3, z4, z5, z6⟩ := hW
    go_simp
    first | done | with_reducible rfl
  case hk4 =>
  try simp only [Act.put, List.setIfInBounds_toArray, List.set_cons_zero, List.set_cons_succ]
  refine anyK_take 4 (oi := ?oo5) ?ho5 (by kernel_rfl) (by kernel_rfl) (by kernel_rfl) (by kernel_rfl) ?hq5 ?hw5 hT0 (fun _ => trivial) (v := ?vv5) ?hy5 ?hk5
  case ho5 => (simp only [List.getElem?_toArray, List.getElem?_cons_succ, List.getElem?_cons_zero]; rfl)
  case hq5 => exact fun _ _ _ h => h
  case hw5 => rfl
  case hy5 =>
    intro W hW
    obtain ⟨z0, z1, z2, z3, z4, z5, z6⟩ := hW
    go_simp
    first | done | with_reducible rfl
  case hk5 =>
  try simp only [Act.put, List.setIfInBounds_toArray, List.set_cons_zero, List.set_cons_succ]
  refine anyK_take 6 (oi := ?oo6) ?ho6 (by kernel_rfl) (by kernel_rfl) (by kernel_rfl) (by kernel_rfl) ?hq6 ?hw6 hT0 (fun _ => trivial) (v := ?vv6) ?hy6 ?hk6
  case ho6 => (simp only [List.getElem?_toArray, List.getElem?_cons_succ, List.getElem?_cons_zero]; rfl)
  case hq6 => exact fun _ _ _ h => h
  case hw6 => rfl
  case hy6 =>
    intro W hW
    go_simp
    first | done | with_reducible rfl
  case hk6 =>
  try simp only [Act.put, List.setIfInBounds_toArray, List.set_cons_zero, List.set_cons_succ]
  refine anyK_take 7 (oi := ?oo7) ?ho7 (by kernel_rfl) (by kernel_rfl) (by kernel_rfl) (by kernel_rfl) ?hq7 ?hw7 hT0 (fun _ => trivial) (v := ?vv7) ?hy7 ?hk7
  case ho7 => (simp only [List.getElem?_toArray, List.getElem?_cons_succ, List.getElem?_cons_zero]; rfl)
  case hq7 => exact fun _ _ _ h => h
  case hw7 => rfl
  case hy7 =>
    intro W hW
    go_simp
    first | done | with_reducible rfl
  case hk7 =>
  try simp only [Act.put, List.setIfInBounds_toArray, List.set_cons_zero, List.set_cons_succ]
  refine anyK_take 8 (oi := ?oo8) ?ho8 (by kernel_rfl) (by kernel_rfl) (by kernel_rfl) (by kernel_rfl) ?hq8 ?hw8 hT0 (fun _ => trivial) (v := ?vv8) ?hy8 ?hk8
  case ho8 => (simp only [List.getElem?_toArray, List.getElem?_cons_succ, List.getElem?_cons_zero]; rfl)
  case hq8 => exact fun _ _ _ h => h
  case hw8 => rfl
  case hy8 =>
    intro W hW
    go_simp
    first | done | with_reducible rfl
  case hk8 =>
  try simp only [Act.put, List.setIfInBounds_toArray, List.set_cons_zero, List.set_cons_succ]
  refine anyK_take 9 (oi := ?oo9) ?ho9 (by kernel_rfl) (by kernel_rfl) (by kernel_rfl) (by kernel_rfl) ?hq9 ?hw9 hT0 (fun _ => trivial) (v := ?vv9) ?hy9 ?hk9
  case ho9 => (simp only [List.getElem?_toArray, List.getElem?_cons_succ, List.getElem?_cons_zero]; rfl)
  case hq9 => exact fun _ _ _ h => h
  case hw9 => rfl
  case hy9 =>
    intro W hW
    obtain ⟨z0, z1, z2, z3, z4, z5, z6⟩ := hW
    go_simp
    first | done | with_reducible rfl
  case hk9 =>
  try simp only [Act.put, List.setIfInBounds_toArray, List.set_cons_zero, List.set_cons_succ]
  refine anyK_take 10 (oi := ?oo10) ?ho10 (by kernel_rfl) (by kernel_rfl) (by kernel_rfl) (by kernel_rfl) ?hq10 ?hw10 hT0 (fun _ => trivial) (v := ?vv10) ?hy10 ?hk10
  case ho10 => (simp only [List.getElem?_toArray, List.getElem?_cons_succ, List.getElem?_cons_zero]; rfl)
  case hq10 => exact fun _ _ _ h => h
  case hw10 => rfl
  case hy10 =>
    intro W hW
    go_simp
    first | done | with_reducible rfl
  case hk10 =>
  try simp only [Act.put, List.setIfInBounds_toArray, List.set_cons_zero, List.set_cons_succ]
  refine anyK_take 11 (oi := ?oo11) ?ho11 (by kernel_rfl) (by kernel_rfl) (by kernel_rfl) (by kernel_rfl) ?hq11 ?hw11 hT0 (fun _ => trivial) (v := ?vv11) ?hy11 ?hk11
  case ho11 => (simp only [List.getElem?_toArray, List.getElem?_cons_succ, List.getElem?_cons_zero]; rfl)
  case hq11 => exact fun _ _ _ h => h
  case hw11 => rfl
  case hy11 =>
    intro W hW
    go_simp
    first | done | with_reducible rfl
  case hk11 =>
  try simp only [Act.put, List.setIfInBounds_toArray, List.set_cons_zero, List.set_cons_succ]
  refine anyK_on1 5 (by kernel_rfl) ?_
  refine anyK_one 5 (o := ?oo12) ?ho12 ?hk12
  case ho12 => (simp only [List.getElem?_toArray, List.getElem?_cons_succ, List.getElem?_cons_zero]; rfl)
  case hk12 =>
  intro K hK
  go_simp
  refine (HOF.out _ (ext_trans X1.out yy)).mono ?_
  rintro e w3 ⟨rfl, xx⟩
  try go_wp2_with fail
  replace yy := ext_trans yy xx
  have hT1 := keepK.out _ yy
  refine hK.out _ _ hT1 (fun _ => trivial) ?_
  clear hK K
  try simp only [Act.put, List.setIfInBounds_toArray, List.set_cons_zero, List.set_cons_succ]
  refine anyK_take 12 (oi := ?oo13) ?ho13 (by kernel_rfl) (by kernel_rfl) (by kernel_rfl) (by kernel_rfl) ?hq13 ?hw13 hT1 (fun _ => trivial) (v := ?vv13) ?hy13 ?hk13
  case ho13 => (simp only [List.getElem?_toArray, List.getElem?_cons_succ, List.getElem?_cons_zero]; rfl)
  case hq13 => exact fun _ _ _ h => h
  case hw13 => rfl
  case hy13 =>
    intro W hW
    go_simp
    first | done | with_reducible rfl
  case hk13 =>
  try simp only [Act.put, List.setIfInBounds_toArray, List.set_cons_zero, List.set_cons_succ]
  refine anyK_take 13 (oi := ?oo14) ?ho14 (by kernel_rfl) (by kernel_rfl) (by kernel_rfl) (by kernel_rfl) ?hq14 ?hw14 hT1 (fun _ => trivial) (v := ?vv14) ?hy14 ?hk14
  case ho14 => (simp only [List.getElem?_toArray, List.getElem?_cons_succ, List.getElem?_cons_zero]; rfl)
  case hq14 => exact fun _ _ _ h => h
  case hw14 => rfl
  case hy14 =>
    intro W hW
    go_simp
    first | done | with_reducible rfl
  case hk14 =>
  try simp only [Act.put, List.setIfInBounds_toArray, List.set_cons_zero, List.set_cons_succ]
  refine anyK_take 14 (oi := ?oo15) ?ho15 (by kernel_rfl) (by kernel_rfl) (by kernel_rfl) (by kernel_rfl) ?hq15 ?hw15 hT1 (fun _ => trivial) (v := ?vv15) ?hy15 ?hk15
  case ho15 => (simp only [List.getElem?_toArray, List.getElem?_cons_succ, List.getElem?_cons_zero]; rfl)
  case hq15 => exact fun _ _ _ h => h
  case hw15 => rfl
  case hy15 =>
    intro W hW
    go_simp
    first | done | with_reducible rfl
  case hk15 =>
  try simp only [Act.put, List.setIfInBounds_toArray, List.set_cons_zero, List.set_cons_succ]
  refine anyK_done (by kernel_rfl) ?_ _
  clear keepK hT0 hT1
  go_wp2
  go_ret
  exact ⟨by first | rfl | simp, ext_trans X1.out yy⟩
set_option maxHeartbeats 2000000 in
set_option maxRecDepth 100000 in
theorem schk_bad {w0 w : World} {BS g : Nat} {R : RulesM} {f : Int} {L : List (Option SlotM)} {P : PosM} {u : Value} {D : Int} (hG : StoreAt w0 w BS g R f L) (hP : PosAt w u P) (he : checkE R P ≠ 0) :
    Calls Tryz.prog 33 #[.pointer (some ⟨BS, 0, none⟩), u, .int .i64 D] w fun e w' => e = .returned (.int .i64 (checkE R P)) ∧ Ext w w' := by
  obtain ⟨pA, pc, sA, sc, eA, ec, base, cs, kS, ro, -⟩ := hG
  obtain ⟨cA, cc, aA, ac, bA, bc, rfl, -⟩ := id hP
  have HC := hide (fun W (h : Ext w W) => PCheck_any R P _ _ W (ro.at_.ext h) (hP.ext h))
  obtain ⟨x1, k1⟩ := blks1 w #[.slice cA P.cells.length cc, .slice aA P.hand0.length ac, .slice bA P.hand1.length bc, .int .i64 P.turn, .int .i64 P.quiet] 29
  have X1 := hide x1
  have KP := hide k1
  have KS := hide (kS.ext x1)
  clear kS k1 x1 hP ro
  have t0 : (checkE R P != 0) = true := by simpa using he
  clear he
  generalize checkE R P = E at *
  go_enter Tryz.func33, Tryz.ntmps33
  go_upto_region 1 with fail
  generalize w.alloc (.cells #[.slice cA P.cells.length cc, .slice aA P.hand0.length ac, .slice bA P.hand1.length bc, .int .i64 P.turn, .int .i64 P.quiet] 29) = w2 at *
  generalize w.heap.size = B1 at *
  have keepK := hide (fun W (h : Ext w2 W) => (show (fun W => W.cell? ⟨B1, 0, none⟩ = some (.slice cA P.cells.length cc) ∧ W.cell? ⟨B1, 1, none⟩ = some (.slice aA P.hand0.length ac) ∧ W.cell? ⟨B1, 2, none⟩ = some (.slice bA P.hand1.length bc) ∧ W.cell? ⟨B1, 3, none⟩ = some (.int .i64 P.turn) ∧ W.cell? ⟨B1, 4, none⟩ = some (.int .i64 P.quiet) ∧ W.cell? ⟨BS, 0, none⟩ = some (.string R.name) ∧ W.cell? ⟨BS, 1, none⟩ = some (.int .i64 R.width) ∧ W.cell? ⟨BS, 2, none⟩ = some (.int .i64 R.height) ∧ W.cell? ⟨BS, 3, none⟩ = some (.slice pA R.pieces.length pc) ∧ W.cell? ⟨BS, 4, none⟩ = some (.slice sA R.start.length sc) ∧ W.cell? ⟨BS, 5, none⟩ = some (.bool R.falls) ∧ W.cell? ⟨BS, 6, none⟩ = some (.bool R.keeps) ∧ W.cell? ⟨BS, 7, none⟩ = some (.slice eA R.ends.length ec) ∧ W.cell? ⟨BS, 8, none⟩ = some (.int .i64 R.blocked) ∧ W.cell? ⟨BS, 9, none⟩ = some (.int .i64 R.quiet) ∧ W.cell? ⟨BS, 10, none⟩ = some (.int .i64 R.rept) ∧ Ext w2 W) W from ⟨(KP.out.ext h).cell 0, (KP.out.ext h).cell 1, (KP.out.ext h).cell 2, (KP.out.ext h).cell 3, (KP.out.ext h).cell 4, (KS.out.ext h).cell 0, (KS.out.ext h).cell 1, (KS.out.ext h).cell 2, (KS.out.ext h).cell 3, (KS.out.ext h).cell 4, (KS.out.ext h).cell 5, (KS.out.ext h).cell 6, (KS.out.ext h).cell 7, (KS.out.ext h).cell 8, (KS.out.ext h).cell 9, (KS.out.ext h).cell 10, h⟩))
  have yy : Ext w2 w2.drew := Below.drew (Below.refl _ _)
  refine region_K (fun W => W.cell? ⟨B1, 0, none⟩ = some (.slice cA P.cells.length cc) ∧ W.cell? ⟨B1, 1, none⟩ = some (.slice aA P.hand0.length ac) ∧ W.cell? ⟨B1, 2, none⟩ = some (.slice bA P.hand1.length bc) ∧ W.cell? ⟨B1, 3, none⟩ = some (.int .i64 P.turn) ∧ W.cell? ⟨B1, 4, none⟩ = some (.int .i64 P.quiet) ∧ W.cell? ⟨BS, 0, none⟩ = some (.string R.name) ∧ W.cell? ⟨BS, 1, none⟩ = some (.int .i64 R.width) ∧ W.cell? ⟨BS, 2, none⟩ = some (.int .i64 R.height) ∧ W.cell? ⟨BS, 3, none⟩ = some (.slice pA R.pieces.length pc) ∧ W.cell? ⟨BS, 4, none⟩ = some (.slice sA R.start.length sc) ∧ W.cell? ⟨BS, 5, none⟩ = some (.bool R.falls) ∧ W.cell? ⟨BS, 6, none⟩ = some (.bool R.keeps) ∧ W.cell? ⟨BS, 7, none⟩ = some (.slice eA R.ends.length ec) ∧ W.cell? ⟨BS, 8, none⟩ = some (.int .i64 R.blocked) ∧ W.cell? ⟨BS, 9, none⟩ = some (.int .i64 R.quiet) ∧ W.cell? ⟨BS, 10, none⟩ = some (.int .i64 R.rept) ∧ Ext w2 W) (fun _ => True) [] (by kernel_rfl) ?_
  have hT0 := keepK.out _ yy
  refine anyK_take 0 (oi := ?oo16) ?ho16 (by kernel_rfl) (by kernel_rfl) (by kernel_rfl) (by kernel_rfl) ?hq16 ?hw16 hT0 (fun _ => trivial) (v := ?vv16) ?hy16 ?hk16
  case ho16 => (simp only [List.getElem?_toArray, List.getElem?_cons_succ, List.getElem?_cons_zero]; rfl)
  case hq16 => exact fun _ _ _ h => h
  case hw16 => rfl
  case hy16 =>
    intro W hW
    go_simp
    first | done | with_reducible rfl
  case hk16 =>
  try simp only [Act.put, List.setIfInBounds_toArray, List.set_cons_zero, List.set_cons_succ]
  refine anyK_take 1 (oi := ?oo17) ?ho17 (by kernel_rfl) (by kernel_rfl) (by kernel_rfl) (by kernel_rfl) ?hq17 ?hw17 hT0 (fun _ => trivial) (v := ?vv17) ?hy17 ?hk17
  case ho17 => (simp only [List.getElem?_toArray, List.getElem?_cons_succ, List.getElem?_cons_zero]; rfl)
  case hq17 => exact fun _ _ _ h => h
  case hw17 => rfl
  case hy17 =>
    intro W hW
    go_simp
    first | done | with_reducible rfl
  case hk17 =>
  try simp only [Act.put, List.setIfInBounds_toArray, List.set_cons_zero, List.set_cons_succ]
  refine anyK_take 2 (oi := ?oo18) ?ho18 (by kernel_rfl) (by kernel_rfl) (by kernel_rfl) (by kernel_rfl) ?hq18 ?hw18 hT0 (fun _ => trivial) (v := ?vv18) ?hy18 ?hk18
  case ho18 => (simp only [List.getElem?_toArray, List.getElem?_cons_succ, List.getElem?_cons_zero]; rfl)
  case hq18 => exact fun _ _ _ h => h
  case hw18 => rfl
  case hy18 =>
    intro W hW
    go_simp
    first | done | with_reducible rfl
  case hk18 =>
  try simp only [Act.put, List.setIfInBounds_toArray, List.set_cons_zero, List.set_cons_succ]
  refine anyK_take 3 (oi := ?oo19) ?ho19 (by kernel_rfl) (by kernel_rfl) (by kernel_rfl) (by kernel_rfl) ?hq19 ?hw19 hT0 (fun _ => trivial) (v := ?vv19) ?hy19 ?hk19
  case ho19 => (simp only [List.getElem?_toArray, List.getElem?_cons_succ, List.getElem?_cons_zero]; rfl)
  case hq19 => exact fun _ _ _ h => h
  case hw19 => rfl
  case hy19 =>
    intro W hW
    obtain ⟨z0, z1, z2, z3, z4, z5, z6, z7, z8, z9, z10, z11, z12, z13, z14, z15, z16⟩ := hW
    go_simp
    first | done | with_reducible rfl
  case hk19 =>
  try simp only [Act.put, List.setIfInBounds_toArray, List.set_cons_zero, List.set_cons_succ]
  refine anyK_take 4 (oi := ?oo20) ?ho20 (by kernel_rfl) (by kernel_rfl) (by kernel_rfl) (by kernel_rfl) ?hq20 ?hw20 hT0 (fun _ => trivial) (v := ?vv20) ?hy20 ?hk20
  case ho20 => (simp only [List.getElem?_toArray, List.getElem?_cons_succ, List.getElem?_cons_zero]; rfl)
  case hq20 => exact fun _ _ _ h => h
  case hw20 => rfl
  case hy20 =>
    intro W hW
    obtain ⟨z0, z1, z2, z3, z4, z5, z6, z7, z8, z9, z10, z11, z12, z13, z14, z15, z16⟩ := hW
    go_simp
    first | done | with_reducible rfl
  case hk20 =>
  try simp only [Act.put, List.setIfInBounds_toArray, List.set_cons_zero, List.set_cons_succ]
  refine anyK_on1 5 (by kernel_rfl) ?_
  refine anyK_one 5 (o := ?oo21) ?ho21 ?hk21
  case ho21 => (simp only [List.getElem?_toArray, List.getElem?_cons_succ, List.getElem?_cons_zero]; rfl)
  case hk21 =>
  intro K hK
  go_simp
  refine (HC.out _ (ext_trans X1.out yy)).mono ?_
  rintro e w3 ⟨rfl, xx⟩
  try go_wp2_with fail
  replace yy := ext_trans yy xx
  have hT1 := keepK.out _ yy
  refine hK.out _ _ hT1 (fun _ => trivial) ?_
  clear hK K
  try simp only [Act.put, List.setIfInBounds_toArray, List.set_cons_zero, List.set_cons_succ]
  refine anyK_take 6 (oi := ?oo22) ?ho22 (by kernel_rfl) (by kernel_rfl) (by kernel_rfl) (by kernel_rfl) ?hq22 ?hw22 hT1 (fun _ => trivial) (v := ?vv22) ?hy22 ?hk22
  case ho22 => (simp only [List.getElem?_toArray, List.getElem?_cons_succ, List.getElem?_cons_zero]; rfl)
  case hq22 => exact fun _ _ _ h => h
  case hw22 => rfl
  case hy22 =>
    intro W hW
    go_simp
    first | done | with_reducible rfl
  case hk22 =>
  try simp only [Act.put, List.setIfInBounds_toArray, List.set_cons_zero, List.set_cons_succ]
  refine anyK_done (by kernel_rfl) ?_ _
  clear keepK hT0 hT1
  go_wp2
  go_ret
  exact ⟨by first | rfl | simp, ext_trans X1.out yy⟩
set_option maxHeartbeats 2000000 in
set_option maxRecDepth 100000 in
theorem schk_low {w0 w : World} {BS g : Nat} {R : RulesM} {f : Int} {L : List (Option SlotM)} {P : PosM} {u : Value} {D : Int} (hG : StoreAt w0 w BS g R f L) (hP : PosAt w u P) (he : checkE R P = 0) (hd : D < 0) :
    Calls Tryz.prog 33 #[.pointer (some ⟨BS, 0, none⟩), u, .int .i64 D] w fun e w' => e = .returned (.int .i64 (1)) ∧ Ext w w' := by
  obtain ⟨pA, pc, sA, sc, eA, ec, base, cs, kS, ro, -⟩ := hG
  obtain ⟨cA, cc, aA, ac, bA, bc, rfl, -⟩ := id hP
  have HC := hide (fun W (h : Ext w W) => PCheck_any R P _ _ W (ro.at_.ext h) (hP.ext h))
  obtain ⟨x1, k1⟩ := blks1 w #[.slice cA P.cells.length cc, .slice aA P.hand0.length ac, .slice bA P.hand1.length bc, .int .i64 P.turn, .int .i64 P.quiet] 29
  have X1 := hide x1
  have KP := hide k1
  have KS := hide (kS.ext x1)
  clear kS k1 x1 hP ro
  rw [he] at HC
  have t0 : decide (D < 0) = true := decide_eq_true hd
  clear he hd
  go_enter Tryz.func33, Tryz.ntmps33
  go_upto_region 1 with fail
  generalize w.alloc (.cells #[.slice cA P.cells.length cc, .slice aA P.hand0.length ac, .slice bA P.hand1.length bc, .int .i64 P.turn, .int .i64 P.quiet] 29) = w2 at *
  generalize w.heap.size = B1 at *
  have keepK := hide (fun W (h : Ext w2 W) => (show (fun W => W.cell? ⟨B1, 0, none⟩ = some (.slice cA P.cells.length cc) ∧ W.cell? ⟨B1, 1, none⟩ = some (.slice aA P.hand0.length ac) ∧ W.cell? ⟨B1, 2, none⟩ = some (.slice bA P.hand1.length bc) ∧ W.cell? ⟨B1, 3, none⟩ = some (.int .i64 P.turn) ∧ W.cell? ⟨B1, 4, none⟩ = some (.int .i64 P.quiet) ∧ W.cell? ⟨BS, 0, none⟩ = some (.string R.name) ∧ W.cell? ⟨BS, 1, none⟩ = some (.int .i64 R.width) ∧ W.cell? ⟨BS, 2, none⟩ = some (.int .i64 R.height) ∧ W.cell? ⟨BS, 3, none⟩ = some (.slice pA R.pieces.length pc) ∧ W.cell? ⟨BS, 4, none⟩ = some (.slice sA R.start.length sc) ∧ W.cell? ⟨BS, 5, none⟩ = some (.bool R.falls) ∧ W.cell? ⟨BS, 6, none⟩ = some (.bool R.keeps) ∧ W.cell? ⟨BS, 7, none⟩ = some (.slice eA R.ends.length ec) ∧ W.cell? ⟨BS, 8, none⟩ = some (.int .i64 R.blocked) ∧ W.cell? ⟨BS, 9, none⟩ = some (.int .i64 R.quiet) ∧ W.cell? ⟨BS, 10, none⟩ = some (.int .i64 R.rept) ∧ Ext w2 W) W from ⟨(KP.out.ext h).cell 0, (KP.out.ext h).cell 1, (KP.out.ext h).cell 2, (KP.out.ext h).cell 3, (KP.out.ext h).cell 4, (KS.out.ext h).cell 0, (KS.out.ext h).cell 1, (KS.out.ext h).cell 2, (KS.out.ext h).cell 3, (KS.out.ext h).cell 4, (KS.out.ext h).cell 5, (KS.out.ext h).cell 6, (KS.out.ext h).cell 7, (KS.out.ext h).cell 8, (KS.out.ext h).cell 9, (KS.out.ext h).cell 10, h⟩))
  have yy : Ext w2 w2.drew := Below.drew (Below.refl _ _)
  refine region_K (fun W => W.cell? ⟨B1, 0, none⟩ = some (.slice cA P.cells.length cc) ∧ W.cell? ⟨B1, 1, none⟩ = some (.slice aA P.hand0.length ac) ∧ W.cell? ⟨B1, 2, none⟩ = some (.slice bA P.hand1.length bc) ∧ W.cell? ⟨B1, 3, none⟩ = some (.int .i64 P.turn) ∧ W.cell? ⟨B1, 4, none⟩ = some (.int .i64 P.quiet) ∧ W.cell? ⟨BS, 0, none⟩ = some (.string R.name) ∧ W.cell? ⟨BS, 1, none⟩ = some (.int .i64 R.width) ∧ W.cell? ⟨BS, 2, none⟩ = some (.int .i64 R.height) ∧ W.cell? ⟨BS, 3, none⟩ = some (.slice pA R.pieces.length pc) ∧ W.cell? ⟨BS, 4, none⟩ = some (.slice sA R.start.length sc) ∧ W.cell? ⟨BS, 5, none⟩ = some (.bool R.falls) ∧ W.cell? ⟨BS, 6, none⟩ = some (.bool R.keeps) ∧ W.cell? ⟨BS, 7, none⟩ = some (.slice eA R.ends.length ec) ∧ W.cell? ⟨BS, 8, none⟩ = some (.int .i64 R.blocked) ∧ W.cell? ⟨BS, 9, none⟩ = some (.int .i64 R.quiet) ∧ W.cell? ⟨BS, 10, none⟩ = some (.int .i64 R.rept) ∧ Ext w2 W) (fun _ => True) [] (by kernel_rfl) ?_
  have hT0 := keepK.out _ yy
  refine anyK_take 0 (oi := ?oo23) ?ho23 (by kernel_rfl) (by kernel_rfl) (by kernel_rfl) (by kernel_rfl) ?hq23 ?hw23 hT0 (fun _ => trivial) (v := ?vv23) ?hy23 ?hk23
  case ho23 => (simp only [List.getElem?_toArray, List.getElem?_cons_succ, List.getElem?_cons_zero]; rfl)
  case hq23 => exact fun _ _ _ h => h
  case hw23 => rfl
  case hy23 =>
    intro W hW
    go_simp
    first | done | with_reducible rfl
  case hk23 =>
  try simp only [Act.put, List.setIfInBounds_toArray, List.set_cons_zero, List.set_cons_succ]
  refine anyK_take 1 (oi := ?oo24) ?ho24 (by kernel_rfl) (by kernel_rfl) (by kernel_rfl) (by kernel_rfl) ?hq24 ?hw24 hT0 (fun _ => trivial) (v := ?vv24) ?hy24 ?hk24
  case ho24 => (simp only [List.getElem?_toArray, List.getElem?_cons_succ, List.getElem?_cons_zero]; rfl)
  case hq24 => exact fun _ _ _ h => h
  case hw24 => rfl
  case hy24 =>
    intro W hW
    go_simp
    first | done | with_reducible rfl
  case hk24 =>
  try simp only [Act.put, List.setIfInBounds_toArray, List.set_cons_zero, List.set_cons_succ]
  refine anyK_take 2 (oi := ?oo25) ?ho25 (by kernel_rfl) (by kernel_rfl) (by kernel_rfl) (by kernel_rfl) ?hq25 ?hw25 hT0 (fun _ => trivial) (v := ?vv25) ?hy25 ?hk25
  case ho25 => (simp only [List.getElem?_toArray, List.getElem?_cons_succ, List.getElem?_cons_zero]; rfl)
  case hq25 => exact fun _ _ _ h => h
  case hw25 => rfl
  case hy25 =>
    intro W hW
    go_simp
    first | done | with_reducible rfl
  case hk25 =>
  try simp only [Act.put, List.setIfInBounds_toArray, List.set_cons_zero, List.set_cons_succ]
  refine anyK_take 3 (oi := ?oo26) ?ho26 (by kernel_rfl) (by kernel_rfl) (by kernel_rfl) (by kernel_rfl) ?hq26 ?hw26 hT0 (fun _ => trivial) (v := ?vv26) ?hy26 ?hk26
  case ho26 => (simp only [List.getElem?_toArray, List.getElem?_cons_succ, List.getElem?_cons_zero]; rfl)
  case hq26 => exact fun _ _ _ h => h
  case hw26 => rfl
  case hy26 =>
    intro W hW
    obtain ⟨z0, z1, z2, z3, z4, z5, z6, z7, z8, z9, z10, z11, z12, z13, z14, z15, z16⟩ := hW
    go_simp
    first | done | with_reducible rfl
  case hk26 =>
  try simp only [Act.put, List.setIfInBounds_toArray, List.set_cons_zero, List.set_cons_succ]
  refine anyK_take 4 (oi := ?oo27) ?ho27 (by kernel_rfl) (by kernel_rfl) (by kernel_rfl) (by kernel_rfl) ?hq27 ?hw27 hT0 (fun _ => trivial) (v := ?vv27) ?hy27 ?hk27
  case ho27 => (simp only [List.getElem?_toArray, List.getElem?_cons_succ, List.getElem?_cons_zero]; rfl)
  case hq27 => exact fun _ _ _ h => h
  case hw27 => rfl
  case hy27 =>
    intro W hW
    obtain ⟨z0, z1, z2, z3, z4, z5, z6, z7, z8, z9, z10, z11, z12, z13, z14, z15, z16⟩ := hW
    go_simp
    first | done | with_reducible rfl
  case hk27 =>
  try simp only [Act.put, List.setIfInBounds_toArray, List.set_cons_zero, List.set_cons_succ]
  refine anyK_on1 5 (by kernel_rfl) ?_
  refine anyK_one 5 (o := ?oo28) ?ho28 ?hk28
  case ho28 => (simp only [List.getElem?_toArray, List.getElem?_cons_succ, List.getElem?_cons_zero]; rfl)
  case hk28 =>
  intro K hK
  go_simp
  refine (HC.out _ (ext_trans X1.out yy)).mono ?_
  rintro e w3 ⟨rfl, xx⟩
  try go_wp2_with fail
  replace yy := ext_trans yy xx
  have hT1 := keepK.out _ yy
  refine hK.out _ _ hT1 (fun _ => trivial) ?_
  clear hK K
  try simp only [Act.put, List.setIfInBounds_toArray, List.set_cons_zero, List.set_cons_succ]
  refine anyK_take 6 (oi := ?oo29) ?ho29 (by kernel_rfl) (by kernel_rfl) (by kernel_rfl) (by kernel_rfl) ?hq29 ?hw29 hT1 (fun _ => trivial) (v := ?vv29) ?hy29 ?hk29
  case ho29 => (simp only [List.getElem?_toArray, List.getElem?_cons_succ, List.getElem?_cons_zero]; rfl)
  case hq29 => exact fun _ _ _ h => h
  case hw29 => rfl
  case hy29 =>
    intro W hW
    go_simp
    first | done | with_reducible rfl
  case hk29 =>
  try simp only [Act.put, List.setIfInBounds_toArray, List.set_cons_zero, List.set_cons_succ]
  refine anyK_done (by kernel_rfl) ?_ _
  clear keepK hT0 hT1
  go_wp2
  go_ret
  exact ⟨by first | rfl | simp, ext_trans X1.out yy⟩
set_option maxHeartbeats 2000000 in
set_option maxRecDepth 100000 in
theorem schk_high {w0 w : World} {BS g : Nat} {R : RulesM} {f : Int} {L : List (Option SlotM)} {P : PosM} {u : Value} {D : Int} (hG : StoreAt w0 w BS g R f L) (hP : PosAt w u P) (he : checkE R P = 0) (hd : 12 < D) :
    Calls Tryz.prog 33 #[.pointer (some ⟨BS, 0, none⟩), u, .int .i64 D] w fun e w' => e = .returned (.int .i64 (1)) ∧ Ext w w' := by
  obtain ⟨pA, pc, sA, sc, eA, ec, base, cs, kS, ro, -⟩ := hG
  obtain ⟨cA, cc, aA, ac, bA, bc, rfl, -⟩ := id hP
  have HC := hide (fun W (h : Ext w W) => PCheck_any R P _ _ W (ro.at_.ext h) (hP.ext h))
  obtain ⟨x1, k1⟩ := blks1 w #[.slice cA P.cells.length cc, .slice aA P.hand0.length ac, .slice bA P.hand1.length bc, .int .i64 P.turn, .int .i64 P.quiet] 29
  have X1 := hide x1
  have KP := hide k1
  have KS := hide (kS.ext x1)
  clear kS k1 x1 hP ro
  rw [he] at HC
  have t0 : decide (D < 0) = false := decide_eq_false (by omega)
  have t1 : decide (12 < D) = true := decide_eq_true hd
  clear he hd
  go_enter Tryz.func33, Tryz.ntmps33
  go_upto_region 1 with fail
  generalize w.alloc (.cells #[.slice cA P.cells.length cc, .slice aA P.hand0.length ac, .slice bA P.hand1.length bc, .int .i64 P.turn, .int .i64 P.quiet] 29) = w2 at *
  generalize w.heap.size = B1 at *
  have keepK := hide (fun W (h : Ext w2 W) => (show (fun W => W.cell? ⟨B1, 0, none⟩ = some (.slice cA P.cells.length cc) ∧ W.cell? ⟨B1, 1, none⟩ = some (.slice aA P.hand0.length ac) ∧ W.cell? ⟨B1, 2, none⟩ = some (.slice bA P.hand1.length bc) ∧ W.cell? ⟨B1, 3, none⟩ = some (.int .i64 P.turn) ∧ W.cell? ⟨B1, 4, none⟩ = some (.int .i64 P.quiet) ∧ W.cell? ⟨BS, 0, none⟩ = some (.string R.name) ∧ W.cell? ⟨BS, 1, none⟩ = some (.int .i64 R.width) ∧ W.cell? ⟨BS, 2, none⟩ = some (.int .i64 R.height) ∧ W.cell? ⟨BS, 3, none⟩ = some (.slice pA R.pieces.length pc) ∧ W.cell? ⟨BS, 4, none⟩ = some (.slice sA R.start.length sc) ∧ W.cell? ⟨BS, 5, none⟩ = some (.bool R.falls) ∧ W.cell? ⟨BS, 6, none⟩ = some (.bool R.keeps) ∧ W.cell? ⟨BS, 7, none⟩ = some (.slice eA R.ends.length ec) ∧ W.cell? ⟨BS, 8, none⟩ = some (.int .i64 R.blocked) ∧ W.cell? ⟨BS, 9, none⟩ = some (.int .i64 R.quiet) ∧ W.cell? ⟨BS, 10, none⟩ = some (.int .i64 R.rept) ∧ Ext w2 W) W from ⟨(KP.out.ext h).cell 0, (KP.out.ext h).cell 1, (KP.out.ext h).cell 2, (KP.out.ext h).cell 3, (KP.out.ext h).cell 4, (KS.out.ext h).cell 0, (KS.out.ext h).cell 1, (KS.out.ext h).cell 2, (KS.out.ext h).cell 3, (KS.out.ext h).cell 4, (KS.out.ext h).cell 5, (KS.out.ext h).cell 6, (KS.out.ext h).cell 7, (KS.out.ext h).cell 8, (KS.out.ext h).cell 9, (KS.out.ext h).cell 10, h⟩))
  have yy : Ext w2 w2.drew := Below.drew (Below.refl _ _)
  refine region_K (fun W => W.cell? ⟨B1, 0, none⟩ = some (.slice cA P.cells.length cc) ∧ W.cell? ⟨B1, 1, none⟩ = some (.slice aA P.hand0.length ac) ∧ W.cell? ⟨B1, 2, none⟩ = some (.slice bA P.hand1.length bc) ∧ W.cell? ⟨B1, 3, none⟩ = some (.int .i64 P.turn) ∧ W.cell? ⟨B1, 4, none⟩ = some (.int .i64 P.quiet) ∧ W.cell? ⟨BS, 0, none⟩ = some (.string R.name) ∧ W.cell? ⟨BS, 1, none⟩ = some (.int .i64 R.width) ∧ W.cell? ⟨BS, 2, none⟩ = some (.int .i64 R.height) ∧ W.cell? ⟨BS, 3, none⟩ = some (.slice pA R.pieces.length pc) ∧ W.cell? ⟨BS, 4, none⟩ = some (.slice sA R.start.length sc) ∧ W.cell? ⟨BS, 5, none⟩ = some (.bool R.falls) ∧ W.cell? ⟨BS, 6, none⟩ = some (.bool R.keeps) ∧ W.cell? ⟨BS, 7, none⟩ = some (.slice eA R.ends.length ec) ∧ W.cell? ⟨BS, 8, none⟩ = some (.int .i64 R.blocked) ∧ W.cell? ⟨BS, 9, none⟩ = some (.int .i64 R.quiet) ∧ W.cell? ⟨BS, 10, none⟩ = some (.int .i64 R.rept) ∧ Ext w2 W) (fun _ => True) [] (by kernel_rfl) ?_
  have hT0 := keepK.out _ yy
  refine anyK_take 0 (oi := ?oo30) ?ho30 (by kernel_rfl) (by kernel_rfl) (by kernel_rfl) (by kernel_rfl) ?hq30 ?hw30 hT0 (fun _ => trivial) (v := ?vv30) ?hy30 ?hk30
  case ho30 => (simp only [List.getElem?_toArray, List.getElem?_cons_succ, List.getElem?_cons_zero]; rfl)
  case hq30 => exact fun _ _ _ h => h
  case hw30 => rfl
  case hy30 =>
    intro W hW
    go_simp
    first | done | with_reducible rfl
  case hk30 =>
  try simp only [Act.put, List.setIfInBounds_toArray, List.set_cons_zero, List.set_cons_succ]
  refine anyK_take 1 (oi := ?oo31) ?ho31 (by kernel_rfl) (by kernel_rfl) (by kernel_rfl) (by kernel_rfl) ?hq31 ?hw31 hT0 (fun _ => trivial) (v := ?vv31) ?hy31 ?hk31
  case ho31 => (simp only [List.getElem?_toArray, List.getElem?_cons_succ, List.getElem?_cons_zero]; rfl)
  case hq31 => exact fun _ _ _ h => h
  case hw31 => rfl
  case hy31 =>
    intro W hW
    go_simp
    first | done | with_reducible rfl
  case hk31 =>
  try simp only [Act.put, List.setIfInBounds_toArray, List.set_cons_zero, List.set_cons_succ]
  refine anyK_take 2 (oi := ?oo32) ?ho32 (by kernel_rfl) (by kernel_rfl) (by kernel_rfl) (by kernel_rfl) ?hq32 ?hw32 hT0 (fun _ => trivial) (v := ?vv32) ?hy32 ?hk32
  case ho32 => (simp only [List.getElem?_toArray, List.getElem?_cons_succ, List.getElem?_cons_zero]; rfl)
  case hq32 => exact fun _ _ _ h => h
  case hw32 => rfl
  case hy32 =>
    intro W hW
    go_simp
    first | done | with_reducible rfl
  case hk32 =>
  try simp only [Act.put, List.setIfInBounds_toArray, List.set_cons_zero, List.set_cons_succ]
  refine anyK_take 3 (oi := ?oo33) ?ho33 (by kernel_rfl) (by kernel_rfl) (by kernel_rfl) (by kernel_rfl) ?hq33 ?hw33 hT0 (fun _ => trivial) (v := ?vv33) ?hy33 ?hk33
  case ho33 => (simp only [List.getElem?_toArray, List.getElem?_cons_succ, List.getElem?_cons_zero]; rfl)
  case hq33 => exact fun _ _ _ h => h
  case hw33 => rfl
  case hy33 =>
    intro W hW
    obtain ⟨z0, z1, z2, z3, z4, z5, z6, z7, z8, z9, z10, z11, z12, z13, z14, z15, z16⟩ := hW
    go_simp
    first | done | with_reducible rfl
  case hk33 =>
  try simp only [Act.put, List.setIfInBounds_toArray, List.set_cons_zero, List.set_cons_succ]
  refine anyK_take 4 (oi := ?oo34) ?ho34 (by kernel_rfl) (by kernel_rfl) (by kernel_rfl) (by kernel_rfl) ?hq34 ?hw34 hT0 (fun _ => trivial) (v := ?vv34) ?hy34 ?hk34
  case ho34 => (simp only [List.getElem?_toArray, List.getElem?_cons_succ, List.getElem?_cons_zero]; rfl)
  case hq34 => exact fun _ _ _ h => h
  case hw34 => rfl
  case hy34 =>
    intro W hW
    obtain ⟨z0, z1, z2, z3, z4, z5, z6, z7, z8, z9, z10, z11, z12, z13, z14, z15, z16⟩ := hW
    go_simp
    first | done | with_reducible rfl
  case hk34 =>
  try simp only [Act.put, List.setIfInBounds_toArray, List.set_cons_zero, List.set_cons_succ]
  refine anyK_on1 5 (by kernel_rfl) ?_
  refine anyK_one 5 (o := ?oo35) ?ho35 ?hk35
  case ho35 => (simp only [List.getElem?_toArray, List.getElem?_cons_succ, List.getElem?_cons_zero]; rfl)
  case hk35 =>
  intro K hK
  go_simp
  refine (HC.out _ (ext_trans X1.out yy)).mono ?_
  rintro e w3 ⟨rfl, xx⟩
  try go_wp2_with fail
  replace yy := ext_trans yy xx
  have hT1 := keepK.out _ yy
  refine hK.out _ _ hT1 (fun _ => trivial) ?_
  clear hK K
  try simp only [Act.put, List.setIfInBounds_toArray, List.set_cons_zero, List.set_cons_succ]
  refine anyK_take 6 (oi := ?oo36) ?ho36 (by kernel_rfl) (by kernel_rfl) (by kernel_rfl) (by kernel_rfl) ?hq36 ?hw36 hT1 (fun _ => trivial) (v := ?vv36) ?hy36 ?hk36
  case ho36 => (simp only [List.getElem?_toArray, List.getElem?_cons_succ, List.getElem?_cons_zero]; rfl)
  case hq36 => exact fun _ _ _ h => h
  case hw36 => rfl
  case hy36 =>
    intro W hW
    go_simp
    first | done | with_reducible rfl
  case hk36 =>
  try simp only [Act.put, List.setIfInBounds_toArray, List.set_cons_zero, List.set_cons_succ]
  refine anyK_done (by kernel_rfl) ?_ _
  clear keepK hT0 hT1
  go_wp2
  go_ret
  exact ⟨by first | rfl | simp, ext_trans X1.out yy⟩
set_option maxHeartbeats 2000000 in
set_option maxRecDepth 100000 in
theorem schk_ok {w0 w : World} {BS g : Nat} {R : RulesM} {f : Int} {L : List (Option SlotM)} {P : PosM} {u : Value} {D : Int} (hG : StoreAt w0 w BS g R f L) (hP : PosAt w u P) (he : checkE R P = 0) (h0 : 0 ≤ D) (h1 : D ≤ 12) :
    Calls Tryz.prog 33 #[.pointer (some ⟨BS, 0, none⟩), u, .int .i64 D] w fun e w' => e = .returned (.int .i64 (0)) ∧ Ext w w' := by
  obtain ⟨pA, pc, sA, sc, eA, ec, base, cs, kS, ro, -⟩ := hG
  obtain ⟨cA, cc, aA, ac, bA, bc, rfl, -⟩ := id hP
  have HC := hide (fun W (h : Ext w W) => PCheck_any R P _ _ W (ro.at_.ext h) (hP.ext h))
  obtain ⟨x1, k1⟩ := blks1 w #[.slice cA P.cells.length cc, .slice aA P.hand0.length ac, .slice bA P.hand1.length bc, .int .i64 P.turn, .int .i64 P.quiet] 29
  have X1 := hide x1
  have KP := hide k1
  have KS := hide (kS.ext x1)
  clear kS k1 x1 hP ro
  rw [he] at HC
  have t0 : decide (D < 0) = false := decide_eq_false (by omega)
  have t1 : decide (12 < D) = false := decide_eq_false (by omega)
  clear he
  go_enter Tryz.func33, Tryz.ntmps33
  go_upto_region 1 with fail
  generalize w.alloc (.cells #[.slice cA P.cells.length cc, .slice aA P.hand0.length ac, .slice bA P.hand1.length bc, .int .i64 P.turn, .int .i64 P.quiet] 29) = w2 at *
  generalize w.heap.size = B1 at *
  have keepK := hide (fun W (h : Ext w2 W) => (show (fun W => W.cell? ⟨B1, 0, none⟩ = some (.slice cA P.cells.length cc) ∧ W.cell? ⟨B1, 1, none⟩ = some (.slice aA P.hand0.length ac) ∧ W.cell? ⟨B1, 2, none⟩ = some (.slice bA P.hand1.length bc) ∧ W.cell? ⟨B1, 3, none⟩ = some (.int .i64 P.turn) ∧ W.cell? ⟨B1, 4, none⟩ = some (.int .i64 P.quiet) ∧ W.cell? ⟨BS, 0, none⟩ = some (.string R.name) ∧ W.cell? ⟨BS, 1, none⟩ = some (.int .i64 R.width) ∧ W.cell? ⟨BS, 2, none⟩ = some (.int .i64 R.height) ∧ W.cell? ⟨BS, 3, none⟩ = some (.slice pA R.pieces.length pc) ∧ W.cell? ⟨BS, 4, none⟩ = some (.slice sA R.start.length sc) ∧ W.cell? ⟨BS, 5, none⟩ = some (.bool R.falls) ∧ W.cell? ⟨BS, 6, none⟩ = some (.bool R.keeps) ∧ W.cell? ⟨BS, 7, none⟩ = some (.slice eA R.ends.length ec) ∧ W.cell? ⟨BS, 8, none⟩ = some (.int .i64 R.blocked) ∧ W.cell? ⟨BS, 9, none⟩ = some (.int .i64 R.quiet) ∧ W.cell? ⟨BS, 10, none⟩ = some (.int .i64 R.rept) ∧ Ext w2 W) W from ⟨(KP.out.ext h).cell 0, (KP.out.ext h).cell 1, (KP.out.ext h).cell 2, (KP.out.ext h).cell 3, (KP.out.ext h).cell 4, (KS.out.ext h).cell 0, (KS.out.ext h).cell 1, (KS.out.ext h).cell 2, (KS.out.ext h).cell 3, (KS.out.ext h).cell 4, (KS.out.ext h).cell 5, (KS.out.ext h).cell 6, (KS.out.ext h).cell 7, (KS.out.ext h).cell 8, (KS.out.ext h).cell 9, (KS.out.ext h).cell 10, h⟩))
  have yy : Ext w2 w2.drew := Below.drew (Below.refl _ _)
  refine region_K (fun W => W.cell? ⟨B1, 0, none⟩ = some (.slice cA P.cells.length cc) ∧ W.cell? ⟨B1, 1, none⟩ = some (.slice aA P.hand0.length ac) ∧ W.cell? ⟨B1, 2, none⟩ = some (.slice bA P.hand1.length bc) ∧ W.cell? ⟨B1, 3, none⟩ = some (.int .i64 P.turn) ∧ W.cell? ⟨B1, 4, none⟩ = some (.int .i64 P.quiet) ∧ W.cell? ⟨BS, 0, none⟩ = some (.string R.name) ∧ W.cell? ⟨BS, 1, none⟩ = some (.int .i64 R.width) ∧ W.cell? ⟨BS, 2, none⟩ = some (.int .i64 R.height) ∧ W.cell? ⟨BS, 3, none⟩ = some (.slice pA R.pieces.length pc) ∧ W.cell? ⟨BS, 4, none⟩ = some (.slice sA R.start.length sc) ∧ W.cell? ⟨BS, 5, none⟩ = some (.bool R.falls) ∧ W.cell? ⟨BS, 6, none⟩ = some (.bool R.keeps) ∧ W.cell? ⟨BS, 7, none⟩ = some (.slice eA R.ends.length ec) ∧ W.cell? ⟨BS, 8, none⟩ = some (.int .i64 R.blocked) ∧ W.cell? ⟨BS, 9, none⟩ = some (.int .i64 R.quiet) ∧ W.cell? ⟨BS, 10, none⟩ = some (.int .i64 R.rept) ∧ Ext w2 W) (fun _ => True) [] (by kernel_rfl) ?_
  have hT0 := keepK.out _ yy
  refine anyK_take 0 (oi := ?oo37) ?ho37 (by kernel_rfl) (by kernel_rfl) (by kernel_rfl) (by kernel_rfl) ?hq37 ?hw37 hT0 (fun _ => trivial) (v := ?vv37) ?hy37 ?hk37
  case ho37 => (simp only [List.getElem?_toArray, List.getElem?_cons_succ, List.getElem?_cons_zero]; rfl)
  case hq37 => exact fun _ _ _ h => h
  case hw37 => rfl
  case hy37 =>
    intro W hW
    go_simp
    first | done | with_reducible rfl
  case hk37 =>
  try simp only [Act.put, List.setIfInBounds_toArray, List.set_cons_zero, List.set_cons_succ]
  refine anyK_take 1 (oi := ?oo38) ?ho38 (by kernel_rfl) (by kernel_rfl) (by kernel_rfl) (by kernel_rfl) ?hq38 ?hw38 hT0 (fun _ => trivial) (v := ?vv38) ?hy38 ?hk38
  case ho38 => (simp only [List.getElem?_toArray, List.getElem?_cons_succ, List.getElem?_cons_zero]; rfl)
  case hq38 => exact fun _ _ _ h => h
  case hw38 => rfl
  case hy38 =>
    intro W hW
    go_simp
    first | done | with_reducible rfl
  case hk38 =>
  try simp only [Act.put, List.setIfInBounds_toArray, List.set_cons_zero, List.set_cons_succ]
  refine anyK_take 2 (oi := ?oo39) ?ho39 (by kernel_rfl) (by kernel_rfl) (by kernel_rfl) (by kernel_rfl) ?hq39 ?hw39 hT0 (fun _ => trivial) (v := ?vv39) ?hy39 ?hk39
  case ho39 => (simp only [List.getElem?_toArray, List.getElem?_cons_succ, List.getElem?_cons_zero]; rfl)
  case hq39 => exact fun _ _ _ h => h
  case hw39 => rfl
  case hy39 =>
    intro W hW
    go_simp
    first | done | with_reducible rfl
  case hk39 =>
  try simp only [Act.put, List.setIfInBounds_toArray, List.set_cons_zero, List.set_cons_succ]
  refine anyK_take 3 (oi := ?oo40) ?ho40 (by kernel_rfl) (by kernel_rfl) (by kernel_rfl) (by kernel_rfl) ?hq40 ?hw40 hT0 (fun _ => trivial) (v := ?vv40) ?hy40 ?hk40
  case ho40 => (simp only [List.getElem?_toArray, List.getElem?_cons_succ, List.getElem?_cons_zero]; rfl)
  case hq40 => exact fun _ _ _ h => h
  case hw40 => rfl
  case hy40 =>
    intro W hW
    obtain ⟨z0, z1, z2, z3, z4, z5, z6, z7, z8, z9, z10, z11, z12, z13, z14, z15, z16⟩ := hW
    go_simp
    first | done | with_reducible rfl
  case hk40 =>
  try simp only [Act.put, List.setIfInBounds_toArray, List.set_cons_zero, List.set_cons_succ]
  refine anyK_take 4 (oi := ?oo41) ?ho41 (by kernel_rfl) (by kernel_rfl) (by kernel_rfl) (by kernel_rfl) ?hq41 ?hw41 hT0 (fun _ => trivial) (v := ?vv41) ?hy41 ?hk41
  case ho41 => (simp only [List.getElem?_toArray, List.getElem?_cons_succ, List.getElem?_cons_zero]; rfl)
  case hq41 => exact fun _ _ _ h => h
  case hw41 => rfl
  case hy41 =>
    intro W hW
    obtain ⟨z0, z1, z2, z3, z4, z5, z6, z7, z8, z9, z10, z11, z12, z13, z14, z15, z16⟩ := hW
    go_simp
    first | done | with_reducible rfl
  case hk41 =>
  try simp only [Act.put, List.setIfInBounds_toArray, List.set_cons_zero, List.set_cons_succ]
  refine anyK_on1 5 (by kernel_rfl) ?_
  refine anyK_one 5 (o := ?oo42) ?ho42 ?hk42
  case ho42 => (simp only [List.getElem?_toArray, List.getElem?_cons_succ, List.getElem?_cons_zero]; rfl)
  case hk42 =>
  intro K hK
  go_simp
  refine (HC.out _ (ext_trans X1.out yy)).mono ?_
  rintro e w3 ⟨rfl, xx⟩
  try go_wp2_with fail
  replace yy := ext_trans yy xx
  have hT1 := keepK.out _ yy
  refine hK.out _ _ hT1 (fun _ => trivial) ?_
  clear hK K
  try simp only [Act.put, List.setIfInBounds_toArray, List.set_cons_zero, List.set_cons_succ]
  refine anyK_take 6 (oi := ?oo43) ?ho43 (by kernel_rfl) (by kernel_rfl) (by kernel_rfl) (by kernel_rfl) ?hq43 ?hw43 hT1 (fun _ => trivial) (v := ?vv43) ?hy43 ?hk43
  case ho43 => (simp only [List.getElem?_toArray, List.getElem?_cons_succ, List.getElem?_cons_zero]; rfl)
  case hq43 => exact fun _ _ _ h => h
  case hw43 => rfl
  case hy43 =>
    intro W hW
    go_simp
    first | done | with_reducible rfl
  case hk43 =>
  try simp only [Act.put, List.setIfInBounds_toArray, List.set_cons_zero, List.set_cons_succ]
  refine anyK_done (by kernel_rfl) ?_ _
  clear keepK hT0 hT1
  go_wp2
  go_ret
  exact ⟨by first | rfl | simp, ext_trans X1.out yy⟩
def chkE (R : RulesM) (P : PosM) (D : Int) : Int := if checkE R P ≠ 0 then checkE R P else if D < 0 ∨ 12 < D then 1 else 0
theorem chk_zero {R : RulesM} {P : PosM} {D : Int} (h : chkE R P D = 0) : checkE R P = 0 ∧ 0 ≤ D ∧ D ≤ 12 := by
  unfold chkE at h
  split at h
  · exact absurd h ‹_›
  · split at h
    · omega
    · exact ⟨by omega, by omega, by omega⟩
theorem schk_any {w0 w : World} {BS g : Nat} {R : RulesM} {f : Int} {L : List (Option SlotM)} {P : PosM} {u : Value} {D : Int} (hG : StoreAt w0 w BS g R f L) (hP : PosAt w u P) :
    Calls Tryz.prog 33 #[.pointer (some ⟨BS, 0, none⟩), u, .int .i64 D] w fun e w' => e = .returned (.int .i64 (chkE R P D)) ∧ Ext w w' := by
  unfold chkE
  by_cases he : checkE R P = 0
  · rw [if_neg (by omega)]
    by_cases h0 : D < 0
    · rw [if_pos (.inl h0)]; exact schk_low hG hP he h0
    · by_cases h1 : 12 < D
      · rw [if_pos (.inr h1)]; exact schk_high hG hP he h1
      · rw [if_neg (by omega)]; exact schk_ok hG hP he (by omega) (by omega)
  · rw [if_pos he]; exact schk_bad hG hP he

def SPutPost (w0 w : World) (BS g : Nat) (R : RulesM) (f : Int) (L : List (Option SlotM)) (e : Ending) (w' : World) : Prop := e = .returned (.tuple #[]) ∧ StoreAt w0 w' BS g R f L ∧ SFr BS w w'
set_option maxHeartbeats 4000000 in
set_option maxRecDepth 100000 in
theorem sput_new {w0 w : World} {BS g : Nat} {R : RulesM} {f : Int} {L : List (Option SlotM)} {P : PosM} {u : Value} {D s : Int} (hG : StoreAt w0 w BS g R f L) (hn : 0 < L.length) (hl : L.length ≤ 4096) (hP : PosAt w u P) (hV : Valid R) (hS : Sound R P) (hx : L.getD (slotI P L.length) none = none) :
    Calls Tryz.prog 34 #[.pointer (some ⟨BS, 0, none⟩), u, .int .i64 D, .int .i64 s] w (SPutPost w0 w BS g R f (putS L P D s)) := by
  have HSL := hide (fun W (h : Ext w W) => slot_any (hG.ext h) hn hl (hP.ext h) hV hS)
  obtain ⟨f0, f1, f2, f3, f4, f5⟩ := fit_of (R := R) (ps := [P]) hV (fun Q hQ => by rw [List.mem_singleton.1 hQ]; exact hS) P (by simp)
  have HCP := hide (fun W (h : Ext w W) => PCopy_any P u W (hP.ext h) f0 f1 f2 f3 f4 f5)
  have HG := hide hG
  have HKL := hide (slotI_lt P hn)
  unfold SPutPost
  have HPS : Hid (putS L P D s = L.set (slotI P L.length) (some ⟨P, D, s⟩)) := hide (by unfold putS; rw [hx]; rfl)
  have HSA := hide (slot_none hG (slotI_lt P hn) hx)
  clear hx
  obtain ⟨cA, cc, aA, ac, bA, bc, rfl, -⟩ := id hP
  obtain ⟨x1, k1⟩ := blks1 w #[.slice cA P.cells.length cc, .slice aA P.hand0.length ac, .slice bA P.hand1.length bc, .int .i64 P.turn, .int .i64 P.quiet] 29
  have X1 := hide x1
  have KP := hide k1
  clear k1 x1 hP hG hV hS f0 f1 f2 f3 f4 f5 hn hl
  generalize hkk : slotI P L.length = k at *
  clear hkk
  have f := KP.out.cell
  go_enter Tryz.func34, Tryz.ntmps34
  go_wp2_with fail
  refine (HSL.out _ X1.out).mono ?_
  rintro e w3 ⟨rfl, x3⟩
  have KP3 := hide (KP.out.ext x3)
  have X3 := hide (ext_trans X1.out x3)
  clear f x3 X1 KP HSL
  have f := KP3.out.cell
  obtain ⟨A0, n0, k0, A1, n1, k1, A2, n2, k2, t, q, d, s', h0, h1, h2, h3, h4, h5, h6, h7⟩ := HSA.out _ (X3.out)
  go_wp2_with fail
  refine (HCP.out _ X3.out).mono ?_
  rintro e w4 ⟨v4, rfl, own4, x4⟩
  obtain ⟨g0, d0, g1, d1, g2, d2, rfl, -⟩ := own4.toI
  have PI := hide own4.toI
  have X4 := hide (ext_trans X3.out x4)
  have HG4 := hide (HG.out.ext X4.out)
  have kz := HG4.out.frz
  obtain ⟨A0, n0, k0, A1, n1, k1, A2, n2, k2, t, q, d, s', h0, h1, h2, h3, h4, h5, h6, h7⟩ := HSA.out _ (X4.out)
  clear own4 f x4
  go_wp2
  obtain ⟨S9, F9⟩ := StoreAt.put (D := D) (s := s) HG4.out HKL.out PI.out rfl
  go_end0
  refine ⟨rfl, ?_, (SFr.of_ext X4.out).trans F9⟩
  rw [HPS.out]
  exact S9
set_option maxHeartbeats 4000000 in
set_option maxRecDepth 100000 in
theorem sput_over {w0 w : World} {BS g : Nat} {R : RulesM} {f : Int} {L : List (Option SlotM)} {P : PosM} {u : Value} {D s : Int} (hG : StoreAt w0 w BS g R f L) (hn : 0 < L.length) (hl : L.length ≤ 4096) (hP : PosAt w u P) (hV : Valid R) (hS : Sound R P) {y : SlotM} (hx : L.getD (slotI P L.length) none = some y) (hd : y.depth ≤ D) :
    Calls Tryz.prog 34 #[.pointer (some ⟨BS, 0, none⟩), u, .int .i64 D, .int .i64 s] w (SPutPost w0 w BS g R f (putS L P D s)) := by
  have HSL := hide (fun W (h : Ext w W) => slot_any (hG.ext h) hn hl (hP.ext h) hV hS)
  obtain ⟨f0, f1, f2, f3, f4, f5⟩ := fit_of (R := R) (ps := [P]) hV (fun Q hQ => by rw [List.mem_singleton.1 hQ]; exact hS) P (by simp)
  have HCP := hide (fun W (h : Ext w W) => PCopy_any P u W (hP.ext h) f0 f1 f2 f3 f4 f5)
  have HG := hide hG
  have HKL := hide (slotI_lt P hn)
  unfold SPutPost
  have HPS : Hid (putS L P D s = L.set (slotI P L.length) (some ⟨P, D, s⟩)) := hide (by unfold putS; rw [hx, show freeB (some y) D = true from decide_eq_true hd]; rfl)
  have HSA := hide (slot_some hG (slotI_lt P hn) hx)
  have t0 : decide (y.depth ≤ D) = true := decide_eq_true hd
  clear hx hd
  generalize y.depth = yd at *
  obtain ⟨cA, cc, aA, ac, bA, bc, rfl, -⟩ := id hP
  obtain ⟨x1, k1⟩ := blks1 w #[.slice cA P.cells.length cc, .slice aA P.hand0.length ac, .slice bA P.hand1.length bc, .int .i64 P.turn, .int .i64 P.quiet] 29
  have X1 := hide x1
  have KP := hide k1
  clear k1 x1 hP hG hV hS f0 f1 f2 f3 f4 f5 hn hl
  generalize hkk : slotI P L.length = k at *
  clear hkk
  have f := KP.out.cell
  go_enter Tryz.func34, Tryz.ntmps34
  go_wp2_with fail
  refine (HSL.out _ X1.out).mono ?_
  rintro e w3 ⟨rfl, x3⟩
  have KP3 := hide (KP.out.ext x3)
  have X3 := hide (ext_trans X1.out x3)
  clear f x3 X1 KP HSL
  have f := KP3.out.cell
  obtain ⟨A0, n0, k0, A1, n1, k1, A2, n2, k2, t, q, s', h0, h1, h2, h3, h4, h5, h6, h7⟩ := HSA.out _ (X3.out)
  go_wp2_with fail
  refine (HCP.out _ X3.out).mono ?_
  rintro e w4 ⟨v4, rfl, own4, x4⟩
  obtain ⟨g0, d0, g1, d1, g2, d2, rfl, -⟩ := own4.toI
  have PI := hide own4.toI
  have X4 := hide (ext_trans X3.out x4)
  have HG4 := hide (HG.out.ext X4.out)
  have kz := HG4.out.frz
  obtain ⟨A0, n0, k0, A1, n1, k1, A2, n2, k2, t, q, s', h0, h1, h2, h3, h4, h5, h6, h7⟩ := HSA.out _ (X4.out)
  clear own4 f x4
  go_wp2
  obtain ⟨S9, F9⟩ := StoreAt.put (D := D) (s := s) HG4.out HKL.out PI.out rfl
  go_end0
  refine ⟨rfl, ?_, (SFr.of_ext X4.out).trans F9⟩
  rw [HPS.out]
  exact S9
set_option maxHeartbeats 4000000 in
set_option maxRecDepth 100000 in
theorem sput_keep {w0 w : World} {BS g : Nat} {R : RulesM} {f : Int} {L : List (Option SlotM)} {P : PosM} {u : Value} {D s : Int} (hG : StoreAt w0 w BS g R f L) (hn : 0 < L.length) (hl : L.length ≤ 4096) (hP : PosAt w u P) (hV : Valid R) (hS : Sound R P) {y : SlotM} (hx : L.getD (slotI P L.length) none = some y) (hd : D < y.depth) :
    Calls Tryz.prog 34 #[.pointer (some ⟨BS, 0, none⟩), u, .int .i64 D, .int .i64 s] w (SPutPost w0 w BS g R f (putS L P D s)) := by
  have HSL := hide (fun W (h : Ext w W) => slot_any (hG.ext h) hn hl (hP.ext h) hV hS)
  obtain ⟨f0, f1, f2, f3, f4, f5⟩ := fit_of (R := R) (ps := [P]) hV (fun Q hQ => by rw [List.mem_singleton.1 hQ]; exact hS) P (by simp)
  have HCP := hide (fun W (h : Ext w W) => PCopy_any P u W (hP.ext h) f0 f1 f2 f3 f4 f5)
  have HG := hide hG
  have HKL := hide (slotI_lt P hn)
  unfold SPutPost
  have HPS : Hid (putS L P D s = L) := hide (by unfold putS; rw [hx, show freeB (some y) D = false from decide_eq_false (by omega)]; rfl)
  have HSA := hide (slot_some hG (slotI_lt P hn) hx)
  have t0 : decide (y.depth ≤ D) = false := decide_eq_false (by omega)
  clear hx hd
  generalize y.depth = yd at *
  obtain ⟨cA, cc, aA, ac, bA, bc, rfl, -⟩ := id hP
  obtain ⟨x1, k1⟩ := blks1 w #[.slice cA P.cells.length cc, .slice aA P.hand0.length ac, .slice bA P.hand1.length bc, .int .i64 P.turn, .int .i64 P.quiet] 29
  have X1 := hide x1
  have KP := hide k1
  clear k1 x1 hP hG hV hS f0 f1 f2 f3 f4 f5 hn hl
  generalize hkk : slotI P L.length = k at *
  clear hkk
  have f := KP.out.cell
  go_enter Tryz.func34, Tryz.ntmps34
  go_wp2_with fail
  refine (HSL.out _ X1.out).mono ?_
  rintro e w3 ⟨rfl, x3⟩
  have KP3 := hide (KP.out.ext x3)
  have X3 := hide (ext_trans X1.out x3)
  clear f x3 X1 KP HSL
  obtain ⟨A0, n0, k0, A1, n1, k1, A2, n2, k2, t, q, s', h0, h1, h2, h3, h4, h5, h6, h7⟩ := HSA.out _ X3.out
  go_wp2
  go_end0
  rw [HPS.out]
  exact ⟨rfl, HG.out.ext X3.out, SFr.of_ext X3.out⟩
theorem sput_any {w0 w : World} {BS g : Nat} {R : RulesM} {f : Int} {L : List (Option SlotM)} {P : PosM} {u : Value} {D s : Int} (hG : StoreAt w0 w BS g R f L) (hn : 0 < L.length) (hl : L.length ≤ 4096) (hP : PosAt w u P) (hV : Valid R) (hS : Sound R P) :
    Calls Tryz.prog 34 #[.pointer (some ⟨BS, 0, none⟩), u, .int .i64 D, .int .i64 s] w (SPutPost w0 w BS g R f (putS L P D s)) := by
  cases hx : L.getD (slotI P L.length) none with
  | none => exact sput_new hG hn hl hP hV hS hx
  | some y =>
    by_cases hd : y.depth ≤ D
    · exact sput_over hG hn hl hP hV hS hx hd
    · exact sput_keep hG hn hl hP hV hS hx (by omega)

end Go.Proofs.YtfkcigekbgkcmaaGreat
namespace Go.Proofs.YtfkcigekbgkcmaaGreat
open Go.ChangeShapes Go.WideShapes Go.ChangeAt Go.RowKit Go.Shelf
set_option linter.unusedVariables false
set_option linter.unusedSimpArgs false
theorem StoreAt.fnd {w0 w : World} {BS g : Nat} {R : RulesM} {f : Int} {L : List (Option SlotM)} (h : StoreAt w0 w BS g R f L) : w.cell? ⟨BS, 12, none⟩ = some (.int .i64 f) ∧ (∀ i, w.frozen? ⟨BS, i, none⟩ = false) ∧ BS ≠ g := by
  obtain ⟨pA, pc, sA, sc, eA, ec, base, cs, kS, ro, kg, -⟩ := h
  refine ⟨kS.cell 12, kS.frozen, ?_⟩
  rintro rfl
  have e := kS.symm.trans kg
  simp only [Option.some.injEq, Obj.cells.injEq] at e
  exact absurd e.2.1 (by decide)
theorem slot_full {w0 w : World} {BS g : Nat} {R : RulesM} {f : Int} {L : List (Option SlotM)} {k : Nat} {y : SlotM} (h : StoreAt w0 w BS g R f L) (hk : k < L.length) (hx : L.getD k none = some y) :
    ∃ a0 e0 a1 e1 a2 e2, (∀ W, Ext w W → W.cell? ⟨g, k * 8, none⟩ = some (.bool true) ∧ W.cell? ⟨g, k * 8 + 1, none⟩ = some (.slice (some ⟨a0, 0, none⟩) y.pos.cells.length e0) ∧ W.cell? ⟨g, k * 8 + 2, none⟩ = some (.slice (some ⟨a1, 0, none⟩) y.pos.hand0.length e1) ∧ W.cell? ⟨g, k * 8 + 3, none⟩ = some (.slice (some ⟨a2, 0, none⟩) y.pos.hand1.length e2) ∧ W.cell? ⟨g, k * 8 + 4, none⟩ = some (.int .i64 y.pos.turn) ∧ W.cell? ⟨g, k * 8 + 5, none⟩ = some (.int .i64 y.pos.quiet) ∧ W.cell? ⟨g, k * 8 + 6, none⟩ = some (.int .i64 y.depth) ∧ W.cell? ⟨g, k * 8 + 7, none⟩ = some (.int .i64 y.score)) ∧ PosI w (.agg #[.slice (some ⟨a0, 0, none⟩) y.pos.cells.length e0, .slice (some ⟨a1, 0, none⟩) y.pos.hand0.length e1, .slice (some ⟨a2, 0, none⟩) y.pos.hand1.length e2, .int .i64 y.pos.turn, .int .i64 y.pos.quiet]) y.pos := by
  obtain ⟨pA, pc, sA, sc, eA, ec, base, cs, kS, ro, kg, hcs, hsl, -⟩ := h
  rw [List.getD_eq_getElem?_getD, List.getElem?_eq_getElem hk] at hx
  obtain ⟨b, A0, n0, k0, A1, n1, k1, A2, n2, k2, t, q, d, s, h0, h1, h2, h3, h4, h5, h6, h7, h8⟩ := hsl k _ (List.getElem?_eq_getElem hk)
  rw [show L[k] = some y from hx] at h8
  obtain ⟨rfl, hp, rfl, rfl⟩ := h8
  obtain ⟨a0, e0, a1, e1, a2, e2, e, r⟩ := id hp
  simp only [Value.agg.injEq, Array.mk.injEq, List.cons.injEq, and_true, Value.slice.injEq, Value.int.injEq, true_and] at e
  obtain ⟨⟨rfl, rfl, rfl⟩, ⟨rfl, rfl, rfl⟩, ⟨rfl, rfl, rfl⟩, rfl, rfl⟩ := e
  exact ⟨_, _, _, _, _, _, fun W x => ⟨x.cell h0, x.cell h1, x.cell h2, x.cell h3, x.cell h4, x.cell h5, x.cell h6, x.cell h7⟩, hp⟩
theorem getD_slot {α : Type} {L : List (Option α)} {k : Nat} {y : α} (hx : L.getD k none = some y) : some y ∈ L := by
  rw [List.getD_eq_getElem?_getD] at hx
  cases he : L[k]? with
  | none => rw [he] at hx; cases hx
  | some z => rw [he] at hx; cases hx; exact List.mem_of_getElem? he
def SoundS (R : RulesM) (L : List (Option SlotM)) : Prop := ∀ s, some s ∈ L → Sound R s.pos
theorem SoundS.put {R : RulesM} {L : List (Option SlotM)} {P : PosM} {D s : Int} (h : SoundS R L) (hS : Sound R P) : SoundS R (putS L P D s) := by
  unfold putS
  split
  · intro x hx
    rcases List.mem_or_eq_of_mem_set hx with hx | hx
    · exact h x hx
    · cases hx; exact hS
  · exact h
theorem soundS_new (R : RulesM) (n : Nat) : SoundS R (List.replicate n none) := fun s h => by
  have := List.eq_of_mem_replicate h
  cases this

set_option maxHeartbeats 4000000 in
set_option maxRecDepth 100000 in
theorem sget_new {w0 w : World} {BS g : Nat} {R : RulesM} {f : Int} {L : List (Option SlotM)} {P : PosM} {u : Value} {D : Int} (hG : StoreAt w0 w BS g R f L) (hn : 0 < L.length) (hl : L.length ≤ 4096) (hP : PosAt w u P) (hV : Valid R) (hS : Sound R P) (hx : L.getD (slotI P L.length) none = none) :
    Calls Tryz.prog 35 #[.pointer (some ⟨BS, 0, none⟩), u, .int .i64 D] w fun e w' => e = .returned (.tuple #[.int .i64 0, .bool false]) ∧ Ext w w' := by
  have HSL := hide (fun W (h : Ext w W) => slot_any (hG.ext h) hn hl (hP.ext h) hV hS)
  have HG := hide hG
  have HPA := hide hP
  have HSA := hide (slot_none hG (slotI_lt P hn) hx)
  clear hx
  obtain ⟨cA, cc, aA, ac, bA, bc, rfl, -⟩ := id hP
  obtain ⟨x1, k1⟩ := blks1 w #[.slice cA P.cells.length cc, .slice aA P.hand0.length ac, .slice bA P.hand1.length bc, .int .i64 P.turn, .int .i64 P.quiet] 29
  have X1 := hide x1
  have KP := hide k1
  clear k1 x1 hP hG hV hS hn hl
  generalize hkk : slotI P L.length = k at *
  clear hkk
  have f := KP.out.cell
  go_enter Tryz.func35, Tryz.ntmps35
  go_wp2_with fail
  refine (HSL.out _ X1.out).mono ?_
  rintro e w3 ⟨rfl, x3⟩
  have KP3 := hide (KP.out.ext x3)
  have X3 := hide (ext_trans X1.out x3)
  clear f x3 X1 KP HSL
  obtain ⟨A0, n0, k0, A1, n1, k1, A2, n2, k2, t, q, d, s', h0, h1, h2, h3, h4, h5, h6, h7⟩ := HSA.out _ X3.out
  have f := KP3.out.cell
  go_wp2_with (go_quiet (fail))
  go_ret2
  exact ⟨rfl, ext_drewN X3.out _⟩
set_option maxHeartbeats 4000000 in
set_option maxRecDepth 100000 in
theorem sget_depth {w0 w : World} {BS g : Nat} {R : RulesM} {f : Int} {L : List (Option SlotM)} {P : PosM} {u : Value} {D : Int} (hG : StoreAt w0 w BS g R f L) (hn : 0 < L.length) (hl : L.length ≤ 4096) (hP : PosAt w u P) (hV : Valid R) (hS : Sound R P) {y : SlotM} (hx : L.getD (slotI P L.length) none = some y) (hd : y.depth ≠ D) :
    Calls Tryz.prog 35 #[.pointer (some ⟨BS, 0, none⟩), u, .int .i64 D] w fun e w' => e = .returned (.tuple #[.int .i64 0, .bool false]) ∧ Ext w w' := by
  have HSL := hide (fun W (h : Ext w W) => slot_any (hG.ext h) hn hl (hP.ext h) hV hS)
  have HG := hide hG
  have HPA := hide hP
  obtain ⟨a0, e0, a1, e1, a2, e2, hsa, hpi⟩ := slot_full hG (slotI_lt P hn) hx
  have HSA := hide hsa
  have HPI := hide hpi
  have t0 : (y.depth != D) = true := by simpa using hd
  clear hd
  clear hsa hpi hx
  obtain ⟨cA, cc, aA, ac, bA, bc, rfl, -⟩ := id hP
  obtain ⟨x1, k1⟩ := blks1 w #[.slice cA P.cells.length cc, .slice aA P.hand0.length ac, .slice bA P.hand1.length bc, .int .i64 P.turn, .int .i64 P.quiet] 29
  have X1 := hide x1
  have KP := hide k1
  clear k1 x1 hP hG hV hS hn hl
  generalize hkk : slotI P L.length = k at *
  clear hkk
  have f := KP.out.cell
  go_enter Tryz.func35, Tryz.ntmps35
  go_wp2_with fail
  refine (HSL.out _ X1.out).mono ?_
  rintro e w3 ⟨rfl, x3⟩
  have KP3 := hide (KP.out.ext x3)
  have X3 := hide (ext_trans X1.out x3)
  clear f x3 X1 KP HSL
  obtain ⟨h0, h1, h2, h3, h4, h5, h6, h7⟩ := HSA.out _ X3.out
  have f := KP3.out.cell
  go_wp2_with (go_quiet (fail))
  go_ret2
  exact ⟨rfl, ext_drewN X3.out _⟩
set_option maxHeartbeats 4000000 in
set_option maxRecDepth 100000 in
theorem sget_quiet {w0 w : World} {BS g : Nat} {R : RulesM} {f : Int} {L : List (Option SlotM)} {P : PosM} {u : Value} {D : Int} (hG : StoreAt w0 w BS g R f L) (hn : 0 < L.length) (hl : L.length ≤ 4096) (hP : PosAt w u P) (hV : Valid R) (hS : Sound R P) {y : SlotM} (hx : L.getD (slotI P L.length) none = some y) (hd : y.depth = D) (hq : y.pos.quiet ≠ P.quiet) :
    Calls Tryz.prog 35 #[.pointer (some ⟨BS, 0, none⟩), u, .int .i64 D] w fun e w' => e = .returned (.tuple #[.int .i64 0, .bool false]) ∧ Ext w w' := by
  have HSL := hide (fun W (h : Ext w W) => slot_any (hG.ext h) hn hl (hP.ext h) hV hS)
  have HG := hide hG
  have HPA := hide hP
  obtain ⟨a0, e0, a1, e1, a2, e2, hsa, hpi⟩ := slot_full hG (slotI_lt P hn) hx
  have HSA := hide hsa
  have HPI := hide hpi
  have t0 : (y.depth != D) = false := by simpa using hd
  have t1 : (y.pos.quiet != P.quiet) = true := by simpa using hq
  clear hd hq
  clear hsa hpi hx
  obtain ⟨cA, cc, aA, ac, bA, bc, rfl, -⟩ := id hP
  obtain ⟨x1, k1⟩ := blks1 w #[.slice cA P.cells.length cc, .slice aA P.hand0.length ac, .slice bA P.hand1.length bc, .int .i64 P.turn, .int .i64 P.quiet] 29
  have X1 := hide x1
  have KP := hide k1
  clear k1 x1 hP hG hV hS hn hl
  generalize hkk : slotI P L.length = k at *
  clear hkk
  have f := KP.out.cell
  go_enter Tryz.func35, Tryz.ntmps35
  go_wp2_with fail
  refine (HSL.out _ X1.out).mono ?_
  rintro e w3 ⟨rfl, x3⟩
  have KP3 := hide (KP.out.ext x3)
  have X3 := hide (ext_trans X1.out x3)
  clear f x3 X1 KP HSL
  obtain ⟨h0, h1, h2, h3, h4, h5, h6, h7⟩ := HSA.out _ X3.out
  have f := KP3.out.cell
  go_wp2_with (go_quiet (fail))
  go_ret2
  exact ⟨rfl, ext_drewN X3.out _⟩
set_option maxHeartbeats 4000000 in
set_option maxRecDepth 100000 in
theorem sget_diff {w0 w : World} {BS g : Nat} {R : RulesM} {f : Int} {L : List (Option SlotM)} {P : PosM} {u : Value} {D : Int} (hG : StoreAt w0 w BS g R f L) (hn : 0 < L.length) (hl : L.length ≤ 4096) (hP : PosAt w u P) (hV : Valid R) (hS : Sound R P) (hSS : SoundS R L) {y : SlotM} (hx : L.getD (slotI P L.length) none = some y) (hd : y.depth = D) (hq : y.pos.quiet = P.quiet) (hs : sameB y.pos P = false) :
    Calls Tryz.prog 35 #[.pointer (some ⟨BS, 0, none⟩), u, .int .i64 D] w fun e w' => e = .returned (.tuple #[.int .i64 0, .bool false]) ∧ Ext w w' := by
  have HSL := hide (fun W (h : Ext w W) => slot_any (hG.ext h) hn hl (hP.ext h) hV hS)
  have HG := hide hG
  have HPA := hide hP
  obtain ⟨-, -, -, l0, l1, l2⟩ := fit_of (R := R) (ps := [y.pos]) hV (fun Q hQ => by rw [List.mem_singleton.1 hQ]; exact hSS y (getD_slot hx)) y.pos (by simp)
  obtain ⟨-, -, -, m0, m1, m2⟩ := fit_of (R := R) (ps := [P]) hV (fun Q hQ => by rw [List.mem_singleton.1 hQ]; exact hS) P (by simp)
  obtain ⟨a0, e0, a1, e1, a2, e2, hsa, hpi⟩ := slot_full hG (slotI_lt P hn) hx
  have HSM := hide (fun W (h : Ext w W) => PSame_any y.pos P _ _ W (hpi.at_.ext h) (hP.ext h) l0 l1 l2 m0 m1 m2)
  have HSA := hide hsa
  have HPI := hide hpi
  have t0 : (y.depth != D) = false := by simpa using hd
  have t1 : (y.pos.quiet != P.quiet) = false := by simpa using hq
  clear hd hq l0 l1 l2 m0 m1 m2
  clear hsa hpi hx
  rw [hs] at HSM
  clear hs hSS
  obtain ⟨cA, cc, aA, ac, bA, bc, rfl, -⟩ := id hP
  obtain ⟨x1, k1⟩ := blks1 w #[.slice cA P.cells.length cc, .slice aA P.hand0.length ac, .slice bA P.hand1.length bc, .int .i64 P.turn, .int .i64 P.quiet] 29
  have X1 := hide x1
  have KP := hide k1
  clear k1 x1 hP hG hV hS hn hl
  generalize hkk : slotI P L.length = k at *
  clear hkk
  have f := KP.out.cell
  go_enter Tryz.func35, Tryz.ntmps35
  go_wp2_with fail
  refine (HSL.out _ X1.out).mono ?_
  rintro e w3 ⟨rfl, x3⟩
  have KP3 := hide (KP.out.ext x3)
  have X3 := hide (ext_trans X1.out x3)
  clear f x3 X1 KP HSL
  have hsc := HSA.out _ X3.out
  obtain ⟨h0, h1, h2, h3, h4, h5, h6, h7⟩ := hsc
  have C0 := hide h0
  have C1 := hide h1
  have C2 := hide h2
  have C3 := hide h3
  have C4 := hide h4
  have C5 := hide h5
  have C6 := hide h6
  have C7 := hide h7
  clear h0 h1 h2 h3 h4 h5 h6 h7 HPI
  go_upto_region 2 with fail
  generalize hB1 : w.heap.size = B1 at *
  clear hB1
  have keepK := hide (fun W (h : Ext w3 W) => (show (fun W => W.cell? ⟨B1, 0, none⟩ = some (.slice cA P.cells.length cc) ∧ W.cell? ⟨B1, 1, none⟩ = some (.slice aA P.hand0.length ac) ∧ W.cell? ⟨B1, 2, none⟩ = some (.slice bA P.hand1.length bc) ∧ W.cell? ⟨B1, 3, none⟩ = some (.int .i64 P.turn) ∧ W.cell? ⟨B1, 4, none⟩ = some (.int .i64 P.quiet) ∧ W.cell? ⟨g, k * 8, none⟩ = some (.bool true) ∧ W.cell? ⟨g, k * 8 + 1, none⟩ = some (.slice (some ⟨a0, 0, none⟩) y.pos.cells.length e0) ∧ W.cell? ⟨g, k * 8 + 2, none⟩ = some (.slice (some ⟨a1, 0, none⟩) y.pos.hand0.length e1) ∧ W.cell? ⟨g, k * 8 + 3, none⟩ = some (.slice (some ⟨a2, 0, none⟩) y.pos.hand1.length e2) ∧ W.cell? ⟨g, k * 8 + 4, none⟩ = some (.int .i64 y.pos.turn) ∧ W.cell? ⟨g, k * 8 + 5, none⟩ = some (.int .i64 y.pos.quiet) ∧ W.cell? ⟨g, k * 8 + 6, none⟩ = some (.int .i64 y.depth) ∧ W.cell? ⟨g, k * 8 + 7, none⟩ = some (.int .i64 y.score) ∧ Ext w3 W) W from ⟨(KP3.out.ext h).cell 0, (KP3.out.ext h).cell 1, (KP3.out.ext h).cell 2, (KP3.out.ext h).cell 3, (KP3.out.ext h).cell 4, h.cell C0.out, h.cell C1.out, h.cell C2.out, h.cell C3.out, h.cell C4.out, h.cell C5.out, h.cell C6.out, h.cell C7.out, h⟩))
  have yy : Ext w3 w3.drew := Below.drew (Below.refl _ _)
  refine region_K (fun W => W.cell? ⟨B1, 0, none⟩ = some (.slice cA P.cells.length cc) ∧ W.cell? ⟨B1, 1, none⟩ = some (.slice aA P.hand0.length ac) ∧ W.cell? ⟨B1, 2, none⟩ = some (.slice bA P.hand1.length bc) ∧ W.cell? ⟨B1, 3, none⟩ = some (.int .i64 P.turn) ∧ W.cell? ⟨B1, 4, none⟩ = some (.int .i64 P.quiet) ∧ W.cell? ⟨g, k * 8, none⟩ = some (.bool true) ∧ W.cell? ⟨g, k * 8 + 1, none⟩ = some (.slice (some ⟨a0, 0, none⟩) y.pos.cells.length e0) ∧ W.cell? ⟨g, k * 8 + 2, none⟩ = some (.slice (some ⟨a1, 0, none⟩) y.pos.hand0.length e1) ∧ W.cell? ⟨g, k * 8 + 3, none⟩ = some (.slice (some ⟨a2, 0, none⟩) y.pos.hand1.length e2) ∧ W.cell? ⟨g, k * 8 + 4, none⟩ = some (.int .i64 y.pos.turn) ∧ W.cell? ⟨g, k * 8 + 5, none⟩ = some (.int .i64 y.pos.quiet) ∧ W.cell? ⟨g, k * 8 + 6, none⟩ = some (.int .i64 y.depth) ∧ W.cell? ⟨g, k * 8 + 7, none⟩ = some (.int .i64 y.score) ∧ Ext w3 W) (fun _ => True) [] (by kernel_rfl) ?_
  have hT0 := keepK.out _ yy
  refine anyK_take 0 (oi := ?oo1) ?ho1 (by kernel_rfl) (by kernel_rfl) (by kernel_rfl) (by kernel_rfl) ?hq1 ?hw1 hT0 (fun _ => trivial) (v := ?vv1) ?hy1 ?hk1
  case ho1 => (simp only [List.getElem?_toArray, List.getElem?_cons_succ, List.getElem?_cons_zero]; rfl)
  case hq1 => exact fun _ _ _ h => h
  case hw1 => rfl
  case hy1 =>
    intro W hW
    go_simp
    first | done | with_reducible rfl
  case hk1 =>
  try simp only [Act.put, List.setIfInBounds_toArray, List.set_cons_zero, List.set_cons_succ]
  refine anyK_take 1 (oi := ?oo2) ?ho2 (by kernel_rfl) (by kernel_rfl) (by kernel_rfl) (by kernel_rfl) ?hq2 ?hw2 hT0 (fun _ => trivial) (v := ?vv2) ?hy2 ?hk2
  case ho2 => (simp only [List.getElem?_toArray, List.getElem?_cons_succ, List.getElem?_cons_zero]; rfl)
  case hq2 => exact fun _ _ _ h => h
  case hw2 => rfl
  case hy2 =>
    intro W hW
    go_simp
    first | done | with_reducible rfl
  case hk2 =>
  try simp only [Act.put, List.setIfInBounds_toArray, List.set_cons_zero, List.set_cons_succ]
  refine anyK_take 2 (oi := ?oo3) ?ho3 (by kernel_rfl) (by kernel_rfl) (by kernel_rfl) (by kernel_rfl) ?hq3 ?hw3 hT0 (fun _ => trivial) (v := ?vv3) ?hy3 ?hk3
  case ho3 => (simp only [List.getElem?_toArray, List.getElem?_cons_succ, List.getElem?_cons_zero]; rfl)
  case hq3 => exact fun _ _ _ h => h
  case hw3 => rfl
  case hy3 =>
    intro W hW
    go_simp
    first | done | with_reducible rfl
  case hk3 =>
  try simp only [Act.put, List.setIfInBounds_toArray, List.set_cons_zero, List.set_cons_succ]
  refine anyK_take 3 (oi := ?oo4) ?ho4 (by kernel_rfl) (by kernel_rfl) (by kernel_rfl) (by kernel_rfl) ?hq4 ?hw4 hT0 (fun _ => trivial) (v := ?vv4) ?hy4 ?hk4
  case ho4 => (simp only [List.getElem?_toArray, List.getElem?_cons_succ, List.getElem?_cons_zero]; rfl)
  case hq4 => exact fun _ _ _ h => h
  case hw4 => rfl
  case hy4 =>
    intro W hW
    obtain ⟨z0, z1, z2, z3, z4, z5, z6, z7, z8, z9, z10, z11, z12, z13⟩ := hW
    go_simp
    first | done | with_reducible rfl
  case hk4 =>
  try simp only [Act.put, List.setIfInBounds_toArray, List.set_cons_zero, List.set_cons_succ]
  refine anyK_take 4 (oi := ?oo5) ?ho5 (by kernel_rfl) (by kernel_rfl) (by kernel_rfl) (by kernel_rfl) ?hq5 ?hw5 hT0 (fun _ => trivial) (v := ?vv5) ?hy5 ?hk5
  case ho5 => (simp only [List.getElem?_toArray, List.getElem?_cons_succ, List.getElem?_cons_zero]; rfl)
  case hq5 => exact fun _ _ _ h => h
  case hw5 => rfl
  case hy5 =>
    intro W hW
    go_simp
    first | done | with_reducible rfl
  case hk5 =>
  try simp only [Act.put, List.setIfInBounds_toArray, List.set_cons_zero, List.set_cons_succ]
  refine anyK_take 5 (oi := ?oo6) ?ho6 (by kernel_rfl) (by kernel_rfl) (by kernel_rfl) (by kernel_rfl) ?hq6 ?hw6 hT0 (fun _ => trivial) (v := ?vv6) ?hy6 ?hk6
  case ho6 => (simp only [List.getElem?_toArray, List.getElem?_cons_succ, List.getElem?_cons_zero]; rfl)
  case hq6 => exact fun _ _ _ h => h
  case hw6 => rfl
  case hy6 =>
    intro W hW
    go_simp
    first | done | with_reducible rfl
  case hk6 =>
  try simp only [Act.put, List.setIfInBounds_toArray, List.set_cons_zero, List.set_cons_succ]
  refine anyK_take 6 (oi := ?oo7) ?ho7 (by kernel_rfl) (by kernel_rfl) (by kernel_rfl) (by kernel_rfl) ?hq7 ?hw7 hT0 (fun _ => trivial) (v := ?vv7) ?hy7 ?hk7
  case ho7 => (simp only [List.getElem?_toArray, List.getElem?_cons_succ, List.getElem?_cons_zero]; rfl)
  case hq7 => exact fun _ _ _ h => h
  case hw7 => rfl
  case hy7 =>
    intro W hW
    go_simp
    first | done | with_reducible rfl
  case hk7 =>
  try simp only [Act.put, List.setIfInBounds_toArray, List.set_cons_zero, List.set_cons_succ]
  refine anyK_take 7 (oi := ?oo8) ?ho8 (by kernel_rfl) (by kernel_rfl) (by kernel_rfl) (by kernel_rfl) ?hq8 ?hw8 hT0 (fun _ => trivial) (v := ?vv8) ?hy8 ?hk8
  case ho8 => (simp only [List.getElem?_toArray, List.getElem?_cons_succ, List.getElem?_cons_zero]; rfl)
  case hq8 => exact fun _ _ _ h => h
  case hw8 => rfl
  case hy8 =>
    intro W hW
    go_simp
    first | done | with_reducible rfl
  case hk8 =>
  try simp only [Act.put, List.setIfInBounds_toArray, List.set_cons_zero, List.set_cons_succ]
  refine anyK_take 8 (oi := ?oo9) ?ho9 (by kernel_rfl) (by kernel_rfl) (by kernel_rfl) (by kernel_rfl) ?hq9 ?hw9 hT0 (fun _ => trivial) (v := ?vv9) ?hy9 ?hk9
  case ho9 => (simp only [List.getElem?_toArray, List.getElem?_cons_succ, List.getElem?_cons_zero]; rfl)
  case hq9 => exact fun _ _ _ h => h
  case hw9 => rfl
  case hy9 =>
    intro W hW
    go_simp
    first | done | with_reducible rfl
  case hk9 =>
  try simp only [Act.put, List.setIfInBounds_toArray, List.set_cons_zero, List.set_cons_succ]
  refine anyK_take 9 (oi := ?oo10) ?ho10 (by kernel_rfl) (by kernel_rfl) (by kernel_rfl) (by kernel_rfl) ?hq10 ?hw10 hT0 (fun _ => trivial) (v := ?vv10) ?hy10 ?hk10
  case ho10 => (simp only [List.getElem?_toArray, List.getElem?_cons_succ, List.getElem?_cons_zero]; rfl)
  case hq10 => exact fun _ _ _ h => h
  case hw10 => rfl
  case hy10 =>
    intro W hW
    obtain ⟨z0, z1, z2, z3, z4, z5, z6, z7, z8, z9, z10, z11, z12, z13⟩ := hW
    go_simp
    first | done | with_reducible rfl
  case hk10 =>
  try simp only [Act.put, List.setIfInBounds_toArray, List.set_cons_zero, List.set_cons_succ]
  refine anyK_take 10 (oi := ?oo11) ?ho11 (by kernel_rfl) (by kernel_rfl) (by kernel_rfl) (by kernel_rfl) ?hq11 ?hw11 hT0 (fun _ => trivial) (v := ?vv11) ?hy11 ?hk11
  case ho11 => (simp only [List.getElem?_toArray, List.getElem?_cons_succ, List.getElem?_cons_zero]; rfl)
  case hq11 => exact fun _ _ _ h => h
  case hw11 => rfl
  case hy11 =>
    intro W hW
    go_simp
    first | done | with_reducible rfl
  case hk11 =>
  try simp only [Act.put, List.setIfInBounds_toArray, List.set_cons_zero, List.set_cons_succ]
  refine anyK_take 11 (oi := ?oo12) ?ho12 (by kernel_rfl) (by kernel_rfl) (by kernel_rfl) (by kernel_rfl) ?hq12 ?hw12 hT0 (fun _ => trivial) (v := ?vv12) ?hy12 ?hk12
  case ho12 => (simp only [List.getElem?_toArray, List.getElem?_cons_succ, List.getElem?_cons_zero]; rfl)
  case hq12 => exact fun _ _ _ h => h
  case hw12 => rfl
  case hy12 =>
    intro W hW
    go_simp
    first | done | with_reducible rfl
  case hk12 =>
  try simp only [Act.put, List.setIfInBounds_toArray, List.set_cons_zero, List.set_cons_succ]
  refine anyK_take 12 (oi := ?oo13) ?ho13 (by kernel_rfl) (by kernel_rfl) (by kernel_rfl) (by kernel_rfl) ?hq13 ?hw13 hT0 (fun _ => trivial) (v := ?vv13) ?hy13 ?hk13
  case ho13 => (simp only [List.getElem?_toArray, List.getElem?_cons_succ, List.getElem?_cons_zero]; rfl)
  case hq13 => exact fun _ _ _ h => h
  case hw13 => rfl
  case hy13 =>
    intro W hW
    go_simp
    first | done | with_reducible rfl
  case hk13 =>
  try simp only [Act.put, List.setIfInBounds_toArray, List.set_cons_zero, List.set_cons_succ]
  refine anyK_take 13 (oi := ?oo14) ?ho14 (by kernel_rfl) (by kernel_rfl) (by kernel_rfl) (by kernel_rfl) ?hq14 ?hw14 hT0 (fun _ => trivial) (v := ?vv14) ?hy14 ?hk14
  case ho14 => (simp only [List.getElem?_toArray, List.getElem?_cons_succ, List.getElem?_cons_zero]; rfl)
  case hq14 => exact fun _ _ _ h => h
  case hw14 => rfl
  case hy14 =>
    intro W hW
    go_simp
    first | done | with_reducible rfl
  case hk14 =>
  try simp only [Act.put, List.setIfInBounds_toArray, List.set_cons_zero, List.set_cons_succ]
  refine anyK_take 14 (oi := ?oo15) ?ho15 (by kernel_rfl) (by kernel_rfl) (by kernel_rfl) (by kernel_rfl) ?hq15 ?hw15 hT0 (fun _ => trivial) (v := ?vv15) ?hy15 ?hk15
  case ho15 => (simp only [List.getElem?_toArray, List.getElem?_cons_succ, List.getElem?_cons_zero]; rfl)
  case hq15 => exact fun _ _ _ h => h
  case hw15 => rfl
  case hy15 =>
    intro W hW
    go_simp
    first | done | with_reducible rfl
  case hk15 =>
  try simp only [Act.put, List.setIfInBounds_toArray, List.set_cons_zero, List.set_cons_succ]
  refine anyK_take 15 (oi := ?oo16) ?ho16 (by kernel_rfl) (by kernel_rfl) (by kernel_rfl) (by kernel_rfl) ?hq16 ?hw16 hT0 (fun _ => trivial) (v := ?vv16) ?hy16 ?hk16
  case ho16 => (simp only [List.getElem?_toArray, List.getElem?_cons_succ, List.getElem?_cons_zero]; rfl)
  case hq16 => exact fun _ _ _ h => h
  case hw16 => rfl
  case hy16 =>
    intro W hW
    go_simp
    first | done | with_reducible rfl
  case hk16 =>
  try simp only [Act.put, List.setIfInBounds_toArray, List.set_cons_zero, List.set_cons_succ]
  refine anyK_take 16 (oi := ?oo17) ?ho17 (by kernel_rfl) (by kernel_rfl) (by kernel_rfl) (by kernel_rfl) ?hq17 ?hw17 hT0 (fun _ => trivial) (v := ?vv17) ?hy17 ?hk17
  case ho17 => (simp only [List.getElem?_toArray, List.getElem?_cons_succ, List.getElem?_cons_zero]; rfl)
  case hq17 => exact fun _ _ _ h => h
  case hw17 => rfl
  case hy17 =>
    intro W hW
    go_simp
    first | done | with_reducible rfl
  case hk17 =>
  try simp only [Act.put, List.setIfInBounds_toArray, List.set_cons_zero, List.set_cons_succ]
  refine anyK_take 17 (oi := ?oo18) ?ho18 (by kernel_rfl) (by kernel_rfl) (by kernel_rfl) (by kernel_rfl) ?hq18 ?hw18 hT0 (fun _ => trivial) (v := ?vv18) ?hy18 ?hk18
  case ho18 => (simp only [List.getElem?_toArray, List.getElem?_cons_succ, List.getElem?_cons_zero]; rfl)
  case hq18 => exact fun _ _ _ h => h
  case hw18 => rfl
  case hy18 =>
    intro W hW
    go_simp
    first | done | with_reducible rfl
  case hk18 =>
  try simp only [Act.put, List.setIfInBounds_toArray, List.set_cons_zero, List.set_cons_succ]
  refine anyK_take 18 (oi := ?oo19) ?ho19 (by kernel_rfl) (by kernel_rfl) (by kernel_rfl) (by kernel_rfl) ?hq19 ?hw19 hT0 (fun _ => trivial) (v := ?vv19) ?hy19 ?hk19
  case ho19 => (simp only [List.getElem?_toArray, List.getElem?_cons_succ, List.getElem?_cons_zero]; rfl)
  case hq19 => exact fun _ _ _ h => h
  case hw19 => rfl
  case hy19 =>
    intro W hW
    obtain ⟨z0, z1, z2, z3, z4, z5, z6, z7, z8, z9, z10, z11, z12, z13⟩ := hW
    go_simp
    first | done | with_reducible rfl
  case hk19 =>
  try simp only [Act.put, List.setIfInBounds_toArray, List.set_cons_zero, List.set_cons_succ]
  refine anyK_take 19 (oi := ?oo20) ?ho20 (by kernel_rfl) (by kernel_rfl) (by kernel_rfl) (by kernel_rfl) ?hq20 ?hw20 hT0 (fun _ => trivial) (v := ?vv20) ?hy20 ?hk20
  case ho20 => (simp only [List.getElem?_toArray, List.getElem?_cons_succ, List.getElem?_cons_zero]; rfl)
  case hq20 => exact fun _ _ _ h => h
  case hw20 => rfl
  case hy20 =>
    intro W hW
    go_simp
    first | done | with_reducible rfl
  case hk20 =>
  try simp only [Act.put, List.setIfInBounds_toArray, List.set_cons_zero, List.set_cons_succ]
  refine anyK_take 20 (oi := ?oo21) ?ho21 (by kernel_rfl) (by kernel_rfl) (by kernel_rfl) (by kernel_rfl) ?hq21 ?hw21 hT0 (fun _ => trivial) (v := ?vv21) ?hy21 ?hk21
  case ho21 => (simp only [List.getElem?_toArray, List.getElem?_cons_succ, List.getElem?_cons_zero]; rfl)
  case hq21 => exact fun _ _ _ h => h
  case hw21 => rfl
  case hy21 =>
    intro W hW
    obtain ⟨z0, z1, z2, z3, z4, z5, z6, z7, z8, z9, z10, z11, z12, z13⟩ := hW
    go_simp
    first | done | with_reducible rfl
  case hk21 =>
  try simp only [Act.put, List.setIfInBounds_toArray, List.set_cons_zero, List.set_cons_succ]
  refine anyK_take 21 (oi := ?oo22) ?ho22 (by kernel_rfl) (by kernel_rfl) (by kernel_rfl) (by kernel_rfl) ?hq22 ?hw22 hT0 (fun _ => trivial) (v := ?vv22) ?hy22 ?hk22
  case ho22 => (simp only [List.getElem?_toArray, List.getElem?_cons_succ, List.getElem?_cons_zero]; rfl)
  case hq22 => exact fun _ _ _ h => h
  case hw22 => rfl
  case hy22 =>
    intro W hW
    go_simp
    first | done | with_reducible rfl
  case hk22 =>
  try simp only [Act.put, List.setIfInBounds_toArray, List.set_cons_zero, List.set_cons_succ]
  refine anyK_take 22 (oi := ?oo23) ?ho23 (by kernel_rfl) (by kernel_rfl) (by kernel_rfl) (by kernel_rfl) ?hq23 ?hw23 hT0 (fun _ => trivial) (v := ?vv23) ?hy23 ?hk23
  case ho23 => (simp only [List.getElem?_toArray, List.getElem?_cons_succ, List.getElem?_cons_zero]; rfl)
  case hq23 => exact fun _ _ _ h => h
  case hw23 => rfl
  case hy23 =>
    intro W hW
    go_simp
    first | done | with_reducible rfl
  case hk23 =>
  try simp only [Act.put, List.setIfInBounds_toArray, List.set_cons_zero, List.set_cons_succ]
  refine anyK_take 23 (oi := ?oo24) ?ho24 (by kernel_rfl) (by kernel_rfl) (by kernel_rfl) (by kernel_rfl) ?hq24 ?hw24 hT0 (fun _ => trivial) (v := ?vv24) ?hy24 ?hk24
  case ho24 => (simp only [List.getElem?_toArray, List.getElem?_cons_succ, List.getElem?_cons_zero]; rfl)
  case hq24 => exact fun _ _ _ h => h
  case hw24 => rfl
  case hy24 =>
    intro W hW
    go_simp
    first | done | with_reducible rfl
  case hk24 =>
  try simp only [Act.put, List.setIfInBounds_toArray, List.set_cons_zero, List.set_cons_succ]
  refine anyK_take 24 (oi := ?oo25) ?ho25 (by kernel_rfl) (by kernel_rfl) (by kernel_rfl) (by kernel_rfl) ?hq25 ?hw25 hT0 (fun _ => trivial) (v := ?vv25) ?hy25 ?hk25
  case ho25 => (simp only [List.getElem?_toArray, List.getElem?_cons_succ, List.getElem?_cons_zero]; rfl)
  case hq25 => exact fun _ _ _ h => h
  case hw25 => rfl
  case hy25 =>
    intro W hW
    go_simp
    first | done | with_reducible rfl
  case hk25 =>
  try simp only [Act.put, List.setIfInBounds_toArray, List.set_cons_zero, List.set_cons_succ]
  refine anyK_take 25 (oi := ?oo26) ?ho26 (by kernel_rfl) (by kernel_rfl) (by kernel_rfl) (by kernel_rfl) ?hq26 ?hw26 hT0 (fun _ => trivial) (v := ?vv26) ?hy26 ?hk26
  case ho26 => (simp only [List.getElem?_toArray, List.getElem?_cons_succ, List.getElem?_cons_zero]; rfl)
  case hq26 => exact fun _ _ _ h => h
  case hw26 => rfl
  case hy26 =>
    intro W hW
    go_simp
    first | done | with_reducible rfl
  case hk26 =>
  try simp only [Act.put, List.setIfInBounds_toArray, List.set_cons_zero, List.set_cons_succ]
  refine anyK_take 26 (oi := ?oo27) ?ho27 (by kernel_rfl) (by kernel_rfl) (by kernel_rfl) (by kernel_rfl) ?hq27 ?hw27 hT0 (fun _ => trivial) (v := ?vv27) ?hy27 ?hk27
  case ho27 => (simp only [List.getElem?_toArray, List.getElem?_cons_succ, List.getElem?_cons_zero]; rfl)
  case hq27 => exact fun _ _ _ h => h
  case hw27 => rfl
  case hy27 =>
    intro W hW
    go_simp
    first | done | with_reducible rfl
  case hk27 =>
  try simp only [Act.put, List.setIfInBounds_toArray, List.set_cons_zero, List.set_cons_succ]
  refine anyK_take 27 (oi := ?oo28) ?ho28 (by kernel_rfl) (by kernel_rfl) (by kernel_rfl) (by kernel_rfl) ?hq28 ?hw28 hT0 (fun _ => trivial) (v := ?vv28) ?hy28 ?hk28
  case ho28 => (simp only [List.getElem?_toArray, List.getElem?_cons_succ, List.getElem?_cons_zero]; rfl)
  case hq28 => exact fun _ _ _ h => h
  case hw28 => rfl
  case hy28 =>
    intro W hW
    obtain ⟨z0, z1, z2, z3, z4, z5, z6, z7, z8, z9, z10, z11, z12, z13⟩ := hW
    go_simp
    first | done | with_reducible rfl
  case hk28 =>
  try simp only [Act.put, List.setIfInBounds_toArray, List.set_cons_zero, List.set_cons_succ]
  refine anyK_take 28 (oi := ?oo29) ?ho29 (by kernel_rfl) (by kernel_rfl) (by kernel_rfl) (by kernel_rfl) ?hq29 ?hw29 hT0 (fun _ => trivial) (v := ?vv29) ?hy29 ?hk29
  case ho29 => (simp only [List.getElem?_toArray, List.getElem?_cons_succ, List.getElem?_cons_zero]; rfl)
  case hq29 => exact fun _ _ _ h => h
  case hw29 => rfl
  case hy29 =>
    intro W hW
    obtain ⟨z0, z1, z2, z3, z4, z5, z6, z7, z8, z9, z10, z11, z12, z13⟩ := hW
    go_simp
    first | done | with_reducible rfl
  case hk29 =>
  try simp only [Act.put, List.setIfInBounds_toArray, List.set_cons_zero, List.set_cons_succ]
  refine anyK_on1 29 (by kernel_rfl) ?_
  refine anyK_one 29 (o := ?oo30) ?ho30 ?hk30
  case ho30 => (simp only [List.getElem?_toArray, List.getElem?_cons_succ, List.getElem?_cons_zero]; rfl)
  case hk30 =>
  intro K hK
  go_simp
  refine (HSM.out _ (ext_trans X3.out yy)).mono ?_
  rintro e w4 ⟨rfl, xx⟩
  try go_wp2_with fail
  replace yy := ext_trans yy xx
  have hT1 := keepK.out _ yy
  refine hK.out _ _ hT1 (fun _ => trivial) ?_
  clear hK K
  try simp only [Act.put, List.setIfInBounds_toArray, List.set_cons_zero, List.set_cons_succ]
  refine anyK_take 30 (oi := ?oo31) ?ho31 (by kernel_rfl) (by kernel_rfl) (by kernel_rfl) (by kernel_rfl) ?hq31 ?hw31 hT1 (fun _ => trivial) (v := ?vv31) ?hy31 ?hk31
  case ho31 => (simp only [List.getElem?_toArray, List.getElem?_cons_succ, List.getElem?_cons_zero]; rfl)
  case hq31 => exact fun _ _ _ h => h
  case hw31 => rfl
  case hy31 =>
    intro W hW
    go_simp
    first | done | with_reducible rfl
  case hk31 =>
  try simp only [Act.put, List.setIfInBounds_toArray, List.set_cons_zero, List.set_cons_succ]
  refine anyK_take 31 (oi := ?oo32) ?ho32 (by kernel_rfl) (by kernel_rfl) (by kernel_rfl) (by kernel_rfl) ?hq32 ?hw32 hT1 (fun _ => trivial) (v := ?vv32) ?hy32 ?hk32
  case ho32 => (simp only [List.getElem?_toArray, List.getElem?_cons_succ, List.getElem?_cons_zero]; rfl)
  case hq32 => exact fun _ _ _ h => h
  case hw32 => rfl
  case hy32 =>
    intro W hW
    go_simp
    first | done | with_reducible rfl
  case hk32 =>
  try simp only [Act.put, List.setIfInBounds_toArray, List.set_cons_zero, List.set_cons_succ]
  refine anyK_done (by kernel_rfl) ?_ _
  clear keepK hT0 hT1
  go_wp2
  go_ret2
  exact ⟨rfl, ext_trans X3.out yy⟩
def SHitPost (w0 w : World) (BS g : Nat) (R : RulesM) (f : Int) (L : List (Option SlotM)) (z : Int) (e : Ending) (w' : World) : Prop := e = .returned (.tuple #[.int .i64 z, .bool true]) ∧ StoreAt w0 w' BS g R (IntKind.i64.wrap (f + 1)) L ∧ SFr BS w w'
set_option maxHeartbeats 4000000 in
set_option maxRecDepth 100000 in
theorem sget_hit {w0 w : World} {BS g : Nat} {R : RulesM} {f : Int} {L : List (Option SlotM)} {P : PosM} {u : Value} {D : Int} (hG : StoreAt w0 w BS g R f L) (hn : 0 < L.length) (hl : L.length ≤ 4096) (hP : PosAt w u P) (hV : Valid R) (hS : Sound R P) (hSS : SoundS R L) {y : SlotM} (hx : L.getD (slotI P L.length) none = some y) (hd : y.depth = D) (hq : y.pos.quiet = P.quiet) (hs : sameB y.pos P = true) :
    Calls Tryz.prog 35 #[.pointer (some ⟨BS, 0, none⟩), u, .int .i64 D] w fun e w' => SHitPost w0 w BS g R f L y.score e w' := by
  have HSL := hide (fun W (h : Ext w W) => slot_any (hG.ext h) hn hl (hP.ext h) hV hS)
  have HG := hide hG
  have HPA := hide hP
  obtain ⟨-, -, -, l0, l1, l2⟩ := fit_of (R := R) (ps := [y.pos]) hV (fun Q hQ => by rw [List.mem_singleton.1 hQ]; exact hSS y (getD_slot hx)) y.pos (by simp)
  obtain ⟨-, -, -, m0, m1, m2⟩ := fit_of (R := R) (ps := [P]) hV (fun Q hQ => by rw [List.mem_singleton.1 hQ]; exact hS) P (by simp)
  obtain ⟨a0, e0, a1, e1, a2, e2, hsa, hpi⟩ := slot_full hG (slotI_lt P hn) hx
  have HSM := hide (fun W (h : Ext w W) => PSame_any y.pos P _ _ W (hpi.at_.ext h) (hP.ext h) l0 l1 l2 m0 m1 m2)
  have HSA := hide hsa
  have HPI := hide hpi
  have t0 : (y.depth != D) = false := by simpa using hd
  have t1 : (y.pos.quiet != P.quiet) = false := by simpa using hq
  clear hd hq l0 l1 l2 m0 m1 m2
  clear hsa hpi hx
  rw [hs] at HSM
  clear hs hSS
  unfold SHitPost
  obtain ⟨cA, cc, aA, ac, bA, bc, rfl, -⟩ := id hP
  obtain ⟨x1, k1⟩ := blks1 w #[.slice cA P.cells.length cc, .slice aA P.hand0.length ac, .slice bA P.hand1.length bc, .int .i64 P.turn, .int .i64 P.quiet] 29
  have X1 := hide x1
  have KP := hide k1
  clear k1 x1 hP hG hV hS hn hl
  generalize hkk : slotI P L.length = k at *
  clear hkk
  have f := KP.out.cell
  go_enter Tryz.func35, Tryz.ntmps35
  go_wp2_with fail
  refine (HSL.out _ X1.out).mono ?_
  rintro e w3 ⟨rfl, x3⟩
  have KP3 := hide (KP.out.ext x3)
  have X3 := hide (ext_trans X1.out x3)
  clear f x3 X1 KP HSL
  have hsc := HSA.out _ X3.out
  obtain ⟨h0, h1, h2, h3, h4, h5, h6, h7⟩ := hsc
  have C0 := hide h0
  have C1 := hide h1
  have C2 := hide h2
  have C3 := hide h3
  have C4 := hide h4
  have C5 := hide h5
  have C6 := hide h6
  have C7 := hide h7
  clear h0 h1 h2 h3 h4 h5 h6 h7 HPI
  go_upto_region 2 with fail
  generalize hB1 : w.heap.size = B1 at *
  clear hB1
  have keepK := hide (fun W (h : Ext w3 W) => (show (fun W => W.cell? ⟨B1, 0, none⟩ = some (.slice cA P.cells.length cc) ∧ W.cell? ⟨B1, 1, none⟩ = some (.slice aA P.hand0.length ac) ∧ W.cell? ⟨B1, 2, none⟩ = some (.slice bA P.hand1.length bc) ∧ W.cell? ⟨B1, 3, none⟩ = some (.int .i64 P.turn) ∧ W.cell? ⟨B1, 4, none⟩ = some (.int .i64 P.quiet) ∧ W.cell? ⟨g, k * 8, none⟩ = some (.bool true) ∧ W.cell? ⟨g, k * 8 + 1, none⟩ = some (.slice (some ⟨a0, 0, none⟩) y.pos.cells.length e0) ∧ W.cell? ⟨g, k * 8 + 2, none⟩ = some (.slice (some ⟨a1, 0, none⟩) y.pos.hand0.length e1) ∧ W.cell? ⟨g, k * 8 + 3, none⟩ = some (.slice (some ⟨a2, 0, none⟩) y.pos.hand1.length e2) ∧ W.cell? ⟨g, k * 8 + 4, none⟩ = some (.int .i64 y.pos.turn) ∧ W.cell? ⟨g, k * 8 + 5, none⟩ = some (.int .i64 y.pos.quiet) ∧ W.cell? ⟨g, k * 8 + 6, none⟩ = some (.int .i64 y.depth) ∧ W.cell? ⟨g, k * 8 + 7, none⟩ = some (.int .i64 y.score) ∧ Ext w3 W) W from ⟨(KP3.out.ext h).cell 0, (KP3.out.ext h).cell 1, (KP3.out.ext h).cell 2, (KP3.out.ext h).cell 3, (KP3.out.ext h).cell 4, h.cell C0.out, h.cell C1.out, h.cell C2.out, h.cell C3.out, h.cell C4.out, h.cell C5.out, h.cell C6.out, h.cell C7.out, h⟩))
  have yy : Ext w3 w3.drew := Below.drew (Below.refl _ _)
  refine region_K (fun W => W.cell? ⟨B1, 0, none⟩ = some (.slice cA P.cells.length cc) ∧ W.cell? ⟨B1, 1, none⟩ = some (.slice aA P.hand0.length ac) ∧ W.cell? ⟨B1, 2, none⟩ = some (.slice bA P.hand1.length bc) ∧ W.cell? ⟨B1, 3, none⟩ = some (.int .i64 P.turn) ∧ W.cell? ⟨B1, 4, none⟩ = some (.int .i64 P.quiet) ∧ W.cell? ⟨g, k * 8, none⟩ = some (.bool true) ∧ W.cell? ⟨g, k * 8 + 1, none⟩ = some (.slice (some ⟨a0, 0, none⟩) y.pos.cells.length e0) ∧ W.cell? ⟨g, k * 8 + 2, none⟩ = some (.slice (some ⟨a1, 0, none⟩) y.pos.hand0.length e1) ∧ W.cell? ⟨g, k * 8 + 3, none⟩ = some (.slice (some ⟨a2, 0, none⟩) y.pos.hand1.length e2) ∧ W.cell? ⟨g, k * 8 + 4, none⟩ = some (.int .i64 y.pos.turn) ∧ W.cell? ⟨g, k * 8 + 5, none⟩ = some (.int .i64 y.pos.quiet) ∧ W.cell? ⟨g, k * 8 + 6, none⟩ = some (.int .i64 y.depth) ∧ W.cell? ⟨g, k * 8 + 7, none⟩ = some (.int .i64 y.score) ∧ Ext w3 W) (fun _ => True) [] (by kernel_rfl) ?_
  have hT0 := keepK.out _ yy
  refine anyK_take 0 (oi := ?oo33) ?ho33 (by kernel_rfl) (by kernel_rfl) (by kernel_rfl) (by kernel_rfl) ?hq33 ?hw33 hT0 (fun _ => trivial) (v := ?vv33) ?hy33 ?hk33
  case ho33 => (simp only [List.getElem?_toArray, List.getElem?_cons_succ, List.getElem?_cons_zero]; rfl)
  case hq33 => exact fun _ _ _ h => h
  case hw33 => rfl
  case hy33 =>
    intro W hW
    go_simp
    first | done | with_reducible rfl
  case hk33 =>
  try simp only [Act.put, List.setIfInBounds_toArray, List.set_cons_zero, List.set_cons_succ]
  refine anyK_take 1 (oi := ?oo34) ?ho34 (by kernel_rfl) (by kernel_rfl) (by kernel_rfl) (by kernel_rfl) ?hq34 ?hw34 hT0 (fun _ => trivial) (v := ?vv34) ?hy34 ?hk34
  case ho34 => (simp only [List.getElem?_toArray, List.getElem?_cons_succ, List.getElem?_cons_zero]; rfl)
  case hq34 => exact fun _ _ _ h => h
  case hw34 => rfl
  case hy34 =>
    intro W hW
    go_simp
    first | done | with_reducible rfl
  case hk34 =>
  try simp only [Act.put, List.setIfInBounds_toArray, List.set_cons_zero, List.set_cons_succ]
  refine anyK_take 2 (oi := ?oo35) ?ho35 (by kernel_rfl) (by kernel_rfl) (by kernel_rfl) (by kernel_rfl) ?hq35 ?hw35 hT0 (fun _ => trivial) (v := ?vv35) ?hy35 ?hk35
  case ho35 => (simp only [List.getElem?_toArray, List.getElem?_cons_succ, List.getElem?_cons_zero]; rfl)
  case hq35 => exact fun _ _ _ h => h
  case hw35 => rfl
  case hy35 =>
    intro W hW
    go_simp
    first | done | with_reducible rfl
  case hk35 =>
  try simp only [Act.put, List.setIfInBounds_toArray, List.set_cons_zero, List.set_cons_succ]
  refine anyK_take 3 (oi := ?oo36) ?ho36 (by kernel_rfl) (by kernel_rfl) (by kernel_rfl) (by kernel_rfl) ?hq36 ?hw36 hT0 (fun _ => trivial) (v := ?vv36) ?hy36 ?hk36
  case ho36 => (simp only [List.getElem?_toArray, List.getElem?_cons_succ, List.getElem?_cons_zero]; rfl)
  case hq36 => exact fun _ _ _ h => h
  case hw36 => rfl
  case hy36 =>
    intro W hW
    obtain ⟨z0, z1, z2, z3, z4, z5, z6, z7, z8, z9, z10, z11, z12, z13⟩ := hW
    go_simp
    first | done | with_reducible rfl
  case hk36 =>
  try simp only [Act.put, List.setIfInBounds_toArray, List.set_cons_zero, List.set_cons_succ]
  refine anyK_take 4 (oi := ?oo37) ?ho37 (by kernel_rfl) (by kernel_rfl) (by kernel_rfl) (by kernel_rfl) ?hq37 ?hw37 hT0 (fun _ => trivial) (v := ?vv37) ?hy37 ?hk37
  case ho37 => (simp only [List.getElem?_toArray, List.getElem?_cons_succ, List.getElem?_cons_zero]; rfl)
  case hq37 => exact fun _ _ _ h => h
  case hw37 => rfl
  case hy37 =>
    intro W hW
    go_simp
    first | done | with_reducible rfl
  case hk37 =>
  try simp only [Act.put, List.setIfInBounds_toArray, List.set_cons_zero, List.set_cons_succ]
  refine anyK_take 5 (oi := ?oo38) ?ho38 (by kernel_rfl) (by kernel_rfl) (by kernel_rfl) (by kernel_rfl) ?hq38 ?hw38 hT0 (fun _ => trivial) (v := ?vv38) ?hy38 ?hk38
  case ho38 => (simp only [List.getElem?_toArray, List.getElem?_cons_succ, List.getElem?_cons_zero]; rfl)
  case hq38 => exact fun _ _ _ h => h
  case hw38 => rfl
  case hy38 =>
    intro W hW
    go_simp
    first | done | with_reducible rfl
  case hk38 =>
  try simp only [Act.put, List.setIfInBounds_toArray, List.set_cons_zero, List.set_cons_succ]
  refine anyK_take 6 (oi := ?oo39) ?ho39 (by kernel_rfl) (by kernel_rfl) (by kernel_rfl) (by kernel_rfl) ?hq39 ?hw39 hT0 (fun _ => trivial) (v := ?vv39) ?hy39 ?hk39
  case ho39 => (simp only [List.getElem?_toArray, List.getElem?_cons_succ, List.getElem?_cons_zero]; rfl)
  case hq39 => exact fun _ _ _ h => h
  case hw39 => rfl
  case hy39 =>
    intro W hW
    go_simp
    first | done | with_reducible rfl
  case hk39 =>
  try simp only [Act.put, List.setIfInBounds_toArray, List.set_cons_zero, List.set_cons_succ]
  refine anyK_take 7 (oi := ?oo40) ?ho40 (by kernel_rfl) (by kernel_rfl) (by kernel_rfl) (by kernel_rfl) ?hq40 ?hw40 hT0 (fun _ => trivial) (v := ?vv40) ?hy40 ?hk40
  case ho40 => (simp only [List.getElem?_toArray, List.getElem?_cons_succ, List.getElem?_cons_zero]; rfl)
  case hq40 => exact fun _ _ _ h => h
  case hw40 => rfl
  case hy40 =>
    intro W hW
    go_simp
    first | done | with_reducible rfl
  case hk40 =>
  try simp only [Act.put, List.setIfInBounds_toArray, List.set_cons_zero, List.set_cons_succ]
  refine anyK_take 8 (oi := ?oo41) ?ho41 (by kernel_rfl) (by kernel_rfl) (by kernel_rfl) (by kernel_rfl) ?hq41 ?hw41 hT0 (fun _ => trivial) (v := ?vv41) ?hy41 ?hk41
  case ho41 => (simp only [List.getElem?_toArray, List.getElem?_cons_succ, List.getElem?_cons_zero]; rfl)
  case hq41 => exact fun _ _ _ h => h
  case hw41 => rfl
  case hy41 =>
    intro W hW
    go_simp
    first | done | with_reducible rfl
  case hk41 =>
  try simp only [Act.put, List.setIfInBounds_toArray, List.set_cons_zero, List.set_cons_succ]
  refine anyK_take 9 (oi := ?oo42) ?ho42 (by kernel_rfl) (by kernel_rfl) (by kernel_rfl) (by kernel_rfl) ?hq42 ?hw42 hT0 (fun _ => trivial) (v := ?vv42) ?hy42 ?hk42
  case ho42 => (simp only [List.getElem?_toArray, List.getElem?_cons_succ, List.getElem?_cons_zero]; rfl)
  case hq42 => exact fun _ _ _ h => h
  case hw42 => rfl
  case hy42 =>
    intro W hW
    obtain ⟨z0, z1, z2, z3, z4, z5, z6, z7, z8, z9, z10, z11, z12, z13⟩ := hW
    go_simp
    first | done | with_reducible rfl
  case hk42 =>
  try simp only [Act.put, List.setIfInBounds_toArray, List.set_cons_zero, List.set_cons_succ]
  refine anyK_take 10 (oi := ?oo43) ?ho43 (by kernel_rfl) (by kernel_rfl) (by kernel_rfl) (by kernel_rfl) ?hq43 ?hw43 hT0 (fun _ => trivial) (v := ?vv43) ?hy43 ?hk43
  case ho43 => (simp only [List.getElem?_toArray, List.getElem?_cons_succ, List.getElem?_cons_zero]; rfl)
  case hq43 => exact fun _ _ _ h => h
  case hw43 => rfl
  case hy43 =>
    intro W hW
    go_simp
    first | done | with_reducible rfl
  case hk43 =>
  try simp only [Act.put, List.setIfInBounds_toArray, List.set_cons_zero, List.set_cons_succ]
  refine anyK_take 11 (oi := ?oo44) ?ho44 (by kernel_rfl) (by kernel_rfl) (by kernel_rfl) (by kernel_rfl) ?hq44 ?hw44 hT0 (fun _ => trivial) (v := ?vv44) ?hy44 ?hk44
  case ho44 => (simp only [List.getElem?_toArray, List.getElem?_cons_succ, List.getElem?_cons_zero]; rfl)
  case hq44 => exact fun _ _ _ h => h
  case hw44 => rfl
  case hy44 =>
    intro W hW
    go_simp
    first | done | with_reducible rfl
  case hk44 =>
  try simp only [Act.put, List.setIfInBounds_toArray, List.set_cons_zero, List.set_cons_succ]
  refine anyK_take 12 (oi := ?oo45) ?ho45 (by kernel_rfl) (by kernel_rfl) (by kernel_rfl) (by kernel_rfl) ?hq45 ?hw45 hT0 (fun _ => trivial) (v := ?vv45) ?hy45 ?hk45
  case ho45 => (simp only [List.getElem?_toArray, List.getElem?_cons_succ, List.getElem?_cons_zero]; rfl)
  case hq45 => exact fun _ _ _ h => h
  case hw45 => rfl
  case hy45 =>
    intro W hW
    go_simp
    first | done | with_reducible rfl
  case hk45 =>
  try simp only [Act.put, List.setIfInBounds_toArray, List.set_cons_zero, List.set_cons_succ]
  refine anyK_take 13 (oi := ?oo46) ?ho46 (by kernel_rfl) (by kernel_rfl) (by kernel_rfl) (by kernel_rfl) ?hq46 ?hw46 hT0 (fun _ => trivial) (v := ?vv46) ?hy46 ?hk46
  case ho46 => (simp only [List.getElem?_toArray, List.getElem?_cons_succ, List.getElem?_cons_zero]; rfl)
  case hq46 => exact fun _ _ _ h => h
  case hw46 => rfl
  case hy46 =>
    intro W hW
    go_simp
    first | done | with_reducible rfl
  case hk46 =>
  try simp only [Act.put, List.setIfInBounds_toArray, List.set_cons_zero, List.set_cons_succ]
  refine anyK_take 14 (oi := ?oo47) ?ho47 (by kernel_rfl) (by kernel_rfl) (by kernel_rfl) (by kernel_rfl) ?hq47 ?hw47 hT0 (fun _ => trivial) (v := ?vv47) ?hy47 ?hk47
  case ho47 => (simp only [List.getElem?_toArray, List.getElem?_cons_succ, List.getElem?_cons_zero]; rfl)
  case hq47 => exact fun _ _ _ h => h
  case hw47 => rfl
  case hy47 =>
    intro W hW
    go_simp
    first | done | with_reducible rfl
  case hk47 =>
  try simp only [Act.put, List.setIfInBounds_toArray, List.set_cons_zero, List.set_cons_succ]
  refine anyK_take 15 (oi := ?oo48) ?ho48 (by kernel_rfl) (by kernel_rfl) (by kernel_rfl) (by kernel_rfl) ?hq48 ?hw48 hT0 (fun _ => trivial) (v := ?vv48) ?hy48 ?hk48
  case ho48 => (simp only [List.getElem?_toArray, List.getElem?_cons_succ, List.getElem?_cons_zero]; rfl)
  case hq48 => exact fun _ _ _ h => h
  case hw48 => rfl
  case hy48 =>
    intro W hW
    go_simp
    first | done | with_reducible rfl
  case hk48 =>
  try simp only [Act.put, List.setIfInBounds_toArray, List.set_cons_zero, List.set_cons_succ]
  refine anyK_take 16 (oi := ?oo49) ?ho49 (by kernel_rfl) (by kernel_rfl) (by kernel_rfl) (by kernel_rfl) ?hq49 ?hw49 hT0 (fun _ => trivial) (v := ?vv49) ?hy49 ?hk49
  case ho49 => (simp only [List.getElem?_toArray, List.getElem?_cons_succ, List.getElem?_cons_zero]; rfl)
  case hq49 => exact fun _ _ _ h => h
  case hw49 => rfl
  case hy49 =>
    intro W hW
    go_simp
    first | done | with_reducible rfl
  case hk49 =>
  try simp only [Act.put, List.setIfInBounds_toArray, List.set_cons_zero, List.set_cons_succ]
  refine anyK_take 17 (oi := ?oo50) ?ho50 (by kernel_rfl) (by kernel_rfl) (by kernel_rfl) (by kernel_rfl) ?hq50 ?hw50 hT0 (fun _ => trivial) (v := ?vv50) ?hy50 ?hk50
  case ho50 => (simp only [List.getElem?_toArray, List.getElem?_cons_succ, List.getElem?_cons_zero]; rfl)
  case hq50 => exact fun _ _ _ h => h
  case hw50 => rfl
  case hy50 =>
    intro W hW
    go_simp
    first | done | with_reducible rfl
  case hk50 =>
  try simp only [Act.put, List.setIfInBounds_toArray, List.set_cons_zero, List.set_cons_succ]
  refine anyK_take 18 (oi := ?oo51) ?ho51 (by kernel_rfl) (by kernel_rfl) (by kernel_rfl) (by kernel_rfl) ?hq51 ?hw51 hT0 (fun _ => trivial) (v := ?vv51) ?hy51 ?hk51
  case ho51 => (simp only [List.getElem?_toArray, List.getElem?_cons_succ, List.getElem?_cons_zero]; rfl)
  case hq51 => exact fun _ _ _ h => h
  case hw51 => rfl
  case hy51 =>
    intro W hW
    obtain ⟨z0, z1, z2, z3, z4, z5, z6, z7, z8, z9, z10, z11, z12, z13⟩ := hW
    go_simp
    first | done | with_reducible rfl
  case hk51 =>
  try simp only [Act.put, List.setIfInBounds_toArray, List.set_cons_zero, List.set_cons_succ]
  refine anyK_take 19 (oi := ?oo52) ?ho52 (by kernel_rfl) (by kernel_rfl) (by kernel_rfl) (by kernel_rfl) ?hq52 ?hw52 hT0 (fun _ => trivial) (v := ?vv52) ?hy52 ?hk52
  case ho52 => (simp only [List.getElem?_toArray, List.getElem?_cons_succ, List.getElem?_cons_zero]; rfl)
  case hq52 => exact fun _ _ _ h => h
  case hw52 => rfl
  case hy52 =>
    intro W hW
    go_simp
    first | done | with_reducible rfl
  case hk52 =>
  try simp only [Act.put, List.setIfInBounds_toArray, List.set_cons_zero, List.set_cons_succ]
  refine anyK_take 20 (oi := ?oo53) ?ho53 (by kernel_rfl) (by kernel_rfl) (by kernel_rfl) (by kernel_rfl) ?hq53 ?hw53 hT0 (fun _ => trivial) (v := ?vv53) ?hy53 ?hk53
  case ho53 => (simp only [List.getElem?_toArray, List.getElem?_cons_succ, List.getElem?_cons_zero]; rfl)
  case hq53 => exact fun _ _ _ h => h
  case hw53 => rfl
  case hy53 =>
    intro W hW
    obtain ⟨z0, z1, z2, z3, z4, z5, z6, z7, z8, z9, z10, z11, z12, z13⟩ := hW
    go_simp
    first | done | with_reducible rfl
  case hk53 =>
  try simp only [Act.put, List.setIfInBounds_toArray, List.set_cons_zero, List.set_cons_succ]
  refine anyK_take 21 (oi := ?oo54) ?ho54 (by kernel_rfl) (by kernel_rfl) (by kernel_rfl) (by kernel_rfl) ?hq54 ?hw54 hT0 (fun _ => trivial) (v := ?vv54) ?hy54 ?hk54
  case ho54 => (simp only [List.getElem?_toArray, List.getElem?_cons_succ, List.getElem?_cons_zero]; rfl)
  case hq54 => exact fun _ _ _ h => h
  case hw54 => rfl
  case hy54 =>
    intro W hW
    go_simp
    first | done | with_reducible rfl
  case hk54 =>
  try simp only [Act.put, List.setIfInBounds_toArray, List.set_cons_zero, List.set_cons_succ]
  refine anyK_take 22 (oi := ?oo55) ?ho55 (by kernel_rfl) (by kernel_rfl) (by kernel_rfl) (by kernel_rfl) ?hq55 ?hw55 hT0 (fun _ => trivial) (v := ?vv55) ?hy55 ?hk55
  case ho55 => (simp only [List.getElem?_toArray, List.getElem?_cons_succ, List.getElem?_cons_zero]; rfl)
  case hq55 => exact fun _ _ _ h => h
  case hw55 => rfl
  case hy55 =>
    intro W hW
    go_simp
    first | done | with_reducible rfl
  case hk55 =>
  try simp only [Act.put, List.setIfInBounds_toArray, List.set_cons_zero, List.set_cons_succ]
  refine anyK_take 23 (oi := ?oo56) ?ho56 (by kernel_rfl) (by kernel_rfl) (by kernel_rfl) (by kernel_rfl) ?hq56 ?hw56 hT0 (fun _ => trivial) (v := ?vv56) ?hy56 ?hk56
  case ho56 => (simp only [List.getElem?_toArray, List.getElem?_cons_succ, List.getElem?_cons_zero]; rfl)
  case hq56 => exact fun _ _ _ h => h
  case hw56 => rfl
  case hy56 =>
    intro W hW
    go_simp
    first | done | with_reducible rfl
  case hk56 =>
  try simp only [Act.put, List.setIfInBounds_toArray, List.set_cons_zero, List.set_cons_succ]
  refine anyK_take 24 (oi := ?oo57) ?ho57 (by kernel_rfl) (by kernel_rfl) (by kernel_rfl) (by kernel_rfl) ?hq57 ?hw57 hT0 (fun _ => trivial) (v := ?vv57) ?hy57 ?hk57
  case ho57 => (simp only [List.getElem?_toArray, List.getElem?_cons_succ, List.getElem?_cons_zero]; rfl)
  case hq57 => exact fun _ _ _ h => h
  case hw57 => rfl
  case hy57 =>
    intro W hW
    go_simp
    first | done | with_reducible rfl
  case hk57 =>
  try simp only [Act.put, List.setIfInBounds_toArray, List.set_cons_zero, List.set_cons_succ]
  refine anyK_take 25 (oi := ?oo58) ?ho58 (by kernel_rfl) (by kernel_rfl) (by kernel_rfl) (by kernel_rfl) ?hq58 ?hw58 hT0 (fun _ => trivial) (v := ?vv58) ?hy58 ?hk58
  case ho58 => (simp only [List.getElem?_toArray, List.getElem?_cons_succ, List.getElem?_cons_zero]; rfl)
  case hq58 => exact fun _ _ _ h => h
  case hw58 => rfl
  case hy58 =>
    intro W hW
    go_simp
    first | done | with_reducible rfl
  case hk58 =>
  try simp only [Act.put, List.setIfInBounds_toArray, List.set_cons_zero, List.set_cons_succ]
  refine anyK_take 26 (oi := ?oo59) ?ho59 (by kernel_rfl) (by kernel_rfl) (by kernel_rfl) (by kernel_rfl) ?hq59 ?hw59 hT0 (fun _ => trivial) (v := ?vv59) ?hy59 ?hk59
  case ho59 => (simp only [List.getElem?_toArray, List.getElem?_cons_succ, List.getElem?_cons_zero]; rfl)
  case hq59 => exact fun _ _ _ h => h
  case hw59 => rfl
  case hy59 =>
    intro W hW
    go_simp
    first | done | with_reducible rfl
  case hk59 =>
  try simp only [Act.put, List.setIfInBounds_toArray, List.set_cons_zero, List.set_cons_succ]
  refine anyK_take 27 (oi := ?oo60) ?ho60 (by kernel_rfl) (by kernel_rfl) (by kernel_rfl) (by kernel_rfl) ?hq60 ?hw60 hT0 (fun _ => trivial) (v := ?vv60) ?hy60 ?hk60
  case ho60 => (simp only [List.getElem?_toArray, List.getElem?_cons_succ, List.getElem?_cons_zero]; rfl)
  case hq60 => exact fun _ _ _ h => h
  case hw60 => rfl
  case hy60 =>
    intro W hW
    obtain ⟨z0, z1, z2, z3, z4, z5, z6, z7, z8, z9, z10, z11, z12, z13⟩ := hW
    go_simp
    first | done | with_reducible rfl
  case hk60 =>
  try simp only [Act.put, List.setIfInBounds_toArray, List.set_cons_zero, List.set_cons_succ]
  refine anyK_take 28 (oi := ?oo61) ?ho61 (by kernel_rfl) (by kernel_rfl) (by kernel_rfl) (by kernel_rfl) ?hq61 ?hw61 hT0 (fun _ => trivial) (v := ?vv61) ?hy61 ?hk61
  case ho61 => (simp only [List.getElem?_toArray, List.getElem?_cons_succ, List.getElem?_cons_zero]; rfl)
  case hq61 => exact fun _ _ _ h => h
  case hw61 => rfl
  case hy61 =>
    intro W hW
    obtain ⟨z0, z1, z2, z3, z4, z5, z6, z7, z8, z9, z10, z11, z12, z13⟩ := hW
    go_simp
    first | done | with_reducible rfl
  case hk61 =>
  try simp only [Act.put, List.setIfInBounds_toArray, List.set_cons_zero, List.set_cons_succ]
  refine anyK_on1 29 (by kernel_rfl) ?_
  refine anyK_one 29 (o := ?oo62) ?ho62 ?hk62
  case ho62 => (simp only [List.getElem?_toArray, List.getElem?_cons_succ, List.getElem?_cons_zero]; rfl)
  case hk62 =>
  intro K hK
  go_simp
  refine (HSM.out _ (ext_trans X3.out yy)).mono ?_
  rintro e w4 ⟨rfl, xx⟩
  try go_wp2_with fail
  replace yy := ext_trans yy xx
  have hT1 := keepK.out _ yy
  refine hK.out _ _ hT1 (fun _ => trivial) ?_
  clear hK K
  try simp only [Act.put, List.setIfInBounds_toArray, List.set_cons_zero, List.set_cons_succ]
  refine anyK_take 30 (oi := ?oo63) ?ho63 (by kernel_rfl) (by kernel_rfl) (by kernel_rfl) (by kernel_rfl) ?hq63 ?hw63 hT1 (fun _ => trivial) (v := ?vv63) ?hy63 ?hk63
  case ho63 => (simp only [List.getElem?_toArray, List.getElem?_cons_succ, List.getElem?_cons_zero]; rfl)
  case hq63 => exact fun _ _ _ h => h
  case hw63 => rfl
  case hy63 =>
    intro W hW
    go_simp
    first | done | with_reducible rfl
  case hk63 =>
  try simp only [Act.put, List.setIfInBounds_toArray, List.set_cons_zero, List.set_cons_succ]
  refine anyK_take 31 (oi := ?oo64) ?ho64 (by kernel_rfl) (by kernel_rfl) (by kernel_rfl) (by kernel_rfl) ?hq64 ?hw64 hT1 (fun _ => trivial) (v := ?vv64) ?hy64 ?hk64
  case ho64 => (simp only [List.getElem?_toArray, List.getElem?_cons_succ, List.getElem?_cons_zero]; rfl)
  case hq64 => exact fun _ _ _ h => h
  case hw64 => rfl
  case hy64 =>
    intro W hW
    go_simp
    first | done | with_reducible rfl
  case hk64 =>
  try simp only [Act.put, List.setIfInBounds_toArray, List.set_cons_zero, List.set_cons_succ]
  refine anyK_done (by kernel_rfl) ?_ _
  clear keepK hT0 hT1
  have HG4 := hide ((HG.out.ext X3.out).ext yy)
  have X4 := hide (ext_trans X3.out yy)
  have F4 := hide (StoreAt.fnd HG4.out)
  obtain ⟨g12, gz, gne⟩ := F4.out
  have h7 := yy.cell C7.out
  obtain ⟨f', hf'⟩ : ∃ f', IntKind.i64.wrap (f + 1) = f' := ⟨_, rfl⟩
  have hf2 : wrap64 (f + 1) = f' := by rw [← hf', IntKind.wrap_i64]; unfold wrap64; rfl
  clear yy
  go_wp2
  obtain ⟨S9, F9⟩ := StoreAt.hit HG4.out f'
  go_ret2
  exact ⟨rfl, by rw [hf']; exact S9, (SFr.of_ext X4.out).trans F9⟩
theorem sget_no {w0 w : World} {BS g : Nat} {R : RulesM} {f : Int} {L : List (Option SlotM)} {P : PosM} {u : Value} {D : Int} (hG : StoreAt w0 w BS g R f L) (hn : 0 < L.length) (hl : L.length ≤ 4096) (hP : PosAt w u P) (hV : Valid R) (hS : Sound R P) (hSS : SoundS R L) (hb : hasB (L.getD (slotI P L.length) none) P D = false) :
    Calls Tryz.prog 35 #[.pointer (some ⟨BS, 0, none⟩), u, .int .i64 D] w fun e w' => e = .returned (.tuple #[.int .i64 0, .bool false]) ∧ Ext w w' := by
  cases hx : L.getD (slotI P L.length) none with
  | none => exact sget_new hG hn hl hP hV hS hx
  | some y =>
    rw [hx] at hb
    by_cases hd : y.depth = D
    · by_cases hq : y.pos.quiet = P.quiet
      · refine sget_diff hG hn hl hP hV hS hSS hx hd hq ?_
        have e : hasB (some y) P D = (decide (y.depth = D) && (decide (y.pos.quiet = P.quiet) && sameB y.pos P)) := rfl
        rw [e, decide_eq_true hd, decide_eq_true hq, Bool.true_and, Bool.true_and] at hb
        exact hb
      · exact sget_quiet hG hn hl hP hV hS hx hd hq
    · exact sget_depth hG hn hl hP hV hS hx hd
theorem sget_yes {w0 w : World} {BS g : Nat} {R : RulesM} {f : Int} {L : List (Option SlotM)} {P : PosM} {u : Value} {D : Int} (hG : StoreAt w0 w BS g R f L) (hn : 0 < L.length) (hl : L.length ≤ 4096) (hP : PosAt w u P) (hV : Valid R) (hS : Sound R P) (hSS : SoundS R L) (hb : hasB (L.getD (slotI P L.length) none) P D = true) :
    Calls Tryz.prog 35 #[.pointer (some ⟨BS, 0, none⟩), u, .int .i64 D] w (SHitPost w0 w BS g R f L (scoreS (L.getD (slotI P L.length) none))) := by
  cases hx : L.getD (slotI P L.length) none with
  | none => rw [hx] at hb; cases hb
  | some y =>
    rw [hx] at hb
    have e : hasB (some y) P D = (decide (y.depth = D) && (decide (y.pos.quiet = P.quiet) && sameB y.pos P)) := rfl
    rw [e] at hb
    simp only [Bool.and_eq_true, decide_eq_true_eq] at hb
    exact sget_hit hG hn hl hP hV hS hSS hx hb.1 hb.2.1 hb.2.2

end Go.Proofs.YtfkcigekbgkcmaaGreat
namespace Go.Proofs.YtfkcigekbgkcmaaGreat
open Go.ChangeShapes Go.WideShapes Go.ChangeAt Go.RowKit Go.Shelf
set_option linter.unusedVariables false
set_option linter.unusedSimpArgs false
set_option maxHeartbeats 4000000 in
set_option maxRecDepth 100000 in
theorem sPut_no {w0 w : World} {BS g : Nat} {R : RulesM} {f : Int} {L : List (Option SlotM)} {P : PosM} {u : Value} {D s : Int} (hG : StoreAt w0 w BS g R f L) (hn : 0 < L.length) (hl : L.length ≤ 4096) (hP : PosAt w u P) (he : chkE R P D ≠ 0) :
    Calls Tryz.prog 16 #[.pointer (some ⟨BS, 0, none⟩), u, .int .i64 D, .int .i64 s] w fun e w' => e = .returned (.int .i64 (chkE R P D)) ∧ Ext w w' := by
  have HCK := hide (fun W (h : Ext w W) => schk_any (D := D) (hG.ext h) (hP.ext h))
  have t0 : (chkE R P D != 0) = true := by simpa using he
  clear he
  generalize chkE R P D = E at *
  obtain ⟨cA, cc, aA, ac, bA, bc, rfl, -⟩ := id hP
  obtain ⟨x1, k1⟩ := blks1 w #[.slice cA P.cells.length cc, .slice aA P.hand0.length ac, .slice bA P.hand1.length bc, .int .i64 P.turn, .int .i64 P.quiet] 29
  have X1 := hide x1
  have KP := hide k1
  clear k1 x1 hP hG hn hl
  have f1 := KP.out.cell
  go_enter Tryz.func16, Tryz.ntmps16
  go_wp2_with fail
  refine (HCK.out _ X1.out).mono ?_
  rintro e w3 ⟨rfl, x3⟩
  have KP3 := hide (KP.out.ext x3)
  have X3 := hide (ext_trans X1.out x3)
  clear f1 x3 X1 KP HCK
  go_wp2
  go_ret
  exact ⟨rfl, X3.out⟩
def SPutOk (w0 w : World) (BS g : Nat) (R : RulesM) (f : Int) (L : List (Option SlotM)) (e : Ending) (w' : World) : Prop := e = .returned (.int .i64 0) ∧ StoreAt w0 w' BS g R f L ∧ SFr BS w w'
set_option maxHeartbeats 4000000 in
set_option maxRecDepth 100000 in
theorem sPut_yes {w0 w : World} {BS g : Nat} {R : RulesM} {f : Int} {L : List (Option SlotM)} {P : PosM} {u : Value} {D s : Int} (hG : StoreAt w0 w BS g R f L) (hn : 0 < L.length) (hl : L.length ≤ 4096) (hP : PosAt w u P) (he : chkE R P D = 0) (hs0 : -1000 ≤ s) (hs1 : s ≤ 1000) :
    Calls Tryz.prog 16 #[.pointer (some ⟨BS, 0, none⟩), u, .int .i64 D, .int .i64 s] w (SPutOk w0 w BS g R f (putS L P D s)) := by
  have HCK := hide (fun W (h : Ext w W) => schk_any (D := D) (hG.ext h) (hP.ext h))
  obtain ⟨hce, -, -⟩ := chk_zero he
  obtain ⟨hV, hS⟩ := check_iff.1 hce
  rw [he] at HCK
  have HPT := hide (fun W (h : Ext w W) => sput_any (D := D) (s := s) (hG.ext h) hn hl (hP.ext h) hV hS)
  have t0 : decide (s < -1000) = false := decide_eq_false (by omega)
  have t1 : decide (1000 < s) = false := decide_eq_false (by omega)
  unfold SPutOk
  clear hV hS
  clear he hce
  obtain ⟨cA, cc, aA, ac, bA, bc, rfl, -⟩ := id hP
  obtain ⟨x1, k1⟩ := blks1 w #[.slice cA P.cells.length cc, .slice aA P.hand0.length ac, .slice bA P.hand1.length bc, .int .i64 P.turn, .int .i64 P.quiet] 29
  have X1 := hide x1
  have KP := hide k1
  clear k1 x1 hP hG hn hl
  have f1 := KP.out.cell
  go_enter Tryz.func16, Tryz.ntmps16
  go_wp2_with fail
  refine (HCK.out _ X1.out).mono ?_
  rintro e w3 ⟨rfl, x3⟩
  have KP3 := hide (KP.out.ext x3)
  have X3 := hide (ext_trans X1.out x3)
  clear f1 x3 X1 KP HCK
  have f1 := KP3.out.cell
  go_wp2_with fail
  refine (HPT.out _ X3.out).mono ?_
  rintro e w4 ⟨rfl, S4, F4⟩
  have SH := hide S4
  have FH := hide F4
  clear S4 F4 f1 HPT
  go_wp2
  go_ret
  exact ⟨rfl, SH.out, (SFr.of_ext X3.out).trans FH.out⟩
set_option maxHeartbeats 4000000 in
set_option maxRecDepth 100000 in
theorem sGet_no {w0 w : World} {BS g : Nat} {R : RulesM} {f : Int} {L : List (Option SlotM)} {P : PosM} {u : Value} {D : Int} (hG : StoreAt w0 w BS g R f L) (hn : 0 < L.length) (hl : L.length ≤ 4096) (hP : PosAt w u P) (he : chkE R P D ≠ 0) :
    Calls Tryz.prog 18 #[.pointer (some ⟨BS, 0, none⟩), u, .int .i64 D] w fun e w' => e = .returned (.tuple #[.int .i64 0, .int .i64 (chkE R P D)]) ∧ Ext w w' := by
  have HCK := hide (fun W (h : Ext w W) => schk_any (D := D) (hG.ext h) (hP.ext h))
  have t0 : (chkE R P D != 0) = true := by simpa using he
  clear he
  generalize chkE R P D = E at *
  obtain ⟨cA, cc, aA, ac, bA, bc, rfl, -⟩ := id hP
  obtain ⟨x1, k1⟩ := blks1 w #[.slice cA P.cells.length cc, .slice aA P.hand0.length ac, .slice bA P.hand1.length bc, .int .i64 P.turn, .int .i64 P.quiet] 29
  have X1 := hide x1
  have KP := hide k1
  clear k1 x1 hP hG hn hl
  have f1 := KP.out.cell
  go_enter Tryz.func18, Tryz.ntmps18
  go_wp2_with fail
  refine (HCK.out _ X1.out).mono ?_
  rintro e w3 ⟨rfl, x3⟩
  have KP3 := hide (KP.out.ext x3)
  have X3 := hide (ext_trans X1.out x3)
  clear f1 x3 X1 KP HCK
  go_wp2
  go_ret2
  exact ⟨rfl, X3.out⟩
set_option maxHeartbeats 4000000 in
set_option maxRecDepth 100000 in
theorem sGet_none {w0 w : World} {BS g : Nat} {R : RulesM} {f : Int} {L : List (Option SlotM)} {P : PosM} {u : Value} {D : Int} (hG : StoreAt w0 w BS g R f L) (hn : 0 < L.length) (hl : L.length ≤ 4096) (hP : PosAt w u P) (he : chkE R P D = 0) (hSS : SoundS R L) (hb : hasB (L.getD (slotI P L.length) none) P D = false) :
    Calls Tryz.prog 18 #[.pointer (some ⟨BS, 0, none⟩), u, .int .i64 D] w fun e w' => e = .returned (.tuple #[.int .i64 0, .int .i64 8]) ∧ Ext w w' := by
  have HCK := hide (fun W (h : Ext w W) => schk_any (D := D) (hG.ext h) (hP.ext h))
  obtain ⟨hce, -, -⟩ := chk_zero he
  obtain ⟨hV, hS⟩ := check_iff.1 hce
  rw [he] at HCK
  have HGT := hide (fun W (h : Ext w W) => sget_no (D := D) (hG.ext h) hn hl (hP.ext h) hV hS hSS hb)
  clear hV hS hSS hb
  clear he hce
  obtain ⟨cA, cc, aA, ac, bA, bc, rfl, -⟩ := id hP
  obtain ⟨x1, k1⟩ := blks1 w #[.slice cA P.cells.length cc, .slice aA P.hand0.length ac, .slice bA P.hand1.length bc, .int .i64 P.turn, .int .i64 P.quiet] 29
  have X1 := hide x1
  have KP := hide k1
  clear k1 x1 hP hG hn hl
  have f1 := KP.out.cell
  go_enter Tryz.func18, Tryz.ntmps18
  go_wp2_with fail
  refine (HCK.out _ X1.out).mono ?_
  rintro e w3 ⟨rfl, x3⟩
  have KP3 := hide (KP.out.ext x3)
  have X3 := hide (ext_trans X1.out x3)
  clear f1 x3 X1 KP HCK
  have f1 := KP3.out.cell
  go_wp2_with fail
  refine (HGT.out _ X3.out).mono ?_
  rintro e w4 ⟨rfl, x4⟩
  have X4 := hide (ext_trans X3.out x4)
  clear f1 x4 HGT
  go_wp2
  go_ret2
  exact ⟨rfl, X4.out⟩
def SGetOk (w0 w : World) (BS g : Nat) (R : RulesM) (f : Int) (L : List (Option SlotM)) (z : Int) (e : Ending) (w' : World) : Prop := e = .returned (.tuple #[.int .i64 z, .int .i64 0]) ∧ StoreAt w0 w' BS g R (IntKind.i64.wrap (f + 1)) L ∧ SFr BS w w'
set_option maxHeartbeats 4000000 in
set_option maxRecDepth 100000 in
theorem sGet_yes {w0 w : World} {BS g : Nat} {R : RulesM} {f : Int} {L : List (Option SlotM)} {P : PosM} {u : Value} {D : Int} (hG : StoreAt w0 w BS g R f L) (hn : 0 < L.length) (hl : L.length ≤ 4096) (hP : PosAt w u P) (he : chkE R P D = 0) (hSS : SoundS R L) (hb : hasB (L.getD (slotI P L.length) none) P D = true) :
    Calls Tryz.prog 18 #[.pointer (some ⟨BS, 0, none⟩), u, .int .i64 D] w (SGetOk w0 w BS g R f L (scoreS (L.getD (slotI P L.length) none))) := by
  have HCK := hide (fun W (h : Ext w W) => schk_any (D := D) (hG.ext h) (hP.ext h))
  obtain ⟨hce, -, -⟩ := chk_zero he
  obtain ⟨hV, hS⟩ := check_iff.1 hce
  rw [he] at HCK
  have HGT := hide (fun W (h : Ext w W) => sget_yes (D := D) (hG.ext h) hn hl (hP.ext h) hV hS hSS hb)
  unfold SGetOk
  generalize scoreS (L.getD (slotI P L.length) none) = z at *
  clear hV hS hSS hb
  clear he hce
  obtain ⟨cA, cc, aA, ac, bA, bc, rfl, -⟩ := id hP
  obtain ⟨x1, k1⟩ := blks1 w #[.slice cA P.cells.length cc, .slice aA P.hand0.length ac, .slice bA P.hand1.length bc, .int .i64 P.turn, .int .i64 P.quiet] 29
  have X1 := hide x1
  have KP := hide k1
  clear k1 x1 hP hG hn hl
  have f1 := KP.out.cell
  go_enter Tryz.func18, Tryz.ntmps18
  go_wp2_with fail
  refine (HCK.out _ X1.out).mono ?_
  rintro e w3 ⟨rfl, x3⟩
  have KP3 := hide (KP.out.ext x3)
  have X3 := hide (ext_trans X1.out x3)
  clear f1 x3 X1 KP HCK
  have f1 := KP3.out.cell
  go_wp2_with fail
  refine (HGT.out _ X3.out).mono ?_
  rintro e w4 ⟨rfl, S4, F4⟩
  have SH := hide S4
  have FH := hide F4
  clear S4 F4 f1 HGT
  go_wp2
  go_ret2
  exact ⟨rfl, SH.out, (SFr.of_ext X3.out).trans FH.out⟩
set_option maxHeartbeats 1000000 in
theorem sFound_any {w0 w : World} {BS g : Nat} {R : RulesM} {f : Int} {L : List (Option SlotM)} (hG : StoreAt w0 w BS g R f L) :
    Calls Tryz.prog 19 #[.pointer (some ⟨BS, 0, none⟩)] w fun e w' => e = .returned (.int .i64 f) ∧ Ext w w' := by
  obtain ⟨h12, -, -⟩ := hG.fnd
  go_enter Tryz.func19, Tryz.ntmps19
  go_wp2
  go_ret
  exact ⟨rfl, Below.refl _ _⟩
/-- The number of used slots. -/
def usedN (L : List (Option SlotM)) : Nat := (L.filter Option.isSome).length
theorem usedN_le (L : List (Option SlotM)) : usedN L ≤ L.length := List.length_filter_le _ _
theorem usedN_take {L : List (Option SlotM)} {k : Nat} {x : Option SlotM} (h : L[k]? = some x) : usedN (L.take (k + 1)) = usedN (L.take k) + if x.isSome = true then 1 else 0 := by
  unfold usedN
  rw [List.take_add_one, h, List.filter_append, List.length_append]
  cases x <;> simp
theorem slot_is {w0 w : World} {BS g : Nat} {R : RulesM} {f : Int} {L : List (Option SlotM)} {k : Nat} {x : Option SlotM} (h : StoreAt w0 w BS g R f L) (hx : L[k]? = some x) :
    ∃ A0 n0 k0 A1 n1 k1 A2 n2 k2 t q d s, w.cell? ⟨g, k * 8, none⟩ = some (.bool x.isSome) ∧ w.cell? ⟨g, k * 8 + 1, none⟩ = some (.slice A0 n0 k0) ∧ w.cell? ⟨g, k * 8 + 2, none⟩ = some (.slice A1 n1 k1) ∧ w.cell? ⟨g, k * 8 + 3, none⟩ = some (.slice A2 n2 k2) ∧
      w.cell? ⟨g, k * 8 + 4, none⟩ = some (.int .i64 t) ∧ w.cell? ⟨g, k * 8 + 5, none⟩ = some (.int .i64 q) ∧ w.cell? ⟨g, k * 8 + 6, none⟩ = some (.int .i64 d) ∧ w.cell? ⟨g, k * 8 + 7, none⟩ = some (.int .i64 s) := by
  obtain ⟨pA, pc, sA, sc, eA, ec, base, cs, kS, ro, kg, hcs, hsl, -⟩ := h
  obtain ⟨b, A0, n0, k0, A1, n1, k1, A2, n2, k2, t, q, d, s, h0, h1, h2, h3, h4, h5, h6, h7, h8⟩ := hsl k _ hx
  have e : b = x.isSome := by
    cases x with
    | none => exact h8
    | some y => exact h8.1
  subst e
  exact ⟨A0, n0, k0, A1, n1, k1, A2, n2, k2, t, q, d, s, h0, h1, h2, h3, h4, h5, h6, h7⟩
theorem StoreAt.sl {w0 w : World} {BS g : Nat} {R : RulesM} {f : Int} {L : List (Option SlotM)} (h : StoreAt w0 w BS g R f L) : w.cell? ⟨BS, 11, none⟩ = some (.slice (some ⟨g, 0, none⟩) L.length L.length) := by
  obtain ⟨pA, pc, sA, sc, eA, ec, base, cs, kS, -⟩ := h
  exact kS.cell 11
set_option maxHeartbeats 2000000 in
set_option maxRecDepth 100000 in
theorem sLen_any {w0 w : World} {BS g : Nat} {R : RulesM} {f : Int} {L : List (Option SlotM)} (hG : StoreAt w0 w BS g R f L) (hl : L.length ≤ 4096) :
    Calls Tryz.prog 11 #[.pointer (some ⟨BS, 0, none⟩)] w fun e w' => e = .returned (.int .i64 (usedN L)) ∧ Ext w w' := by
  have HG := hide hG
  have f11 := hG.sl
  clear hG
  go_enter Tryz.func11, Tryz.ntmps11
  go_wp2
  clear f11
  go_loopw [3, 11] (fun n i wr => ∃ k : Nat, k ≤ L.length ∧ i = .int .i64 k ∧ n = .int .i64 (usedN (L.take k)) ∧ Ext w wr) (fun _ i _ => L.length - (intOf i).toNat)
  case atStart => exact ⟨0, Nat.zero_le _, rfl, rfl, Below.refl _ _⟩
  case round =>
    obtain ⟨k, hk, rfl, rfl, xr⟩ := hrel
    have XR := hide xr
    clear xr
    by_cases hlt : k < L.length
    · obtain ⟨x, hx⟩ : ∃ x, L[k]? = some x := ⟨L[k], List.getElem?_eq_getElem _⟩
      obtain ⟨A0, n0, k0, A1, n1, k1, A2, n2, k2, t, q, d, s, h0, h1, h2, h3, h4, h5, h6, h7⟩ := slot_is (HG.out.ext XR.out) hx
      have HU := hide (usedN_take hx)
      have hub := usedN_le (L.take k)
      have hub2 : (L.take k).length ≤ k := List.length_take_le _ _
      have hub3 : (usedN (L.take k) : Int) ≤ 4096 := by omega
      clear hx hub hub2
      generalize usedN (L.take k) = m at *
      generalize x.isSome = b at *
      go_upto_region 5 with fail
      obtain ⟨x5, k5⟩ := blks1 wr #[.bool b, .slice A0 n0 k0, .slice A1 n1 k1, .slice A2 n2 k2, .int .i64 t, .int .i64 q, .int .i64 d, .int .i64 s] 67
      have X5 := hide (ext_trans XR.out x5)
      have g5 := k5.cell
      clear h0 h1 h2 h3 h4 h5 h6 h7 x5 k5
      generalize wr.alloc (.cells #[.bool b, .slice A0 n0 k0, .slice A1 n1 k1, .slice A2 n2 k2, .int .i64 t, .int .i64 q, .int .i64 d, .int .i64 s] 67) = w5 at *
      generalize wr.heap.size = BZ at *
      cases b
      · go_wp2
        go_roundw
        case rel => exact ⟨k + 1, by omega, by go_num, by rw [HU.out]; rfl, X5.out⟩
        case measure => simp [intOf]; omega
      · go_wp2
        go_roundw
        case rel => exact ⟨k + 1, by omega, by go_num, by rw [HU.out]; simp, X5.out⟩
        case measure => simp [intOf]; omega
    · obtain rfl : k = L.length := by omega
      have hub := usedN_le L
      rw [List.take_length]
      go_wp2
      go_ret
      exact ⟨rfl, XR.out⟩

end Go.Proofs.YtfkcigekbgkcmaaGreat
