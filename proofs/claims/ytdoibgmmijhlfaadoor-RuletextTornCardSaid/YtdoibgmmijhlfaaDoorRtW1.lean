/- Walk: reader.next, reader.must. -/
import Derived.Test.YtdoibgmmijhlfaaDoorGTxtD
import Derived.Test.YtdoibgmmijhlfaaDoorGRtB
import Derived.Test.YtdoibgmmijhlfaaDoorIRow
namespace Go.Proofs.YtdoibgmmijhlfaaDoor
open Go.RowKit
set_option linter.unusedVariables false
set_option linter.unusedSimpArgs false
/-- A slice of strings, apart from block g. -/
def LinesAt (w : World) (g : Nat) (A : Option Addr) (c : Nat) (L : List BL) : Prop := CellsAt w A (strsC L) ∧ L.length ≤ c ∧ (A = none → L.length = 0) ∧ ∀ a, A = some a → a.block ≠ g
theorem cells_kept {w w' : World} {g : Nat} {A : Option Addr} {vs : List Value} (h : CellsAt w A vs) (hg : w.grownBy w' (some g)) (hA : ∀ a, A = some a → a.block ≠ g) : CellsAt w' A vs := fun i v hi => by
  obtain ⟨b, o, rfl, hc⟩ := h i v hi
  exact ⟨b, o, rfl, hg.cell hc (fun e => hA _ rfl (by injection e))⟩
theorem LinesAt.kept {w w' : World} {g : Nat} {A : Option Addr} {c : Nat} {L : List BL} (h : LinesAt w g A c L) (hg : w.grownBy w' (some g)) : LinesAt w' g A c L := ⟨cells_kept h.1 hg h.2.2.2, h.2⟩
theorem LinesAt.ext {w w' : World} {g : Nat} {A : Option Addr} {c : Nat} {L : List BL} (h : LinesAt w g A c L) (x : Ext w w') : LinesAt w' g A c L := ⟨h.1.ext x, h.2⟩
theorem grown_of_ext {w w' : World} (x : Ext w w') (r : Option Nat) : w.grownBy w' r := ⟨x.os, x.tape, x.output, x.size, fun b hb _ => x.block b hb⟩
theorem grown_trans {a b c : World} {r : Option Nat} (h : a.grownBy b r) (k : b.grownBy c r) : a.grownBy c r := ⟨k.os.trans h.os, k.tape.trans h.tape, k.output.trans h.output, Nat.le_trans h.size k.size, fun i hi hr => (k.block i (Nat.lt_of_lt_of_le hi h.size) hr).trans (h.block i hi hr)⟩
theorem grown_set {a b : World} {g : Nat} (h : a.grownBy b (some g)) (i : Nat) (u : Value) : a.grownBy (b.setCell ⟨g, i, none⟩ u) (some g) := ⟨h.os, h.tape, h.output, by have := h.size; simpa using this, fun k hk hr => (Below.heap_setCell b ⟨g, i, none⟩ u k (fun e => hr (by rw [e]))).trans (h.block k hk hr)⟩
theorem lib_grown {w w' : World} {g : Nat} (h : LibW w) (k : w.grownBy w' (some g)) (hg : 4 ≤ g) : LibW w' := by
  refine ⟨?_, ?_, ?_, ?_⟩
  · obtain ⟨m, hm⟩ := h.max
    exact ⟨m, k.cell hm (by simp; omega)⟩
  · obtain ⟨ev, h1, h2⟩ := h.syn
    exact ⟨ev, k.cell h1 (by simp; omega), h2⟩
  · obtain ⟨ev, h1, h2⟩ := h.rng
    exact ⟨ev, k.cell h1 (by simp; omega), h2⟩
  · have ht := h.tab
    have hc := ht.cell gPow 0 (by decide)
    have hlt := lt_of_cell hc
    unfold Lib.TabIs World.var? at ht ⊢
    rw [gPow] at ht ⊢
    simp only [Option.bind_some] at ht ⊢
    rw [k.block 3 hlt (by simp; omega)]
    exact ht
/-- reader.next on its lines. -/
def nextL (word : BL) (n : Nat) (L : List BL) : Option (List BL × List BL) := match L with
  | [] => none
  | l :: ls => if (splitL 32 l).getD 0 [] = word ∧ (splitL 32 l).length = n + 1 then some ((splitL 32 l).tail, ls) else none
theorem next_of (word : BL) (n : Nat) (x : RdM) : nextR word n x = (nextL word n x.lines).map fun p => (p.1, { x with lines := p.2 }) := by
  unfold nextR nextL
  cases x.lines with
  | nil => rfl
  | cons l ls =>
    simp only
    split <;> rfl
abbrev RT : TypeId := 79
/-- What reader.next promises. -/
def NextPost (word : BL) (n g : Nat) (c1 c2 c3 c4 c5 c6 c7 c8 c9 c10 c11 c12 c13 : Value) (A0 : Option Addr) (L : List BL) (w : World) (e : Ending) (w' : World) : Prop :=
  (nextL word n L = none ∧ e = .returned (.tuple #[.slice none 0 0, .bool false]) ∧ Ext w w') ∨
  ∃ l ls A c B d, nextL word n L = some (l, ls) ∧ l.length = n ∧ e = .returned (.tuple #[.slice A n c, .bool true]) ∧ LinesAt w' g A c l ∧ LinesAt w' g B d ls ∧ Blk w' g RT #[.slice B ls.length d, c1, c2, c3, c4, c5, c6, c7, c8, c9, c10, c11, c12, c13] ∧ w.grownBy w' (some g) ∧ (∀ a, A = some a → w.heap.size ≤ a.block) ∧ (∀ a b, A0 = some a → B = some b → b.block = a.block)
theorem lines_tail {w : World} {g b o c n : Nat} {l : BL} {L : List BL} (h : LinesAt w g (some ⟨b, o, none⟩) c (l :: L)) : LinesAt w g (if c - 1 = 0 then some ⟨b, o, none⟩ else some ⟨b, o + 1, none⟩) (c - 1) L := by
  obtain ⟨h1, h2, -, h4⟩ := h
  rw [List.length_cons] at h2
  refine ⟨fun i v hi => ?_, by omega, fun h => (by split at h <;> cases h), fun a ha => ?_⟩
  · have hL : i < L.length := by
      have := (List.getElem?_eq_some_iff.1 hi).1
      rw [strsC_len] at this
      exact this
    obtain ⟨b', o', e, hc⟩ := h1 (i + 1) v (by unfold strsC; rw [List.map_cons, List.getElem?_cons_succ]; exact hi)
    injection e with e
    injection e with e1 e2
    subst e1 e2
    rw [if_neg (by omega)]
    exact ⟨b, o + 1, rfl, by rw [show o + 1 + i = o + (i + 1) by omega]; exact hc⟩
  · split at ha
    · exact h4 a ha
    · injection ha with ha
      subst ha
      exact h4 ⟨b, o, none⟩ rfl
theorem lines_set {w : World} {g c i : Nat} {A : Option Addr} {L : List BL} (h : LinesAt w g A c L) (u : Value) : LinesAt (w.setCell ⟨g, i, none⟩ u) g A c L :=
  h.kept (grown_set (grown_of_ext (Below.refl _ _) (some g)) i u)
theorem blk_cells {w : World} {g : Nat} {L L' : List BL} (h : Blk w g 9 (strsC L).toArray) (e : L = L') : CellsAt w (some ⟨g, 0, none⟩) (strsC L') := fun i v hi => ⟨g, 0, rfl, by
  subst e
  rw [Nat.zero_add, h.cell]
  simpa using hi⟩
set_option maxHeartbeats 4000000 in
set_option maxRecDepth 100000 in
theorem next_any (word : BL) (n g : Nat) (c1 c2 c3 c4 c5 c6 c7 c8 c9 c10 c11 c12 c13 : Value) (A : Option Addr) (c : Nat) (L : List BL) (w : World) (hw : LibW w) (hg : Blk w g RT #[.slice A L.length c, c1, c2, c3, c4, c5, c6, c7, c8, c9, c10, c11, c12, c13]) (hL : LinesAt w g A c L) (hs : ∀ x ∈ L, x.length ≤ 8192) (hn : n ≤ 8) :
    Calls Tryd.prog 43 #[.pointer (some ⟨g, 0, none⟩), .string (strU word), .int .i64 (n : Int)] w (NextPost word n g c1 c2 c3 c4 c5 c6 c7 c8 c9 c10 c11 c12 c13 A L w) := by
  cases L with
  | nil =>
    have hc := hg.cell
    clear hg hL hs hw
    go_enter Tryd.func43, Tryd.ntmps43
    go_wp2
    go_ret2
    exact .inl ⟨rfl, rfl, Below.refl _ _⟩
  | cons l ls =>
    have hl8 := hs l List.mem_cons_self
    have HSP := Lib.hid (split_blk 32 l hl8 w hw)
    obtain ⟨b, o, rfl⟩ : ∃ b o, A = some ⟨b, o, none⟩ := by
      obtain ⟨b, o, e, -⟩ := hL.1 0 _ rfl
      exact ⟨b, o, e⟩
    have hc0 : w.cell? ⟨b, o, none⟩ = some (.string (strU l)) := by
      obtain ⟨b', o', e, hcc⟩ := hL.1 0 _ rfl
      injection e with e
      injection e with e1 e2
      subst e1 e2
      exact hcc
    have hcap : ls.length + 1 ≤ c := hL.2.1
    obtain ⟨m, hm⟩ : ∃ m, m = (l :: ls).length := ⟨_, rfl⟩
    have hm1 : m = ls.length + 1 := hm
    rw [← hm] at hg
    have hc := hg.cell
    have HG := Lib.hid hg
    have HTL := Lib.hid (lines_tail (n := 0) hL)
    have HM := Lib.hid hm1
    have t2 : ((m : Int) == 0) = false := by simp; omega
    have i1 : (0 : Int) < (m : Int) := by omega
    have i2 : 0 < m := by omega
    have i3 : m ≤ c := by omega
    have i4 : (1 : Int) ≤ (m : Int) := by omega
    have i5 : 1 ≤ m := by omega
    have i6 : 1 ≤ c := by omega
    have i7 : (1 : Int) ≤ (c : Int) := by omega
    have hwn : IntKind.i64.wrap ((n : Int) + 1) = (n : Int) + 1 := by rw [IntKind.wrap_i64]; omega
    have hnI : (n : Int) ≤ 8 := by omega
    clear hg hL hs hw hl8 hm hm1 hcap
    go_enter Tryd.func43, Tryd.ntmps43
    go_wp2_with fail
    refine HSP.out.mono ?_
    rintro e w2 ⟨g2, rfl, hG2, hg2, x2⟩
    obtain ⟨P, hP⟩ : ∃ P, P = splitL 32 l := ⟨_, rfl⟩
    have hPn := splitL_cnt 32 l
    have hP0 := split_pos 32 l
    rw [← hP] at hG2 hPn hP0 ⊢
    obtain ⟨p0, ps, hps⟩ : ∃ p0 ps, P = p0 :: ps := by
      cases P with
      | nil => exact absurd rfl hP0
      | cons a r => exact ⟨a, r, rfl⟩
    have HPS := Lib.hid hps
    have hc2 : w2.cell? ⟨g2, 0, none⟩ = some (.string (strU p0)) := by
      rw [hG2.cell, hps]
      rfl
    have HNX := Lib.hid (show nextL word n (l :: ls) = if p0 = word ∧ P.length = n + 1 then some (ps, ls) else none by unfold nextL; simp only; rw [← hP, hps]; rfl)
    obtain ⟨q, hq⟩ : ∃ q, q = P.length := ⟨_, rfl⟩
    have HQ := Lib.hid hq
    rw [← hq] at HNX ⊢
    have q1 : 1 ≤ q := by rw [hq, hps, List.length_cons]; omega
    have HG2 := Lib.hid hG2
    have HGR := Lib.hid (HG.out.ext x2)
    have X2 := Lib.hid x2
    have HGE := Lib.hid hg2
    have q2 : (0 : Int) < (q : Int) := by omega
    have q3 : 0 < q := q1
    have q4 : (1 : Int) ≤ (q : Int) := by omega
    clear hG2 hPn hP0 hP hps hq x2 hg2 hc HSP
    have hc3 := HGR.out.cell
    have hf3 := HGR.out.frozen
    by_cases hw1 : p0 = word
    · have e1 : ((strU p0).toList == (strU word).toList) = true := by rw [hw1, beq_self_eq_true]
      by_cases hn1 : q = n + 1
      · have e2 : ((q : Int) == (n : Int) + 1) = true := by simp [hn1]
        have hS := Lib.hid (show nextL word n (l :: ls) = some (ps, ls) by rw [HNX.out, if_pos ⟨hw1, hn1⟩])
        have HN1 := Lib.hid hn1
        clear hw1 HNX hn1
        by_cases hc1 : c = 1
        · subst hc1
          obtain rfl : m = 1 := by omega
          by_cases hq1 : q = 1
          · subst hq1
            obtain rfl : n = 0 := by have := HN1.out; omega
            have hTL := HTL.out
            rw [if_pos (by omega)] at hTL
            have hPS := (show LinesAt w2 g (if 1 - 1 = 0 then some ⟨g2, 0, none⟩ else some ⟨g2, 0 + 1, none⟩) (1 - 1) ps from lines_tail (n := 0) (l := p0) ⟨blk_cells HG2.out HPS.out, by rw [HQ.out, HPS.out]; exact Nat.le_refl _, fun h => (by cases h), fun a ha => (by injection ha with ha; subst ha; exact Nat.ne_of_gt (Nat.lt_of_lt_of_le (Blk.lt HG.out) HGE.out))⟩)
            have hqn : 1 - 1 = 0 := by have := HN1.out; omega
            rw [if_pos (by omega), hqn] at hPS
            have HQN := Lib.hid hqn
            have HTL2 := Lib.hid (hTL.ext X2.out)
            have HPS2 := Lib.hid hPS
            have HSET := Lib.hid (blk_put (i := 0) (u := .slice (some ⟨b, o, none⟩) (1 - 1) (1 - 1)) HGR.out (cs' := #[.slice (some ⟨b, o, none⟩) (1 - 1) (1 - 1), c1, c2, c3, c4, c5, c6, c7, c8, c9, c10, c11, c12, c13]) rfl)
            have HGS := Lib.hid (grown_set (grown_of_ext X2.out (some g)) 0 (.slice (some ⟨b, o, none⟩) (1 - 1) (1 - 1)))
            clear hTL hPS hqn
            go_wp2
            go_ret2
            have hqn := HQN.out
            refine .inr ⟨ps, ls, some ⟨g2, 0, none⟩, 0, some ⟨b, o, none⟩, 1 - 1, hS.out, ?_, (by first | rfl | (rw [← hqn]; rfl)), lines_set HPS2.out _, lines_set HTL2.out _, ?_, HGS.out, fun a ha => (by cases ha; exact HGE.out), fun a b e1 e2 => (by cases e1; cases e2; rfl)⟩
            · have h1 := HQ.out; have h2 := HN1.out; rw [HPS.out, List.length_cons] at h1; omega
            · have h1 := HM.out; rw [show ls.length = 1 - 1 by omega]; exact HSET.out
          · have hTL := HTL.out
            rw [if_pos (by omega)] at hTL
            have hPS := (show LinesAt w2 g (if q - 1 = 0 then some ⟨g2, 0, none⟩ else some ⟨g2, 0 + 1, none⟩) (q - 1) ps from lines_tail (n := 0) (l := p0) ⟨blk_cells HG2.out HPS.out, by rw [HQ.out, HPS.out]; exact Nat.le_refl _, fun h => (by cases h), fun a ha => (by injection ha with ha; subst ha; exact Nat.ne_of_gt (Nat.lt_of_lt_of_le (Blk.lt HG.out) HGE.out))⟩)
            have hqn : q - 1 = n := by have := HN1.out; omega
            rw [if_neg (by omega), hqn] at hPS
            have HQN := Lib.hid hqn
            have HTL2 := Lib.hid (hTL.ext X2.out)
            have HPS2 := Lib.hid hPS
            have HSET := Lib.hid (blk_put (i := 0) (u := .slice (some ⟨b, o, none⟩) (1 - 1) (1 - 1)) HGR.out (cs' := #[.slice (some ⟨b, o, none⟩) (1 - 1) (1 - 1), c1, c2, c3, c4, c5, c6, c7, c8, c9, c10, c11, c12, c13]) rfl)
            have HGS := Lib.hid (grown_set (grown_of_ext X2.out (some g)) 0 (.slice (some ⟨b, o, none⟩) (1 - 1) (1 - 1)))
            clear hTL hPS hqn
            go_wp2
            go_ret2
            have hqn := HQN.out
            refine .inr ⟨ps, ls, some ⟨g2, 1, none⟩, n, some ⟨b, o, none⟩, 1 - 1, hS.out, ?_, (by first | rfl | (rw [← hqn]; rfl)), lines_set HPS2.out _, lines_set HTL2.out _, ?_, HGS.out, fun a ha => (by cases ha; exact HGE.out), fun a b e1 e2 => (by cases e1; cases e2; rfl)⟩
            · have h1 := HQ.out; have h2 := HN1.out; rw [HPS.out, List.length_cons] at h1; omega
            · have h1 := HM.out; rw [show ls.length = 1 - 1 by omega]; exact HSET.out
        · by_cases hq1 : q = 1
          · subst hq1
            obtain rfl : n = 0 := by have := HN1.out; omega
            have hTL := HTL.out
            rw [if_neg (by omega)] at hTL
            have hPS := (show LinesAt w2 g (if 1 - 1 = 0 then some ⟨g2, 0, none⟩ else some ⟨g2, 0 + 1, none⟩) (1 - 1) ps from lines_tail (n := 0) (l := p0) ⟨blk_cells HG2.out HPS.out, by rw [HQ.out, HPS.out]; exact Nat.le_refl _, fun h => (by cases h), fun a ha => (by injection ha with ha; subst ha; exact Nat.ne_of_gt (Nat.lt_of_lt_of_le (Blk.lt HG.out) HGE.out))⟩)
            have hqn : 1 - 1 = 0 := by have := HN1.out; omega
            rw [if_pos (by omega), hqn] at hPS
            have HQN := Lib.hid hqn
            have HTL2 := Lib.hid (hTL.ext X2.out)
            have HPS2 := Lib.hid hPS
            have HSET := Lib.hid (blk_put (i := 0) (u := .slice (some ⟨b, o + 1, none⟩) (m - 1) (c - 1)) HGR.out (cs' := #[.slice (some ⟨b, o + 1, none⟩) (m - 1) (c - 1), c1, c2, c3, c4, c5, c6, c7, c8, c9, c10, c11, c12, c13]) rfl)
            have HGS := Lib.hid (grown_set (grown_of_ext X2.out (some g)) 0 (.slice (some ⟨b, o + 1, none⟩) (m - 1) (c - 1)))
            clear hTL hPS hqn
            go_wp2
            go_ret2
            have hqn := HQN.out
            refine .inr ⟨ps, ls, some ⟨g2, 0, none⟩, 0, some ⟨b, o + 1, none⟩, c - 1, hS.out, ?_, (by first | rfl | (rw [← hqn]; rfl)), lines_set HPS2.out _, lines_set HTL2.out _, ?_, HGS.out, fun a ha => (by cases ha; exact HGE.out), fun a b e1 e2 => (by cases e1; cases e2; rfl)⟩
            · have h1 := HQ.out; have h2 := HN1.out; rw [HPS.out, List.length_cons] at h1; omega
            · have h1 := HM.out; rw [show ls.length = m - 1 by omega]; exact HSET.out
          · have hTL := HTL.out
            rw [if_neg (by omega)] at hTL
            have hPS := (show LinesAt w2 g (if q - 1 = 0 then some ⟨g2, 0, none⟩ else some ⟨g2, 0 + 1, none⟩) (q - 1) ps from lines_tail (n := 0) (l := p0) ⟨blk_cells HG2.out HPS.out, by rw [HQ.out, HPS.out]; exact Nat.le_refl _, fun h => (by cases h), fun a ha => (by injection ha with ha; subst ha; exact Nat.ne_of_gt (Nat.lt_of_lt_of_le (Blk.lt HG.out) HGE.out))⟩)
            have hqn : q - 1 = n := by have := HN1.out; omega
            rw [if_neg (by omega), hqn] at hPS
            have HQN := Lib.hid hqn
            have HTL2 := Lib.hid (hTL.ext X2.out)
            have HPS2 := Lib.hid hPS
            have HSET := Lib.hid (blk_put (i := 0) (u := .slice (some ⟨b, o + 1, none⟩) (m - 1) (c - 1)) HGR.out (cs' := #[.slice (some ⟨b, o + 1, none⟩) (m - 1) (c - 1), c1, c2, c3, c4, c5, c6, c7, c8, c9, c10, c11, c12, c13]) rfl)
            have HGS := Lib.hid (grown_set (grown_of_ext X2.out (some g)) 0 (.slice (some ⟨b, o + 1, none⟩) (m - 1) (c - 1)))
            clear hTL hPS hqn
            go_wp2
            go_ret2
            have hqn := HQN.out
            refine .inr ⟨ps, ls, some ⟨g2, 1, none⟩, n, some ⟨b, o + 1, none⟩, c - 1, hS.out, ?_, (by first | rfl | (rw [← hqn]; rfl)), lines_set HPS2.out _, lines_set HTL2.out _, ?_, HGS.out, fun a ha => (by cases ha; exact HGE.out), fun a b e1 e2 => (by cases e1; cases e2; rfl)⟩
            · have h1 := HQ.out; have h2 := HN1.out; rw [HPS.out, List.length_cons] at h1; omega
            · have h1 := HM.out; rw [show ls.length = m - 1 by omega]; exact HSET.out
      · have e2 : ((q : Int) == (n : Int) + 1) = false := by simp; omega
        have hS := Lib.hid (show nextL word n (l :: ls) = none by rw [HNX.out, if_neg (fun h => hn1 h.2)])
        clear hw1 hn1 HNX
        go_wp2
        go_ret2
        exact .inl ⟨hS.out, rfl, X2.out⟩
    · have e1 : ((strU p0).toList == (strU word).toList) = false := by
        rw [Lib.toList_data, Lib.toList_data, strU_data, strU_data]
        simpa using hw1
      have hS := Lib.hid (show nextL word n (l :: ls) = none by rw [HNX.out, if_neg (fun h => hw1 h.1)])
      clear hw1 HNX
      go_wp2
      go_ret2
      exact .inl ⟨hS.out, rfl, X2.out⟩
end Go.Proofs.YtdoibgmmijhlfaaDoor
