/- Walk: reader.choice, reader.piece. -/
import Derived.Test.YtdoibgmmijhlfaaDoorRtW2
import Derived.BigFrame
namespace Go.Proofs.YtdoibgmmijhlfaaDoor
open Go.RowKit
set_option linter.unusedVariables false
set_option linter.unusedSimpArgs false
theorem run_maxZ (W : World) (ats : Array TypeId) (ty : TypeId) (a b : Int) : (Builtin.max_ ats ty #[.int .i64 a, .int .i64 b]).run Tryd.prog W = .ok (.int .i64 (max a b)) W := by
  have e : max a b = if a < b then b else a := by split <;> omega
  rw [e]
  simp [Builtin.max_, Builtin.max2]
theorem strU_inj {x y : BL} (h : strU x = strU y) : x = y := by rw [← strU_data x, h, strU_data]
theorem idx_from (s : BL) : ∀ (L : List BL) (i : Nat), Lib.idxFromS (L.map strU) (strU s) i = (match L.findIdx? (fun x => decide (x = s)) with
    | some k => ((i + k : Nat) : Int)
    | none => -1)
  | [], i => rfl
  | x :: L, i => by
    have ih := idx_from s L (i + 1)
    rw [List.map_cons, List.findIdx?_cons]
    unfold Lib.idxFromS
    by_cases h : x = s
    · subst h
      simp
    · have h2 : strU x ≠ strU s := fun e => h (strU_inj e)
      rw [if_neg h2, ih, decide_eq_false h]
      cases L.findIdx? (fun x => decide (x = s)) with
      | none => rfl
      | some k => exact congrArg Int.ofNat (show i + 1 + k = i + (k + 1) by omega)
theorem idx_strs (s : BL) (L : List BL) : Lib.idxOfS (L.map strU) (strU s) = ixW L s := by
  unfold Lib.idxOfS ixW
  rw [idx_from]
  cases L.findIdx? (fun x => decide (x = s)) with
  | none => rfl
  | some k => simp
set_option maxHeartbeats 4000000 in
set_option maxRecDepth 100000 in
theorem rchoice_any (g : Nat) (c0 c1 c2 c3 c4 c5 c6 c7 c8 c9 c10 c11 c12 : Value) (bad : Bool) (s : BL) (b o k : Nat) (L : List BL) (w : World) (hg : Blk w g RT #[c0, c1, c2, c3, c4, c5, c6, c7, c8, c9, c10, c11, c12, .bool bad]) (hL : CellsAt w (some ⟨b, o, none⟩) (strsC L)) (hn : L.length ≤ 8) :
    Calls Tryd.prog 45 #[.pointer (some ⟨g, 0, none⟩), .string (strU s), .slice (some ⟨b, o, none⟩) L.length k] w fun e w' => e = .returned (.int .i64 (max (ixW L s) 0)) ∧ Blk w' g RT #[c0, c1, c2, c3, c4, c5, c6, c7, c8, c9, c10, c11, c12, .bool (bad || decide (ixW L s < 0))] ∧ w.grownBy w' (some g) := by
  have HIX := Lib.hid (by
    have h := Tryd.slices_Index_string b o L.length k (L.map strU) (strU s) w (by simp) (by omega) (fun j hj => by
      rw [List.length_map] at hj
      obtain ⟨b', o', e, hc⟩ := hL j _ (strsC_get (List.getElem?_eq_getElem hj))
      injection e with e
      injection e with e1 e2
      subst e1 e2
      rw [hc, List.getD_eq_getElem?_getD, List.getElem?_map, List.getElem?_eq_getElem hj]
      rfl)
    rw [List.take_of_length_le (by simp), idx_strs] at h
    exact h : Calls Tryd.prog 72 #[.slice (some ⟨b, o, none⟩) L.length k, .string (strU s)] w fun e w' => e = .returned (.int .i64 (ixW L s)) ∧ w' = w)
  obtain ⟨m, hm⟩ : ∃ m, m = L.length := ⟨_, rfl⟩
  rw [← hm] at HIX ⊢
  have hc := hg.cell
  have hf := hg.frozen
  have HG := Lib.hid hg
  obtain ⟨K, hK⟩ : ∃ K, K = ixW L s := ⟨_, rfl⟩
  rw [← hK] at HIX ⊢
  have hmx := fun W ats ty => run_maxZ W ats ty K 0
  clear hg hL hn hm hK
  go_enter Tryd.func45, Tryd.ntmps45
  go_wp2_with fail
  refine HIX.out.mono ?_
  rintro e w2 ⟨rfl, rfl⟩
  have HS1 := Lib.hid (fun u : Bool => And.intro (blk_put (i := 13) (u := .bool u) HG.out (cs' := #[c0, c1, c2, c3, c4, c5, c6, c7, c8, c9, c10, c11, c12, .bool u]) rfl) (grown_set (grown_of_ext (Below.refl _ _ : Ext w2 w2) (some g)) 13 (.bool u)))
  by_cases hb : bad = true
  · subst hb
    have HS := Lib.hid (HS1.out true)
    go_wp2
    go_ret
    exact ⟨rfl, HS.out.1, HS.out.2⟩
  · obtain rfl : bad = false := by simpa using hb
    have HS := Lib.hid (HS1.out (decide (K < 0)))
    clear hb
    go_wp2
    go_ret
    exact ⟨rfl, HS.out.1, HS.out.2⟩
theorem rpieceC_any (l0 h0 p0 : Int) (v : Value) (c : UInt8) (a : Addr) (w : World) (hc : w.cell? a = some (.string (strU [c]))) (ha : a.spot = none) :
    Calls Tryd.prog 90 #[.agg #[.int .u8 l0, .int .i64 h0, .int .i64 p0, v], .pointer (some a)] w fun e w' => e = .returned (.bool (l0 == (c.toNat : Int))) ∧ Ext w w' := by
  obtain ⟨b, o, s⟩ := a
  obtain rfl : s = none := ha
  have hlt := lt_of_cell hc
  have hib : ∀ h : 0 < (strU [c]).size, ((strU [c])[0]'h).toNat = c.toNat := fun h => strU_get rfl h
  have hz : (strU [c]).size = 1 := rfl
  have h1 : 0 < (strU [c]).size := by rw [hz]; omega
  generalize strU [c] = S at *
  have i0 : (0 : Int) < (S.size : Int) := by omega
  go_enter Tryd.func90, Tryd.ntmps90
  go_wp2_with (go_quiet (fail))
  go_ret
  exact ⟨rfl, ext_drewN (ext_alloc (Below.refl _ _) _) _⟩
set_option maxHeartbeats 4000000 in
set_option maxRecDepth 100000 in
theorem idxRPiece_any (A : Option Addr) (n c : Nat) (ps : List PieceM) (ch : UInt8) (a : Addr) (w : World) (hn : ps.length = n) (hm : n ≤ 1000000) (hp : PiecesAt w A ps) (hc : w.cell? a = some (.string (strU [ch]))) (ha : a.spot = none) :
    Calls Tryd.prog 84 #[.slice A n c, .func (.func 90) #[] #[.pointer (some a)]] w fun e w' => e = .returned (.int .i64 (pieceK ps ch)) ∧ Ext w w' := by
  rw [pieceK_eq]
  have HN := Lib.hid hn
  obtain ⟨l, hl⟩ : ∃ l : Int, l = (ch.toNat : Int) := ⟨_, rfl⟩
  have HCL := fun (l0 h0 p0 : Int) (v : Value) (W : World) (h : W.cell? a = some (.string (strU [ch]))) => rpieceC_any l0 h0 p0 v ch a W h ha
  rw [← hl] at HCL ⊢
  have HC := Lib.hid HCL
  clear hn hl HCL
  go_enter Tryd.func84, Tryd.ntmps84
  go_wp2
  go_loopw [5, 8] (fun _ i wr => ∃ k : Nat, k ≤ n ∧ i = .int .i64 k ∧ Hid (∀ (j : Nat) (q : PieceM), j < k → ps[j]? = some q → q.letter ≠ l) ∧ Ext w wr) (fun _ i _ => n - (RowKit.intOf i).toNat)
  case atStart => exact ⟨0, Nat.zero_le _, rfl, Lib.hid (fun j q hj => by omega), Below.refl _ _⟩
  case round =>
    obtain ⟨k, hk, rfl, hall, hext⟩ := hrel
    by_cases hlt : k < n
    · have hkl : k < ps.length := by rw [HN.out]; exact hlt
      have hget : ps[k]? = some ps[k] := List.getElem?_eq_getElem hkl
      have HG := Lib.hid hget
      obtain ⟨b, o, wA, wc, rfl, c0, c1, c2, c3, hw⟩ := (hp.ext hext).get hget
      have hca := Ext.cell hext hc
      clear hget hp hw
      generalize ps[k] = q at *
      have HCA := Lib.hid (HC.out q.letter q.hand q.promote (.slice wA q.ways.length wc) wr hca)
      by_cases hql : q.letter = l
      · have hb : (q.letter == l) = true := by simpa using hql
        have HB := Lib.hid (idxK_at HG.out hql hall.out : idxK ps l = (k : Int))
        clear hql hall hca
        go_wp2_with fail
        refine HCA.out.mono ?_
        rintro e w1 ⟨rfl, x1⟩
        go_wp2
        go_ret
        exact ⟨by rw [HB.out]; rfl, ext_trans hext x1⟩
      · have hb : (q.letter == l) = false := by simpa using hql
        have HALL := Lib.hid (fun j q' hj hq' => (by
          by_cases e : j = k
          · subst e
            rw [HG.out] at hq'
            injection hq' with e2
            subst e2
            exact hql
          · exact hall.out j q' (by omega) hq') : ∀ (j : Nat) (q : PieceM), j < k + 1 → ps[j]? = some q → q.letter ≠ l)
        clear hql hall hca
        go_wp2_with fail
        refine HCA.out.mono ?_
        rintro e w1 ⟨rfl, x1⟩
        go_wp2
        go_roundw
        case rel => exact ⟨k + 1, by omega, by go_num, HALL, ext_trans hext x1⟩
        case measure => simp [RowKit.intOf]; omega
    · obtain rfl : k = n := by omega
      have HB := Lib.hid (idxK_none fun j q hj => hall.out j q (by have := (List.getElem?_eq_some_iff.1 hj).1; rw [HN.out] at this; exact this) hj : idxK ps l = -1)
      clear hall
      go_wp2
      go_ret
      exact ⟨by rw [HB.out]; rfl, hext⟩
end Go.Proofs.YtdoibgmmijhlfaaDoor
