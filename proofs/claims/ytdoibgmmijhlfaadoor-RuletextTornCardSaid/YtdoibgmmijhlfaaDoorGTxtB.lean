/- Walk: place.number. Walk: strings.Split at one byte, in the model's words. Walk: place.piece. Walk: place.hand. -/
import Derived.Test.YtdoibgmmijhlfaaDoorGTxtA
import Derived.Test.YtdoibgmmijhlfaaDoorStrLay
import Derived.Test.YtdoibgmmijhlfaaDoorGBase
import Derived.Lib.Hide
import Derived.Lib.LaidTab
import Derived.StillTailTactics
import Derived.Deep.QuietTactic
import Derived.BigQuiet
import Derived.Test.YtdoibgmmijhlfaaDoorGRules
import Derived.Test.YtdoibgmmijhlfaaDoorGLibA
import Derived.Test.YtdoibgmmijhlfaaDoorRegionK
import Derived.Lib.SmallJoins
import Derived.Deep.Cut
namespace Go.Proofs.YtdoibgmmijhlfaaDoor
open Go.RowKit Go.Lib
set_option linter.unusedVariables false
set_option linter.unusedSimpArgs false
/-- The library's variables as they are laid. -/
structure LibW (w : World) : Prop where
  max : ∃ m, w.cell? ⟨0, 0, none⟩ = some (.int .i64 m)
  syn : ∃ ev, w.cell? ⟨1, 0, none⟩ = some ev ∧ (ev = .nilIface ∨ ∃ te pe, ev = .iface te pe)
  rng : ∃ ev, w.cell? ⟨2, 0, none⟩ = some ev ∧ (ev = .nilIface ∨ ∃ te pe, ev = .iface te pe)
  tab : TabIs Tryd.prog w "internal/strconv.uint64pow10" .u64 pow10Tab
def strU (s : BL) : ByteArray := ⟨s.toArray⟩
theorem strU_size (s : BL) : (strU s).size = s.length := by simp [strU, ByteArray.size]
theorem strU_data (s : BL) : (strU s).data.toList = s := by simp [strU]
theorem strU_ext {a : ByteArray} {l : BL} (h : a.data.toList = l) : a = strU l := by
  apply ByteArray.ext
  apply Array.toList_inj.1
  rw [h, strU_data]
theorem strU_take (l : BL) (k : Nat) : (strU l).extract 0 k = strU (l.take k) := by
  apply strU_ext
  rw [ByteArray.data_extract, Array.toList_extract, strU_data, List.extract_eq_take_drop]
  simp
theorem strU_drop (l : BL) (k : Nat) : (strU l).extract k (strU l).size = strU (l.drop k) := by
  apply strU_ext
  rw [ByteArray.data_extract, Array.toList_extract, strU_data, List.extract_eq_take_drop, strU_size]
  rw [List.take_of_length_le (by simp)]
theorem strU_get {l : BL} {k : Nat} {x : UInt8} (hk : l[k]? = some x) (hs : k < (strU l).size) : ((strU l)[k]'hs).toNat = x.toNat := by
  obtain ⟨hl, rfl⟩ := List.getElem?_eq_some_iff.1 hk
  have e1 : (strU l).data[k]? = some l[k] := by simp [strU, hl]
  have e2 : (strU l).data[k]? = some ((strU l)[k]'hs) := Array.getElem?_eq_getElem _
  rw [Option.some.inj (e2.symm.trans e1)]
theorem while_len {s : BL} {k : Nat} (h1 : ∀ (j : Nat) b, j < k → s[j]? = some b → digU b = true) (h2 : ∀ b, s[k]? = some b → digU b = false) (hk : k ≤ s.length) : s.takeWhile digU = s.take k ∧ s.dropWhile digU = s.drop k := by
  induction k generalizing s with
  | zero =>
    have : NoDig s := fun b r e => by subst e; exact h2 b rfl
    exact ⟨by rw [take_noDig this]; simp, by rw [drop_noDig this]; simp⟩
  | succ k ih =>
    cases s with
    | nil => simp at hk
    | cons b r =>
      have hb := h1 0 b (by omega) rfl
      obtain ⟨i1, i2⟩ := ih (s := r) (fun j c hj hc => h1 (j + 1) c (by omega) (by simpa using hc)) (fun c hc => h2 c (by simpa using hc)) (by simpa using hk)
      rw [List.takeWhile_cons, List.dropWhile_cons, if_pos hb, if_pos hb, i1, i2]
      simp
theorem ext_bytes (w : World) (t : TypeId) (b : ByteArray) : Ext w (bytesWorld w t b) := ⟨rfl, rfl, rfl, by rw [bytesWorld_size]; omega, fun x hx => bytesWorld_at_old w _ _ x hx⟩
theorem extN_drewN {w w' : World} (h : Ext w w') : ∀ k : Nat, Ext w (w'.drewN k)
  | 0 => h
  | k + 1 => Below.drew (extN_drewN h k)
theorem ext_below {w w' : World} (h : Below w.heap.size w w') : Ext w w' := h
theorem atoi_any (d : BL) (hd : d.length ≤ 8192) (w : World) (hw : LibW w) : Calls Tryd.prog 64 #[.string (strU d)] w fun e w' => (∃ v ev, e = .returned (.tuple #[.int .i64 v, ev]) ∧ ((atoiAll d = .ok v ∧ ev = .nilIface) ∨ ((∀ v, atoiAll d ≠ .ok v) ∧ ∃ p, ev = .iface 129 p))) ∧ Ext w w' := by
  have hsz := strU_size d
  have hdt := strU_data d
  cases ha : atoiAll d with
  | ok v =>
    refine (Tryd.strconv_Atoi_ok (strU d) (by omega) v (by rw [hdt]; exact ha) w).mono ?_
    rintro e w' ⟨rfl, rfl | ⟨t, rfl⟩⟩
    · exact ⟨⟨v, _, rfl, .inl ⟨rfl, rfl⟩⟩, Below.refl _ _⟩
    · exact ⟨⟨v, _, rfl, .inl ⟨rfl, rfl⟩⟩, ext_bytes _ _ _⟩
  | range =>
    obtain ⟨ev, h1, h2⟩ := hw.rng
    refine (Tryd.strconv_Atoi_range (strU d) (by omega) (by rw [hdt]; exact ha) ev w h1 h2).mono ?_
    rintro e w' ⟨N, rfl, _, _, x⟩
    exact ⟨⟨_, _, rfl, .inr ⟨(fun v h => by cases h), _, rfl⟩⟩, x⟩
  | _ =>
    obtain ⟨ev, h1, h2⟩ := hw.syn
    refine (Tryd.strconv_Atoi_bad (strU d) (by omega) (by rw [hdt, ha]; intro v h; cases h) (by rw [hdt, ha]; intro h; cases h) ev w h1 h2).mono ?_
    rintro e w' ⟨N, rfl, _, _, x⟩
    exact ⟨⟨0, _, rfl, .inr ⟨(fun v h => by cases h), _, rfl⟩⟩, x⟩
theorem numR_ok {s : BL} {k : Nat} {v : Int} (h : s.takeWhile digU = s.take k ∧ s.dropWhile digU = s.drop k) (ha : atoiAll (s.take k) = .ok v) : numR s = (v, s.drop k) := by
  unfold numR
  rw [h.1, h.2, ha]
theorem numR_bad {s : BL} {k : Nat} (h : s.takeWhile digU = s.take k ∧ s.dropWhile digU = s.drop k) (ha : ∀ v, atoiAll (s.take k) ≠ .ok v) : numR s = (-1, s) := by
  unfold numR
  rw [h.1]
  cases hc : atoiAll (s.take k) with
  | ok v => exact absurd hc (ha v)
  | _ => rfl
set_option maxHeartbeats 1600000 in
set_option maxRecDepth 100000 in
theorem number_any (s : BL) (hs : s.length ≤ 8192) (w : World) (hw : LibW w) : Calls Tryd.prog 28 #[.string (strU s)] w fun e w' => e = .returned (.tuple #[.int .i64 (numR s).1, .string (strU (numR s).2)]) ∧ Ext w w' := by
  have hss := strU_size s
  obtain ⟨S, hS⟩ : ∃ S, S = strU s := ⟨_, rfl⟩
  have HS := Lib.hid hS
  rw [← hS] at hss ⊢
  have HSZ := Lib.hid hss
  have hsl : S.size ≤ 8192 := by omega
  have HB := Lib.hid (fun (k : Nat) (b : UInt8) (hk : s[k]? = some b) (h : k < S.size) => (by subst hS; rw [strU_get hk h] : ((S[k]'h).toNat : Int) = (b.toNat : Int)))
  have HW := Lib.hid hw
  clear hS hw hs
  go_enter Tryd.func28, Tryd.ntmps28
  go_wp2_with fail
  go_loop [4] (fun n => ∃ k : Nat, k ≤ S.size ∧ n = .int .i64 (k : Int) ∧ ∀ (j : Nat) b, j < k → s[j]? = some b → digU b = true) (fun n => S.size - (RowKit.intOf n).toNat)
  case atStart => exact ⟨0, Nat.zero_le _, rfl, fun j b h => by omega⟩
  case round =>
    obtain ⟨k, hk, rfl, hd⟩ := hrel
    have HD := Lib.hid hd
    have HK := Lib.hid hk
    have hdone : (∀ b, s[k]? = some b → digU b = false) → Hid (s.takeWhile digU = s.take k ∧ s.dropWhile digU = s.drop k) := fun h => Lib.hid (while_len HD.out h (by have := HK.out; rw [HSZ.out] at this; exact this))
    clear hd
    by_cases hks : k < S.size
    · obtain ⟨b, hb⟩ : ∃ b, s[k]? = some b := ⟨_, List.getElem?_eq_getElem (by rw [← HSZ.out]; exact hks)⟩
      have hby := HB.out k b hb hks
      have HBB := Lib.hid hb
      have t0 : decide ((k : Int) < (S.size : Int)) = true := decide_eq_true (by omega)
      have t0n : decide (k < S.size) = true := decide_eq_true hks
      clear hb
      by_cases h48 : 48 ≤ b.toNat
      · have t1 : decide ((48 : Int) ≤ (b.toNat : Int)) = true := decide_eq_true (by omega)
        by_cases h57 : b.toNat ≤ 57
        · have t2 : decide ((b.toNat : Int) ≤ (57 : Int)) = true := decide_eq_true (by omega)
          have HDG := Lib.hid (digU_iff.2 ⟨h48, h57⟩)
          have HKS := Lib.hid hks
          clear hdone h48 h57
          go_wp2
          go_round
          case rel => exact ⟨k + 1, HKS.out, by go_num, fun j c hj hc => by
            by_cases e : j = k
            · subst e
              rw [HBB.out] at hc
              rw [← Option.some.inj hc]
              exact HDG.out
            · exact HD.out j c (by omega) hc⟩
          case measure => have := HKS.out; simp [RowKit.intOf]; omega
        · have t2 : decide ((b.toNat : Int) ≤ (57 : Int)) = false := decide_eq_false (by omega)
          have HWL := hdone (fun c hc => by rw [HBB.out] at hc; rw [← Option.some.inj hc]; unfold digU; simp; omega)
          clear hdone h48 h57
          have HAT := Lib.hid (fun W (h : LibW W) => atoi_any (s.take k) (by rw [List.length_take]; have := HSZ.out; omega) W h)
          have hx1 : S.extract 0 k = strU (s.take k) := by rw [HS.out]; exact strU_take s k
          have hx2 : S.extract k s.length = strU (s.drop k) := by rw [HS.out, ← strU_size s]; exact strU_drop s k
          go_wp2_with fail
          try rw [hx1]
          refine (HAT.out _ HW.out).mono ?_
          rintro e w2 ⟨⟨v, ev, rfl, ⟨ha, rfl⟩ | ⟨ha, p, rfl⟩⟩, x⟩
          · have HR := Lib.hid (numR_ok HWL.out ha)
            have XX := Lib.hid x
            clear ha x HAT hx1
            go_wp2_with (go_quiet (fail))
            go_ret2
            rw [HR.out]
            exact ⟨by first | rfl | rw [hx2], extN_drewN XX.out _⟩
          · have HR := Lib.hid (numR_bad HWL.out ha)
            have XX := Lib.hid x
            clear ha x HAT hx1 hx2
            go_wp2
            go_ret2
            rw [HR.out]
            exact ⟨by rw [HS.out]; rfl, XX.out⟩
      · have t1 : decide ((48 : Int) ≤ (b.toNat : Int)) = false := decide_eq_false (by omega)
        have HWL := hdone (fun c hc => by rw [HBB.out] at hc; rw [← Option.some.inj hc]; unfold digU; simp; omega)
        clear hdone h48
        have HAT := Lib.hid (fun W (h : LibW W) => atoi_any (s.take k) (by rw [List.length_take]; have := HSZ.out; omega) W h)
        have hx1 : S.extract 0 k = strU (s.take k) := by rw [HS.out]; exact strU_take s k
        have hx2 : S.extract k s.length = strU (s.drop k) := by rw [HS.out, ← strU_size s]; exact strU_drop s k
        go_wp2_with fail
        try rw [hx1]
        refine (HAT.out _ HW.out).mono ?_
        rintro e w2 ⟨⟨v, ev, rfl, ⟨ha, rfl⟩ | ⟨ha, p, rfl⟩⟩, x⟩
        · have HR := Lib.hid (numR_ok HWL.out ha)
          have XX := Lib.hid x
          clear ha x HAT hx1
          go_wp2_with (go_quiet (fail))
          go_ret2
          rw [HR.out]
          exact ⟨by first | rfl | rw [hx2], extN_drewN XX.out _⟩
        · have HR := Lib.hid (numR_bad HWL.out ha)
          have XX := Lib.hid x
          clear ha x HAT hx1 hx2
          go_wp2
          go_ret2
          rw [HR.out]
          exact ⟨by rw [HS.out]; rfl, XX.out⟩
    · have t0 : decide ((k : Int) < (S.size : Int)) = false := decide_eq_false (by omega)
      have t0n : decide (k < S.size) = false := decide_eq_false (by omega)
      have hke : k = S.size := by omega
      have HWL := hdone (fun c hc => by
        have := (List.getElem?_eq_some_iff.1 hc).1
        have := HSZ.out
        omega)
      clear hdone hke
      have HAT := Lib.hid (fun W (h : LibW W) => atoi_any (s.take k) (by rw [List.length_take]; have := HSZ.out; omega) W h)
      have hx1 : S.extract 0 k = strU (s.take k) := by rw [HS.out]; exact strU_take s k
      have hx2 : S.extract k s.length = strU (s.drop k) := by rw [HS.out, ← strU_size s]; exact strU_drop s k
      go_wp2_with fail
      try rw [hx1]
      refine (HAT.out _ HW.out).mono ?_
      rintro e w2 ⟨⟨v, ev, rfl, ⟨ha, rfl⟩ | ⟨ha, p, rfl⟩⟩, x⟩
      · have HR := Lib.hid (numR_ok HWL.out ha)
        have XX := Lib.hid x
        clear ha x HAT hx1
        go_wp2_with (go_quiet (fail))
        go_ret2
        rw [HR.out]
        exact ⟨by first | rfl | rw [hx2], extN_drewN XX.out _⟩
      · have HR := Lib.hid (numR_bad HWL.out ha)
        have XX := Lib.hid x
        clear ha x HAT hx1 hx2
        go_wp2
        go_ret2
        rw [HR.out]
        exact ⟨by rw [HS.out]; rfl, XX.out⟩
end Go.Proofs.YtdoibgmmijhlfaaDoor
namespace Go.Proofs.YtdoibgmmijhlfaaDoor
open Go.RowKit
set_option linter.unusedVariables false
theorem splitB_eq (c : UInt8) (s : BL) : Lib.splitB (strU [c]) 0 (Lib.countB (strU s) (strU [c])) (strU s) = (splitL c s).map strU := by
  have h := Lib.splitB_data (strU [c]) 0 (Lib.countB (strU s) (strU [c])) (strU s)
  rw [strU_data, strU_data] at h
  have hk : Lib.countB (strU s) (strU [c]) = s.count c := by
    show Lib.count (strU s).data.toList (strU [c]).data.toList = _
    rw [strU_data, strU_data, Lib.count_one]
  rw [hk] at h ⊢
  rw [splitK_eq c s _ rfl] at h
  rw [← h, List.map_map]
  have : ∀ l : List ByteArray, l = l.map (strU ∘ fun x => x.data.toList) := fun l => by
    induction l with
    | nil => rfl
    | cons a l ih =>
      rw [List.map_cons, ← ih]
      rfl
  exact this _
theorem splitL_len (c : UInt8) (s : BL) : (splitL c s).length = Lib.countB (strU s) (strU [c]) + 1 := by
  have h1 := splitB_eq c s
  have h2 := Lib.splitB_all (strU [c]) (by rw [strU_size]; simp) 0 _ (strU s) rfl
  rw [h1, List.length_map] at h2
  exact h2
theorem split_any (c : UInt8) (s : BL) (hs : s.length ≤ 8192) (w : World) (hw : LibW w) : Calls Tryd.prog 24 #[.string (strU s), .string (strU [c])] w fun e w' => e = .returned (.slice (some ⟨w.heap.size, 0, none⟩) (splitL c s).length (splitL c s).length) ∧ w' = w.alloc (.cells ((splitL c s).map fun x => Value.string (strU x)).toArray 9) := by
  obtain ⟨m, hm⟩ := hw.max
  refine (Tryd.strings_Split (strU s) (strU [c]) m w (by rw [strU_size]; omega) hm (by rw [strU_size]; simp)).mono ?_
  rintro e w' ⟨rfl, rfl⟩
  refine ⟨by rw [splitL_len], ?_⟩
  rw [splitB_eq, List.map_map]
  rfl
end Go.Proofs.YtdoibgmmijhlfaaDoor
namespace Go.Proofs.YtdoibgmmijhlfaaDoor
open Go.ChangeShapes Go.WideShapes Go.ChangeAt Go.RowKit
set_option linter.unusedVariables false
def idxK (ps : List PieceM) (l : Int) : Int := match ps.findIdx? (fun p => decide (p.letter = l)) with
  | some k => (k : Int)
  | none => -1
theorem idxK_at {ps : List PieceM} {l : Int} {k : Nat} {p : PieceM} (hk : ps[k]? = some p) (hl : p.letter = l) (h : ∀ (j : Nat) (q : PieceM), j < k → ps[j]? = some q → q.letter ≠ l) : idxK ps l = (k : Int) := by
  obtain ⟨hkl, he⟩ := List.getElem?_eq_some_iff.1 hk
  have : ps.findIdx? (fun p => decide (p.letter = l)) = some k := List.findIdx?_eq_some_iff_getElem.2 ⟨hkl, by simp [he, hl], fun j hj e => h j _ hj (List.getElem?_eq_getElem (by omega)) (of_decide_eq_true e)⟩
  unfold idxK
  rw [this]
theorem idxK_none {ps : List PieceM} {l : Int} (h : ∀ (j : Nat) (q : PieceM), ps[j]? = some q → q.letter ≠ l) : idxK ps l = -1 := by
  have : ps.findIdx? (fun p => decide (p.letter = l)) = none := List.findIdx?_eq_none_iff.2 fun x hx => by
    obtain ⟨j, hj, rfl⟩ := List.mem_iff_getElem.1 hx
    simpa using h j _ (List.getElem?_eq_getElem hj)
  unfold idxK
  rw [this]
theorem pieceK_eq (ps : List PieceM) (b : UInt8) : pieceK ps b = idxK ps (b.toNat : Int) := rfl
theorem pieceC_any (l l0 h0 p0 : Int) (hd pr : Int) (v : Value) (a : Addr) (w : World) (hc : w.cell? a = some (.int .u8 l)) (ha : a.spot = none) :
    Calls Tryd.prog 85 #[.agg #[.int .u8 l0, .int .i64 h0, .int .i64 p0, v], .pointer (some a)] w fun e w' => e = .returned (.bool (l0 == l)) ∧ Ext w w' := by
  obtain ⟨b, o, s⟩ := a
  obtain rfl : s = none := ha
  have hlt := lt_of_cell hc
  go_enter Tryd.func85, Tryd.ntmps85
  go_wp2
  go_ret
  exact ⟨rfl, ext_alloc (Below.refl _ _) _⟩
theorem idxPiece_any (A : Option Addr) (n c : Nat) (ps : List PieceM) (l : Int) (a : Addr) (w : World) (hn : ps.length = n) (hm : n ≤ 1000) (hp : PiecesAt w A ps) (hc : w.cell? a = some (.int .u8 l)) (ha : a.spot = none) :
    Calls Tryd.prog 84 #[.slice A n c, .func (.func 85) #[] #[.pointer (some a)]] w fun e w' => e = .returned (.int .i64 (idxK ps l)) ∧ Ext w w' := by
  have HN := hide hn
  clear hn
  go_enter Tryd.func84, Tryd.ntmps84
  go_wp2
  go_loopw [5, 8] (fun _ i wr => ∃ k : Nat, k ≤ n ∧ i = .int .i64 k ∧ Hid (∀ (j : Nat) (q : PieceM), j < k → ps[j]? = some q → q.letter ≠ l) ∧ Ext w wr) (fun _ i _ => n - (intOf i).toNat)
  case atStart => exact ⟨0, Nat.zero_le _, rfl, hide (fun j q hj => by omega), Below.refl _ _⟩
  case round =>
    obtain ⟨k, hk, rfl, hall, hext⟩ := hrel
    by_cases hlt : k < n
    · have hkl : k < ps.length := by rw [HN.out]; exact hlt
      have hget : ps[k]? = some ps[k] := List.getElem?_eq_getElem hkl
      have HG := hide hget
      obtain ⟨b, o, wA, wc, rfl, c0, c1, c2, c3, hw⟩ := (hp.ext hext).get hget
      have hca := Ext.cell hext hc
      clear hget hp hw
      generalize ps[k] = q at *
      by_cases hql : q.letter = l
      · have hb : (q.letter == l) = true := by simpa using hql
        have HB : Hid (idxK ps l = (k : Int)) := hide (idxK_at HG.out hql hall.out)
        clear hql hall
        go_wp2_with (go_at_call 85; refine (pieceC_any _ _ _ _ 0 0 _ _ _ hca ha).mono ?_; rintro e w1 ⟨rfl, x1⟩)
        go_ret
        exact ⟨by rw [HB.out]; rfl, ext_trans hext x1⟩
      · have hb : (q.letter == l) = false := by simpa using hql
        have HALL : Hid (∀ (j : Nat) (q : PieceM), j < k + 1 → ps[j]? = some q → q.letter ≠ l) := hide (fun j q' hj hq' => by
          by_cases e : j = k
          · subst e
            rw [HG.out] at hq'
            injection hq' with e2
            subst e2
            exact hql
          · exact hall.out j q' (by omega) hq')
        clear hql hall
        go_wp2_with (go_at_call 85; refine (pieceC_any _ _ _ _ 0 0 _ _ _ hca ha).mono ?_; rintro e w1 ⟨rfl, x1⟩)
        go_roundw
        case rel => exact ⟨k + 1, by omega, by go_num, HALL, ext_trans hext x1⟩
        case measure => simp [intOf]; omega
    · obtain rfl : k = n := by omega
      have HB : Hid (idxK ps l = -1) := hide (idxK_none fun j q hj => hall.out j q (by have := (List.getElem?_eq_some_iff.1 hj).1; rw [HN.out] at this; exact this) hj)
      clear hall
      go_wp2
      go_ret
      exact ⟨by rw [HB.out]; rfl, hext⟩
set_option maxRecDepth 100000 in
theorem piece_any (R : RulesM) (v : Value) (b : UInt8) (w : World) (hR : RulesAt w v R) (h6 : R.pieces.length ≤ 6) : Calls Tryd.prog 63 #[v, .int .u8 (b.toNat : Int)] w fun e w' => e = .returned (.int .i64 (pieceK R.pieces b)) ∧ Ext w w' := by
  rw [pieceK_eq]
  obtain ⟨pA, pc, sA, sc, eA, ec, rfl, hp, -⟩ := hR
  have HI := hide (fun W (x : Ext w W) (a : Addr) (hc : W.cell? a = some (.int .u8 (b.toNat : Int))) (ha : a.spot = none) => idxPiece_any pA R.pieces.length pc R.pieces (b.toNat : Int) a W rfl (by omega) (hp.ext x) hc ha)
  clear hp
  generalize idxK R.pieces (b.toNat : Int) = K at *
  generalize hn : R.pieces.length = n at *
  clear hn
  go_enter Tryd.func63, Tryd.ntmps63
  go_wp2_with fail
  refine (HI.out _ (ext_alloc (ext_alloc (Below.refl _ _) _) _) _ ?_ rfl).mono ?_
  · generalize hw : w.alloc _ = w1
    have h1 : w1.heap.size = w.heap.size + 1 := by rw [← hw]; simp
    rw [← h1]
    exact new_cell w1 #[.int .u8 (b.toNat : Int)] 5 0
  · rintro e w2 ⟨rfl, x2⟩
    have XX := hide (ext_trans (ext_alloc (ext_alloc (Below.refl w.heap.size w) _) _) x2)
    clear x2 HI
    go_wp2
    go_ret
    exact ⟨rfl, XX.out⟩
end Go.Proofs.YtdoibgmmijhlfaaDoor
namespace Go.Proofs.YtdoibgmmijhlfaaDoor
open Go.RowKit
set_option linter.unusedVariables false
set_option linter.unusedSimpArgs false
theorem enc_ascii : ∀ x : Fin 128, Utf8.encode (x.val : Int) = strU [UInt8.ofNat x.val] := by decide +kernel
theorem run_rune : ∀ (x : Fin 128) (W : World), (convert 21 9 (.int .i32 (x.val : Int))).run Tryd.prog W = .ok (.string (strU [UInt8.ofNat x.val])) W := by
  intro x W
  have h : Conv.intToString (x.val : Int) = (pure (.string (strU [UInt8.ofNat x.val])) : Sem Value) := by
    unfold Conv.intToString
    rw [enc_ascii x]
  simp [convert, run_underlying Tryd.underlying21, run_underlying Tryd.underlying9, h]
theorem gPow : Tryd.prog.globalNamed "internal/strconv.uint64pow10" = some 3 := by kernel_rfl
theorem LibW.ext {w w' : World} (h : LibW w) (x : Ext w w') : LibW w' := by
  obtain ⟨m, h1⟩ := h.max
  obtain ⟨e2, h2, h2'⟩ := h.syn
  obtain ⟨e3, h3, h3'⟩ := h.rng
  exact ⟨⟨m, Ext.cell x h1⟩, ⟨e2, Ext.cell x h2, h2'⟩, ⟨e3, Ext.cell x h3, h3'⟩, Go.Joins.tab_stays gPow h.tab x (Nat.le_refl _)⟩
theorem ext_grow (w : World) (k : Nat) (os : Array Obj) : Ext w (Go.Sort.grow (w.drewN k) os) := ⟨rfl, rfl, rfl, by show w.heap.size ≤ (w.heap ++ os).size; rw [Array.size_append]; omega, fun b hb => by show (w.heap ++ os)[b]? = w.heap[b]?; rw [Array.getElem?_append_left hb]⟩
theorem itoa_any (n : Int) (h0 : 0 ≤ n) (h1 : n ≤ 1000) (w : World) (hw : LibW w) : Calls Tryd.prog 31 #[.int .i64 n] w fun e w' => e = .returned (.string (strU (Lib.itoa n))) ∧ Ext w w' := by
  refine (Tryd.strconv_Itoa n (by omega) (by omega) w hw.tab).mono ?_
  rintro e w' ⟨rfl, k, os, rfl⟩
  exact ⟨rfl, ext_grow _ _ _⟩
theorem handT_snoc : ∀ {ps : List PieceM} {l : List Int} (p : PieceM) (n : Int), ps.length = l.length → handT (ps ++ [p]) (l ++ [n]) = handT ps l ++ (if 0 < n then chU p.letter :: Lib.itoa n else [])
  | [], [], p, n, _ => by simp [handT]
  | [], _ :: _, _, _, h => by simp at h
  | _ :: _, [], _, _, h => by simp at h
  | q :: ps, m :: l, p, n, h => by
    rw [List.cons_append, List.cons_append, handT, handT, handT_snoc p n (by simpa using h), List.append_assoc]
theorem strU_app (a b : BL) : strU a ++ strU b = strU (a ++ b) := by
  apply strU_ext
  simp [strU_data]
theorem itoa_len {n : Int} (h0 : 0 ≤ n) (h1 : n ≤ 1000) : (Lib.itoa n).length ≤ 4 := by
  obtain ⟨u, rfl⟩ := Int.eq_ofNat_of_zero_le h0
  rw [Lib.itoa_nonneg, Lib.decDigits_length]
  exact nDigits_le4 (by omega)
set_option maxHeartbeats 4000000 in
set_option maxRecDepth 100000 in
theorem hand_any (R : RulesM) (v : Value) (l : List Int) (A : Option Addr) (n c : Nat) (w : World) (hR : RulesAt w v R) (hL : Lets R.pieces) (h6 : R.pieces.length ≤ 6) (hn : l.length = n) (hln : R.pieces.length = n) (hl : ∀ x ∈ l, 0 ≤ x ∧ x ≤ 1000) (hA : IntsAt w A l) (hw : LibW w) :
    Calls Tryd.prog 56 #[v, .slice A n c] w fun e w' => e = .returned (.string (strU (handS R.pieces l))) ∧ Ext w w' := by
  obtain ⟨pA, pc, sA, sc, eA, ec, rfl, hp, -⟩ := hR
  obtain ⟨ps, hps⟩ : ∃ ps, ps = R.pieces := ⟨_, rfl⟩
  rw [← hps] at hL h6 hln hp ⊢
  rw [hln]
  have HP := Lib.hid hp
  have HA := Lib.hid hA
  have HL := Lib.hid hl
  have HLT := Lib.hid hL
  have HN := Lib.hid hn
  have HM := Lib.hid hln
  have HLW := Lib.hid hw
  have hn6 : n ≤ 6 := by omega
  obtain ⟨xa, k1⟩ := blks1 w #[.string R.name, .int .i64 R.width, .int .i64 R.height, .slice pA n pc, .slice sA R.start.length sc, .bool R.falls, .bool R.keeps, .slice eA R.ends.length ec, .int .i64 R.blocked, .int .i64 R.quiet, .int .i64 R.rept] 26
  have XA := Lib.hid xa
  have HC := Lib.hid (k1.cell 3)
  clear hp hA hl hL hn hln hw h6 hps xa k1
  go_enter Tryd.func56, Tryd.ntmps56
  go_wp2_with fail
  generalize w.alloc _ = wA at *
  generalize w.heap.size = BR at *
  go_loopw [5, 10] (fun out i wr => ∃ k : Nat, k ≤ n ∧ i = .int .i64 (k : Int) ∧ out = .string (strU (handT (ps.take k) (l.take k))) ∧ Ext w wr ∧ wr.cell? ⟨BR, 3, none⟩ = some (.slice pA n pc)) (fun _ i _ => n - (RowKit.intOf i).toNat)
  case atStart => exact ⟨0, Nat.zero_le _, rfl, rfl, XA.out, by simpa using HC.out⟩
  case round =>
    obtain ⟨k, hk, rfl, rfl, hx, hc3⟩ := hrel
    by_cases hkn : k < n
    · obtain ⟨p, hpk⟩ : ∃ p, ps[k]? = some p := ⟨_, List.getElem?_eq_getElem (by rw [HM.out]; exact hkn)⟩
      obtain ⟨y, hy⟩ : ∃ y, l[k]? = some y := ⟨_, List.getElem?_eq_getElem (by rw [HN.out]; exact hkn)⟩
      have hy1 := HL.out y (List.mem_of_getElem? hy)
      obtain ⟨b, o, rfl, hcy⟩ := (HA.out.ext hx) k (by rw [HN.out]; exact hkn)
      rw [show l.getD k 0 = y by rw [List.getD_eq_getElem?_getD, hy]; rfl] at hcy
      have HTK := Lib.hid (show handT (ps.take (k + 1)) (l.take (k + 1)) = handT (ps.take k) (l.take k) ++ (if 0 < y then chU p.letter :: Lib.itoa y else []) by
        rw [List.take_add_one, List.take_add_one, hpk, hy]
        exact handT_snoc p y (by rw [List.length_take, List.length_take, HM.out, HN.out]))
      have HPL := Lib.hid (show (handT (ps.take k) (l.take k)).length ≤ 100 from by
        have h1 := handT_len (ps := []) (l.take k) (fun x hx => HL.out x (List.mem_of_mem_take hx)) (ps.take k)
        rw [List.length_take] at h1
        omega)
      have HKN := Lib.hid hkn
      have t0 : decide ((k : Int) < (n : Int)) = true := decide_eq_true (by omega)
      have t0n : decide (k < n) = true := decide_eq_true hkn
      have k5 : (k : Int) < (n : Int) := by omega
      have k6 : (k : Int) ≤ 6 := by omega
      obtain ⟨pb, po, wA2, wc, rfl, c0, -, -, -, -⟩ := (HP.out.ext hx).get hpk
      have hlt := HLT.out.in_ k p hpk
      obtain ⟨z, hz⟩ := Int.eq_ofNat_of_zero_le (show 0 ≤ p.letter by omega)
      have hz2 : 65 ≤ z ∧ z ≤ 90 := by omega
      have hch : chU p.letter = UInt8.ofNat z := by rw [hz]; rfl
      have HX := Lib.hid hx
      have HC3 := Lib.hid hc3
      have HC0 := Lib.hid c0
      by_cases h0 : 0 < y
      · rw [if_pos h0, hch] at HTK
        have t1 : decide ((0 : Int) < y) = true := decide_eq_true h0
        have hcv := fun W => run_rune ⟨z, by omega⟩ W
        have HIT := Lib.hid (fun W (x : Ext wr W) => itoa_any y hy1.1 hy1.2 W (HLW.out.ext (ext_trans HX.out x)))
        have hil := itoa_len hy1.1 hy1.2
        have w32 : IntKind.i32.wrap (z : Int) = (z : Int) := by rw [IntKind.wrap_i32]; omega
        rw [hz] at HC0
        have q1 := strU_size (Lib.itoa y)
        have q2 := strU_size [UInt8.ofNat z]
        have q3 := strU_size (handT (ps.take k) (l.take k))
        have q4 : (strU [UInt8.ofNat z] ++ strU (Lib.itoa y)).size ≤ 100 := by rw [strU_app, strU_size]; simp; omega
        have HPL2 := HPL.out
        rw [← q3] at HPL2
        rw [← q1] at hil
        have q5 : (strU [UInt8.ofNat z]).size = 1 := by rw [q2]; rfl
        have HF := Lib.hid (show strU (handT (ps.take (k + 1)) (l.take (k + 1))) = strU (handT (ps.take k) (l.take k)) ++ (strU [UInt8.ofNat z] ++ strU (Lib.itoa y)) by rw [HTK.out, strU_app, strU_app]; rfl)
        have q6 : ¬ (9223372036854775807 < (strU [UInt8.ofNat z]).size + (strU (Lib.itoa y)).size) := by omega
        have q7 : ¬ (9223372036854775807 < (strU (handT (ps.take k) (l.take k))).size + (strU [UInt8.ofNat z] ++ strU (Lib.itoa y)).size) := by omega
        have q8 : ¬ (9223372036854775807 < (strU (handT (ps.take k) (l.take k))).size + ((strU [UInt8.ofNat z]).size + (strU (Lib.itoa y)).size)) := by omega
        simp only at hcv
        clear hlt hz hch hz2 hpk hy hkn hy1 hil q1 q2 q3 q4 q5 HPL2 hx hc3 c0 h0 HTK HPL hk
        generalize strU (Lib.itoa y) = S2 at *
        generalize strU [UInt8.ofNat z] = S1 at *
        generalize strU (handT (ps.take k) (l.take k)) = S0 at *
        generalize (z : Int) = lt at *
        generalize hnp : n = np at *
        go_upto_region 6 with fail
        have keepK := hide (fun W (h : Ext wr W) => (show (fun W => W.cell? ⟨BR, 3, none⟩ = some (.slice (some ⟨pb, po, none⟩) np pc) ∧ W.cell? ⟨pb, po + k * 4, none⟩ = some (.int .u8 lt) ∧ Ext wr W) W from ⟨Ext.cell h HC3.out, Ext.cell h HC0.out, h⟩))
        have yy : Ext wr wr.drew := Below.drew (Below.refl _ _)
        refine region_K (fun W => W.cell? ⟨BR, 3, none⟩ = some (.slice (some ⟨pb, po, none⟩) np pc) ∧ W.cell? ⟨pb, po + k * 4, none⟩ = some (.int .u8 lt) ∧ Ext wr W) (fun _ => True) [] (by kernel_rfl) ?_
        have hT0 := keepK.out _ yy
        refine anyK_take 0 (oi := ?oo1) ?ho1 (by kernel_rfl) (by kernel_rfl) (by kernel_rfl) (by kernel_rfl) ?hq1 ?hw1 hT0 (fun _ => trivial) (v := ?vv1) ?hy1 ?hk1
        case ho1 => (simp only [List.getElem?_toArray, List.getElem?_cons_succ, List.getElem?_cons_zero]; rfl)
        case hq1 => exact fun _ _ _ h => h
        case hw1 => rfl
        case hy1 =>
          intro W hW
          go_simp
          first | done | with_reducible rfl
        case hk1 =>
        try simp only [Act.put, List.setIfInBounds_toArray, List.set_cons_zero, List.set_cons_succ]
        refine anyK_take 1 (oi := ?oo2) ?ho2 (by kernel_rfl) (by kernel_rfl) (by kernel_rfl) (by kernel_rfl) ?hq2 ?hw2 hT0 (fun _ => trivial) (v := ?vv2) ?hy2 ?hk2
        case ho2 => (simp only [List.getElem?_toArray, List.getElem?_cons_succ, List.getElem?_cons_zero]; rfl)
        case hq2 => exact fun _ _ _ h => h
        case hw2 => rfl
        case hy2 =>
          intro W hW
          go_simp
          first | done | with_reducible rfl
        case hk2 =>
        try simp only [Act.put, List.setIfInBounds_toArray, List.set_cons_zero, List.set_cons_succ]
        refine anyK_take 2 (oi := ?oo3) ?ho3 (by kernel_rfl) (by kernel_rfl) (by kernel_rfl) (by kernel_rfl) ?hq3 ?hw3 hT0 (fun _ => trivial) (v := ?vv3) ?hy3 ?hk3
        case ho3 => (simp only [List.getElem?_toArray, List.getElem?_cons_succ, List.getElem?_cons_zero]; rfl)
        case hq3 => exact fun _ _ _ h => h
        case hw3 => rfl
        case hy3 =>
          intro W hW
          obtain ⟨z0, z1, z2⟩ := hW
          go_simp
          first | done | with_reducible rfl
        case hk3 =>
        try simp only [Act.put, List.setIfInBounds_toArray, List.set_cons_zero, List.set_cons_succ]
        refine anyK_take 3 (oi := ?oo4) ?ho4 (by kernel_rfl) (by kernel_rfl) (by kernel_rfl) (by kernel_rfl) ?hq4 ?hw4 hT0 (fun _ => trivial) (v := ?vv4) ?hy4 ?hk4
        case ho4 => (simp only [List.getElem?_toArray, List.getElem?_cons_succ, List.getElem?_cons_zero]; rfl)
        case hq4 => exact fun _ _ _ h => h
        case hw4 => rfl
        case hy4 =>
          intro W hW
          go_simp
          first | done | with_reducible rfl
        case hk4 =>
        try simp only [Act.put, List.setIfInBounds_toArray, List.set_cons_zero, List.set_cons_succ]
        refine anyK_take 4 (oi := ?oo5) ?ho5 (by kernel_rfl) (by kernel_rfl) (by kernel_rfl) (by kernel_rfl) ?hq5 ?hw5 hT0 (fun _ => trivial) (v := ?vv5) ?hy5 ?hk5
        case ho5 => (simp only [List.getElem?_toArray, List.getElem?_cons_succ, List.getElem?_cons_zero]; rfl)
        case hq5 => exact fun _ _ _ h => h
        case hw5 => rfl
        case hy5 =>
          intro W hW
          go_simp
          first | done | with_reducible rfl
        case hk5 =>
        try simp only [Act.put, List.setIfInBounds_toArray, List.set_cons_zero, List.set_cons_succ]
        refine anyK_take 5 (oi := ?oo6) ?ho6 (by kernel_rfl) (by kernel_rfl) (by kernel_rfl) (by kernel_rfl) ?hq6 ?hw6 hT0 (fun _ => trivial) (v := ?vv6) ?hy6 ?hk6
        case ho6 => (simp only [List.getElem?_toArray, List.getElem?_cons_succ, List.getElem?_cons_zero]; rfl)
        case hq6 => exact fun _ _ _ h => h
        case hw6 => rfl
        case hy6 =>
          intro W hW
          go_simp
          first | done | with_reducible rfl
        case hk6 =>
        try simp only [Act.put, List.setIfInBounds_toArray, List.set_cons_zero, List.set_cons_succ]
        refine anyK_take 6 (oi := ?oo7) ?ho7 (by kernel_rfl) (by kernel_rfl) (by kernel_rfl) (by kernel_rfl) ?hq7 ?hw7 hT0 (fun _ => trivial) (v := ?vv7) ?hy7 ?hk7
        case ho7 => (simp only [List.getElem?_toArray, List.getElem?_cons_succ, List.getElem?_cons_zero]; rfl)
        case hq7 => exact fun _ _ _ h => h
        case hw7 => rfl
        case hy7 =>
          intro W hW
          obtain ⟨z0, z1, z2⟩ := hW
          go_simp
          first | done | with_reducible rfl
        case hk7 =>
        try simp only [Act.put, List.setIfInBounds_toArray, List.set_cons_zero, List.set_cons_succ]
        refine anyK_take 7 (oi := ?oo8) ?ho8 (by kernel_rfl) (by kernel_rfl) (by kernel_rfl) (by kernel_rfl) ?hq8 ?hw8 hT0 (fun _ => trivial) (v := ?vv8) ?hy8 ?hk8
        case ho8 => (simp only [List.getElem?_toArray, List.getElem?_cons_succ, List.getElem?_cons_zero]; rfl)
        case hq8 => exact fun _ _ _ h => h
        case hw8 => rfl
        case hy8 =>
          intro W hW
          go_simp
          first | done | with_reducible rfl
        case hk8 =>
        try simp only [Act.put, List.setIfInBounds_toArray, List.set_cons_zero, List.set_cons_succ]
        refine anyK_take 8 (oi := ?oo9) ?ho9 (by kernel_rfl) (by kernel_rfl) (by kernel_rfl) (by kernel_rfl) ?hq9 ?hw9 hT0 (fun _ => trivial) (v := ?vv9) ?hy9 ?hk9
        case ho9 => (simp only [List.getElem?_toArray, List.getElem?_cons_succ, List.getElem?_cons_zero]; rfl)
        case hq9 => exact fun _ _ _ h => h
        case hw9 => rfl
        case hy9 =>
          intro W hW
          go_simp
          first | done | with_reducible rfl
        case hk9 =>
        try simp only [Act.put, List.setIfInBounds_toArray, List.set_cons_zero, List.set_cons_succ]
        refine anyK_take 9 (oi := ?oo10) ?ho10 (by kernel_rfl) (by kernel_rfl) (by kernel_rfl) (by kernel_rfl) ?hq10 ?hw10 hT0 (fun _ => trivial) (v := ?vv10) ?hy10 ?hk10
        case ho10 => (simp only [List.getElem?_toArray, List.getElem?_cons_succ, List.getElem?_cons_zero]; rfl)
        case hq10 => exact fun _ _ _ h => h
        case hw10 => rfl
        case hy10 =>
          intro W hW
          go_simp
          first | done | with_reducible rfl
        case hk10 =>
        try simp only [Act.put, List.setIfInBounds_toArray, List.set_cons_zero, List.set_cons_succ]
        refine anyK_on1 10 (by kernel_rfl) ?_
        refine anyK_one 10 (o := ?oo11) ?ho11 ?hk11
        case ho11 => (simp only [List.getElem?_toArray, List.getElem?_cons_succ, List.getElem?_cons_zero]; rfl)
        case hk11 =>
        intro K hK
        go_simp
        refine (HIT.out _ yy).mono ?_
        rintro e wi ⟨rfl, xx⟩
        try go_wp2_with fail
        replace yy := ext_trans yy xx
        have hT1 := keepK.out _ yy
        refine hK.out _ _ hT1 (fun _ => trivial) ?_
        clear hK K
        try simp only [Act.put, List.setIfInBounds_toArray, List.set_cons_zero, List.set_cons_succ]
        refine anyK_take 11 (oi := ?oo12) ?ho12 (by kernel_rfl) (by kernel_rfl) (by kernel_rfl) (by kernel_rfl) ?hq12 ?hw12 hT1 (fun _ => trivial) (v := ?vv12) ?hy12 ?hk12
        case ho12 => (simp only [List.getElem?_toArray, List.getElem?_cons_succ, List.getElem?_cons_zero]; rfl)
        case hq12 => exact fun _ _ _ h => h
        case hw12 => rfl
        case hy12 =>
          intro W hW
          go_simp
          first | done | with_reducible rfl
        case hk12 =>
        try simp only [Act.put, List.setIfInBounds_toArray, List.set_cons_zero, List.set_cons_succ]
        refine anyK_take 12 (oi := ?oo13) ?ho13 (by kernel_rfl) (by kernel_rfl) (by kernel_rfl) (by kernel_rfl) ?hq13 ?hw13 hT1 (fun _ => trivial) (v := ?vv13) ?hy13 ?hk13
        case ho13 => (simp only [List.getElem?_toArray, List.getElem?_cons_succ, List.getElem?_cons_zero]; rfl)
        case hq13 => exact fun _ _ _ h => h
        case hw13 => rfl
        case hy13 =>
          intro W hW
          go_simp
          first | done | with_reducible rfl
        case hk13 =>
        try simp only [Act.put, List.setIfInBounds_toArray, List.set_cons_zero, List.set_cons_succ]
        refine anyK_take 13 (oi := ?oo14) ?ho14 (by kernel_rfl) (by kernel_rfl) (by kernel_rfl) (by kernel_rfl) ?hq14 ?hw14 hT1 (fun _ => trivial) (v := ?vv14) ?hy14 ?hk14
        case ho14 => (simp only [List.getElem?_toArray, List.getElem?_cons_succ, List.getElem?_cons_zero]; rfl)
        case hq14 => exact fun _ _ _ h => h
        case hw14 => rfl
        case hy14 =>
          intro W hW
          go_simp
          first | done | with_reducible rfl
        case hk14 =>
        try simp only [Act.put, List.setIfInBounds_toArray, List.set_cons_zero, List.set_cons_succ]
        refine anyK_done (by kernel_rfl) ?_ _
        clear keepK hT0 hT1
        have HX9 := Lib.hid (ext_trans HX.out yy)
        have HC9 := Lib.hid (Ext.cell yy HC3.out)
        clear yy xx HX HC3 HC0 q6 q7 q8 hcv w32 hcy
        subst hnp
        go_wp2
        go_roundw
        case rel => exact ⟨k + 1, HKN.out, by go_num, by rw [HF.out], HX9.out, HC9.out⟩
        case measure => have := HKN.out; simp [RowKit.intOf]; omega
      · rw [if_neg h0, List.append_nil] at HTK
        have t1 : decide ((0 : Int) < y) = false := decide_eq_false h0
        clear hlt hz hch hz2 hpk hy hkn hy1 hx hc3 c0 h0 HPL hk
        go_wp2
        go_roundw
        case rel => exact ⟨k + 1, HKN.out, by go_num, by rw [HTK.out], HX.out, HC3.out⟩
        case measure => have := HKN.out; simp [RowKit.intOf]; omega
    · obtain rfl : k = n := by omega
      have hps2 : ps.take k = ps := List.take_of_length_le (by rw [HM.out]; exact Nat.le_refl _)
      have hl2 : l.take k = l := List.take_of_length_le (by rw [HN.out]; exact Nat.le_refl _)
      rw [hps2, hl2]
      have t0 : decide ((k : Int) < (k : Int)) = false := decide_eq_false (by omega)
      have t0n : decide (k < k) = false := decide_eq_false (by omega)
      have HX := Lib.hid hx
      clear hx hc3 hk hkn hps2 hl2
      by_cases he : handT ps l = []
      · have HE := Lib.hid (show handS ps l = [45] by unfold handS; rw [if_pos he])
        rw [he]
        have e1 : (strU []).toList.isEmpty = true := by rw [Lib.toList_data]; rfl
        clear he
        go_wp2
        go_ret
        exact ⟨by rw [HE.out]; rfl, HX.out⟩
      · have HE := Lib.hid (show handS ps l = handT ps l by unfold handS; rw [if_neg he])
        have e1 : (strU (handT ps l)).toList.isEmpty = false := by
          rw [Lib.toList_data, strU_data]
          cases hh : handT ps l with
          | nil => exact absurd hh he
          | cons x y => rfl
        clear he
        generalize hS0 : strU (handT ps l) = S0 at *
        have HS0 := Lib.hid hS0
        clear hS0
        go_wp2
        go_ret
        exact ⟨by rw [HE.out, HS0.out]; rfl, HX.out⟩
end Go.Proofs.YtdoibgmmijhlfaaDoor
