/- Walk: place.Read. -/
import Derived.Test.YtdoibgmmijhlfaaDoorPlaceT
import Derived.Test.YtdoibgmmijhlfaaDoorPlaceZ
import Derived.Test.YtdoibgmmijhlfaaDoorGTxtD
import Derived.Test.YtdoibgmmijhlfaaDoorGTxtA
import Derived.Test.YtdoibgmmijhlfaaDoorGPlace
import Derived.Test.YtdoibgmmijhlfaaDoorMirror
import Derived.Test.YtdoibgmmijhlfaaDoorIRow
namespace Go.Proofs.YtdoibgmmijhlfaaDoor
open Go.RowKit
set_option linter.unusedVariables false
set_option linter.unusedSimpArgs false
abbrev zeroPosD : Value := .agg #[.slice none 0 0, .slice none 0 0, .slice none 0 0, .int .i64 0, .int .i64 0]
theorem readT_five {R : RulesM} {s a b c d e : BL} (hl : s.length ≤ 8192) (h : splitL 32 s = [a, b, c, d, e]) : readT R s = if soundE R (partsR R a b c d e) = 0 ∧ textT R (partsR R a b c d e) = s then some (partsR R a b c d e) else none := by
  unfold readT
  rw [if_neg (by omega), h]
theorem readT_not {R : RulesM} {s : BL} (h : (splitL 32 s).length ≠ 5) : readT R s = none := by
  unfold readT
  split
  · rfl
  · split
    · rename_i h2
      rw [h2] at h
      exact absurd rfl h
    · rfl
theorem ne_blk {w : World} {g : Nat} {o : Nat} (h : w.heap.size ≤ (⟨g, o, none⟩ : Addr).block) (hg : g < w.heap.size) : False := by
  simp only at h
  omega
theorem ints_set {W : World} {A : Option Addr} {zs : List Int} {g i : Nat} (h : IntsAt W A zs) (hA : ∀ a, A = some a → a.block ≠ g) (u : Value) : IntsAt (W.setCell ⟨g, i, none⟩ u) A zs := by
  intro j hj
  obtain ⟨b, o, rfl, hc⟩ := h j hj
  refine ⟨b, o, rfl, ?_⟩
  have hb : b ≠ g := hA _ rfl
  rw [World.cell?_of_block (a := ⟨b, o + j, none⟩) (Below.heap_setCell W ⟨g, i, none⟩ u b hb)]
  exact hc
theorem ints_set2 {W : World} {A : Option Addr} {zs : List Int} {g i j : Nat} (h : IntsAt W A zs) (hA : ∀ a, A = some a → a.block ≠ g) (u u' : Value) : IntsAt ((W.setCell ⟨g, i, none⟩ u).setCell ⟨g, j, none⟩ u') A zs := ints_set (ints_set h hA u) hA u'
theorem pos_set {W : World} {cA aA bA : Option Addr} {n0 c0 n1 c1 n2 c2 : Nat} {t q : Value} {P : PosM} {g i : Nat} (h : PosAt W (.agg #[.slice cA n0 c0, .slice aA n1 c1, .slice bA n2 c2, t, q]) P) (h0 : ∀ a, cA = some a → a.block ≠ g) (h1 : ∀ a, aA = some a → a.block ≠ g) (h2 : ∀ a, bA = some a → a.block ≠ g) (x : Value) : PosAt (W.setCell ⟨g, i, none⟩ x) (.agg #[.slice cA n0 c0, .slice aA n1 c1, .slice bA n2 c2, t, q]) P := by
  obtain ⟨cA', cc, aA', ac, bA', bc, e, k0, k1, k2, k3, k4, k5⟩ := h
  simp only [Value.agg.injEq, Array.mk.injEq, List.cons.injEq, Value.slice.injEq, and_true] at e
  obtain ⟨⟨rfl, rfl, rfl⟩, ⟨rfl, rfl, rfl⟩, ⟨rfl, rfl, rfl⟩, rfl, rfl⟩ := e
  exact ⟨_, _, _, _, _, _, rfl, ints_set k0 h0 x, ints_set k1 h1 x, ints_set k2 h2 x, k3, k4, k5⟩
theorem pos_set5 {W : World} {cA aA bA : Option Addr} {n0 c0 n1 c1 n2 c2 : Nat} {t q : Value} {P : PosM} (g : Nat) (h : PosAt W (.agg #[.slice cA n0 c0, .slice aA n1 c1, .slice bA n2 c2, t, q]) P) (h0 : ∀ a, cA = some a → a.block ≠ g) (h1 : ∀ a, aA = some a → a.block ≠ g) (h2 : ∀ a, bA = some a → a.block ≠ g) (x0 x1 x2 x3 x4 : Value) : PosAt (((((W.setCell ⟨g, 0, none⟩ x0).setCell ⟨g, 1, none⟩ x1).setCell ⟨g, 2, none⟩ x2).setCell ⟨g, 3, none⟩ x3).setCell ⟨g, 4, none⟩ x4) (.agg #[.slice cA n0 c0, .slice aA n1 c1, .slice bA n2 c2, t, q]) P :=
  pos_set (pos_set (pos_set (pos_set (pos_set h h0 h1 h2 x0) h0 h1 h2 x1) h0 h1 h2 x2) h0 h1 h2 x3) h0 h1 h2 x4
/-- What place.Read promises. -/
def ReadPost (R : RulesM) (s : BL) (w : World) (e : Ending) (w' : World) : Prop :=
  ((∃ Q u, rulesE R = 0 ∧ readT R s = some Q ∧ e = .returned (.tuple #[u, .int .i64 0]) ∧ PosAt w' u Q) ∨ ((rulesE R ≠ 0 ∨ readT R s = none) ∧ ∃ c, c ≠ 0 ∧ e = .returned (.tuple #[zeroPosD, .int .i64 c]))) ∧ Ext w w'
set_option maxHeartbeats 8000000 in
set_option maxRecDepth 100000 in
theorem read_any (R : RulesM) (v : Value) (S : ByteArray) (s : BL) (hS : S = strU s) (w : World) (hR : RulesAt w v R) (hw : LibW w) :
    Calls Tryd.prog 8 #[v, .string S] w (ReadPost R s w) := by
  have HC := Lib.hid (fun W (x : Ext w W) => Check_any v R W (hR.ext x))
  have HRR := Lib.hid (fun W (x : Ext w W) => hR.ext x)
  have HLW := Lib.hid (fun W (x : Ext w W) => hw.ext x)
  have hsz : S.size = s.length := by rw [hS, strU_size]
  obtain ⟨pA, pc, sA, sc, eA, ec, rfl, -⟩ := hR
  obtain ⟨E, hE⟩ : ∃ E, E = rulesE R := ⟨_, rfl⟩
  rw [← hE] at HC
  have HE := Lib.hid hE
  have HS := Lib.hid hS
  have HSZ := Lib.hid hsz
  obtain ⟨xa, k1, k2⟩ := blks2 w #[.string R.name, .int .i64 R.width, .int .i64 R.height, .slice pA R.pieces.length pc, .slice sA R.start.length sc, .bool R.falls, .bool R.keeps, .slice eA R.ends.length ec, .int .i64 R.blocked, .int .i64 R.quiet, .int .i64 R.rept] 26 #[.slice none 0 0, .slice none 0 0, .slice none 0 0, .int .i64 0, .int .i64 0] 29
  clear hE hS hw hsz
  go_enter Tryd.func8, Tryd.ntmps8
  go_upto_region 1 with fail
  generalize (w.alloc _).alloc _ = w3 at *
  obtain ⟨B, hB⟩ : ∃ B, B = w.heap.size := ⟨_, rfl⟩
  rw [← hB] at k1 k2 ⊢
  obtain ⟨RB, hRB⟩ : ∃ RB, RB = B + 1 := ⟨_, rfl⟩
  rw [← hRB] at k2 ⊢
  have HB3 := Lib.hid k1
  have HR3 := Lib.hid k2
  have X3 := Lib.hid xa
  have HLE := Lib.hid (show w.heap.size ≤ RB by omega)
  have hc2 := k1.cell
  clear hB hRB k2 xa k1
  go_wp2_with fail
  refine (HC.out _ X3.out).mono ?_
  rintro e WE ⟨rfl, x4⟩
  have KRB := Lib.hid (HR3.out.ext x4)
  have KB4 := Lib.hid (HB3.out.ext x4)
  have XWE := Lib.hid (ext_trans X3.out x4)
  clear hc2 x4 HR3 HB3 X3
  by_cases hE0 : E = 0
  · have t0 : (E != 0) = false := by simp [hE0]
    have HE0 := Lib.hid hE0
    clear hE0
    have hVal := valid_of (by rw [← HE.out]; exact HE0.out : rulesE R = 0)
    have HV := Lib.hid hVal
    have HLT := Lib.hid (lets_of (by rw [← HE.out]; exact HE0.out : rulesE R = 0))
    clear hVal
    by_cases hlen : 8192 < s.length
    · have t1 : decide ((8192 : Int) < (S.size : Int)) = true := decide_eq_true (by have := HSZ.out; omega)
      have hno : readT R s = none := by unfold readT; rw [if_pos hlen]
      have HNO := Lib.hid hno
      clear hlen hno
      have gz := KRB.out.frozen
      have gc := KRB.out.cell
      go_wp2
      have K9 := blk_put (i := 4) (u := .int .i64 0) (blk_put (i := 3) (u := .int .i64 0) (blk_put (i := 2) (u := .slice none 0 0) (blk_put (i := 1) (u := .slice none 0 0) (blk_put (i := 0) (u := .slice none 0 0) KRB.out rfl) rfl) rfl) rfl) (cs' := #[.slice none 0 0, .slice none 0 0, .slice none 0 0, .int .i64 0, .int .i64 0]) rfl
      have X9 := (ext_set (ext_set (ext_set (ext_set (ext_set XWE.out (p := ⟨RB, 0, none⟩) HLE.out (.slice none 0 0)) (p := ⟨RB, 1, none⟩) HLE.out (.slice none 0 0)) (p := ⟨RB, 2, none⟩) HLE.out (.slice none 0 0)) (p := ⟨RB, 3, none⟩) HLE.out (.int .i64 0)) (p := ⟨RB, 4, none⟩) HLE.out (.int .i64 0))
      generalize (((((WE.setCell ⟨RB, 0, none⟩ (.slice none 0 0)).setCell ⟨RB, 1, none⟩ (.slice none 0 0)).setCell ⟨RB, 2, none⟩ (.slice none 0 0)).setCell ⟨RB, 3, none⟩ (.int .i64 0)).setCell ⟨RB, 4, none⟩ (.int .i64 0)) = Wf at *
      clear gz gc
      have rr0 : Wf.cell? ⟨RB, 0, none⟩ = some (.slice none 0 0) := K9.cell 0
      have rr1 : Wf.cell? ⟨RB, 1, none⟩ = some (.slice none 0 0) := K9.cell 1
      have rr2 : Wf.cell? ⟨RB, 2, none⟩ = some (.slice none 0 0) := K9.cell 2
      have rr3 : Wf.cell? ⟨RB, 3, none⟩ = some (.int .i64 0) := K9.cell 3
      have rr4 : Wf.cell? ⟨RB, 4, none⟩ = some (.int .i64 0) := K9.cell 4
      refine bodyPost_ret (v := .tuple #[zeroPosD, .int .i64 2]) ?_ rfl ?_
      · simp [results, Tryd.results8, go_sem, rr0, rr1, rr2, rr3, rr4]
      · exact ⟨.inr ⟨.inr HNO.out, 2, by decide, rfl⟩, X9⟩
    · have t1 : decide ((8192 : Int) < (S.size : Int)) = false := decide_eq_false (by have := HSZ.out; omega)
      have HLN := Lib.hid (show s.length ≤ 8192 by omega)
      clear hlen
      have HSP := Lib.hid (by rw [HS.out]; exact split_blk 32 s HLN.out WE (HLW.out _ XWE.out) : Calls Tryd.prog 24 #[.string S, .string (strU [32])] WE _)
      go_wp2_with fail
      refine HSP.out.mono ?_
      rintro e WF ⟨g, rfl, hG, hgl, x5⟩
      have XWF := Lib.hid (ext_trans XWE.out x5)
      have KR5 := Lib.hid (KRB.out.ext x5)
      have KB5 := Lib.hid (KB4.out.ext x5)
      have HGG := Lib.hid hgl
      clear x5 hgl XWE KRB KB4 HSP
      by_cases h5 : (splitL 32 s).length = 5
      · obtain ⟨a, b, c, d, e, h5e⟩ : ∃ a b c d e, splitL 32 s = [a, b, c, d, e] := by
          match h : splitL 32 s, h5 with
          | [a, b, c, d, e], _ => exact ⟨a, b, c, d, e, rfl⟩
        have hsub := splitL_sub 32 s
        have HRT := Lib.hid (readT_five (R := R) HLN.out h5e)
        rw [h5e] at hG hsub ⊢
        have HA := Lib.hid (hsub a (by simp))
        have HBl := Lib.hid (hsub b (by simp))
        have HCl := Lib.hid (hsub c (by simp))
        have HD := Lib.hid (hsub d (by simp))
        have HEl := Lib.hid (hsub e (by simp))
        have HG5 := Lib.hid (show Blk WF g 9 #[.string (strU a), .string (strU b), .string (strU c), .string (strU d), .string (strU e)] from hG)
        have hcg := HG5.out.cell
        have HSP := Lib.hid (split_own 47 a (by have := HA.out; have := HLN.out; omega) WF (HLW.out _ XWF.out))
        clear h5 h5e hsub hG
        have h5n : ((5 : Int) != 5) = false := rfl
        go_wp2_with fail
        refine HSP.out.mono ?_
        rintro e WG ⟨gr, rfl, hO, x6⟩
        obtain ⟨L, hL⟩ : ∃ L, L = splitL 47 a := ⟨_, rfl⟩
        have hLn := splitL_cnt 47 a
        have hLs := splitL_sub 47 a
        rw [← hL] at hO hLn hLs ⊢
        have HLA := Lib.hid hL
        have HLN2 := Lib.hid hLn
        have HLS := Lib.hid hLs
        have HRV := Lib.hid (reverse_any WF WG L gr L.length hO)
        have HX6 := Lib.hid x6
        clear HSP hO x6 hL hLn hLs hcg h5n
        go_wp2_with fail
        refine HRV.out.mono ?_
        rintro e w6 ⟨rfl, hO6, hb6⟩
        have hx6 := hb6 _ _ (Nat.le_refl _) HX6.out
        have HB6 := Lib.hid (KB5.out.ext hx6)
        have KR6 := Lib.hid (KR5.out.ext hx6)
        have HG6 := Lib.hid (HG5.out.ext hx6)
        have XW6 := Lib.hid (ext_trans XWF.out hx6)
        have HO6 := Lib.hid hO6
        have hLr : L.reverse.length = L.length := List.length_reverse
        obtain ⟨LR, hLR⟩ : ∃ LR, LR = L.reverse := ⟨_, rfl⟩
        rw [← hLR] at HO6 hLr
        obtain ⟨n, hn⟩ : ∃ n, L.length = n := ⟨_, rfl⟩
        rw [hn] at HO6 hLr ⊢
        have HLR := Lib.hid hLR
        have HNL := Lib.hid hn
        have HLRn := Lib.hid hLr
        clear HRV hO6 hb6 hx6 hLr hLR hn HX6 KB5 KR5 HG5 XWF HSZ
        go_upto_region 12 with fail
        obtain ⟨x7, k7⟩ := blks1 w6 #[.slice none 0 0, .slice none 0 0, .slice none 0 0, .int .i64 0, .int .i64 0] 29
        generalize w6.alloc _ = w7 at *
        obtain ⟨PB, hPB⟩ : ∃ PB, PB = w6.heap.size := ⟨_, rfl⟩
        rw [← hPB] at k7 ⊢
        have HPB := Lib.hid (show w6.heap.size ≤ PB by omega)
        have HP7 := Lib.hid k7
        have X67 := Lib.hid x7
        clear k7 x7 hPB
        go_wp2_with fail
        go_loopw [36] (fun iv wr => ∃ (k : Nat) (cs : List Int) (oA : Option Addr) (oc : Nat), k ≤ n ∧ iv = .int .i64 (k : Int) ∧ cs = cellsR R.pieces R.width.toNat (LR.take k) ∧ cs.length ≤ 17 * k ∧ OwnR 3 1 w6 wr (.slice oA cs.length oc) cs.length (cs.map (Value.int .i64)) ∧ Blk wr PB 29 #[.slice oA cs.length oc, .slice none 0 0, .slice none 0 0, .int .i64 0, .int .i64 0] ∧ Ext w6 wr) (fun iv _ => n - (RowKit.intOf iv).toNat)
        case atStart => exact ⟨0, [], none, 0, Nat.zero_le _, rfl, rfl, by simp, OwnR.nil _ _ _ _, HP7.out, X67.out⟩
        case round =>
          obtain ⟨k, cs, oA, oc, hk, rfl, hcs, hcl, hO, hP, hx⟩ := hrel
          have HE6 := Lib.hid hx
          have HO := Lib.hid hO
          have HP := Lib.hid hP
          have HCN0 := Lib.hid hcl
          have HCS := Lib.hid hcs
          clear hx hO hP hcl hcs
          by_cases hkn : k < n
          · obtain ⟨x, hxk⟩ : ∃ x, LR[k]? = some x := ⟨_, List.getElem?_eq_getElem (by have := HLRn.out; omega)⟩
            have hxl : x.length ≤ a.length := by
              have hm := List.mem_of_getElem? hxk
              rw [HLR.out, List.mem_reverse] at hm
              exact HLS.out x hm
            have hx8 : x.length ≤ 8192 := by have := HA.out; have := HLN.out; omega
            have HSN := Lib.hid (cellsR_snoc R.pieces R.width.toNat hxk)
            have hsd : (1 ≤ R.width ∧ R.width ≤ 8) ∧ (1 ≤ R.height ∧ R.height ≤ 8) := by
              have := HV.out.side
              unfold okSide at this
              omega
            have HRW := Lib.hid (fun W (y : Ext wr W) => readRow_any R _ x W (HRR.out W (ext_trans XW6.out (ext_trans HE6.out y))) HV.out.pieces6 hsd.1.1 hsd.1.2 hx8 (HLW.out W (ext_trans XW6.out (ext_trans HE6.out y))))
            obtain ⟨rr, hrr⟩ : ∃ rr, rr = readRowR R.pieces R.width.toNat (x.length + 1) [] x := ⟨_, rfl⟩
            rw [← hrr] at HRW HSN
            have HKN := Lib.hid hkn
            have HCN := Lib.hid (show cs.length ≤ 200000 by have := HCN0.out; have := HLN2.out; have := HNL.out; have := HA.out; have := HLN.out; omega)
            have t0 : decide ((k : Int) < (n : Int)) = true := decide_eq_true (by omega)
            have t0n : decide (k < n) = true := decide_eq_true hkn
            have k5 : (k : Int) < (n : Int) := by omega
            have k6 : (k : Int) ≤ 8192 := by have := HLN2.out; have := HNL.out; have := HA.out; have := HLN.out; omega
            obtain ⟨LA, lc, e1, hLc⟩ : ∃ A c, Value.slice (some ⟨gr, 0, none⟩) n n = .slice A n c ∧ CellsAt wr A (strsC LR) := by
              obtain ⟨A, c, e, hc, -⟩ := HO6.out.cells
              exact ⟨A, c, e, hc.ext HE6.out⟩
            have hcx : wr.cell? ⟨gr, k, none⟩ = some (.string (strU x)) := by
              simp only [Value.slice.injEq] at e1
              obtain ⟨e1, -, -⟩ := e1
              rw [← e1] at hLc
              obtain ⟨b', o', e2, hc⟩ := hLc k _ (strsC_get hxk)
              injection e2 with e2
              injection e2 with e3 e4
              subst e3 e4
              rw [Nat.zero_add] at hc
              exact hc
            clear e1 hLc hrr hsd hx8 hxl hxk hkn hk
            go_upto_region 15 with fail
            have z0 : Ext wr wr.drew := Below.drew (Below.refl _ _)
            have keepK := hide (fun W (h : Ext w6 W) => (show (fun W => W.cell? ⟨B, 0, none⟩ = some (.string R.name) ∧ W.cell? ⟨B, 1, none⟩ = some (.int .i64 R.width) ∧ W.cell? ⟨B, 2, none⟩ = some (.int .i64 R.height) ∧ W.cell? ⟨B, 3, none⟩ = some (.slice pA R.pieces.length pc) ∧ W.cell? ⟨B, 4, none⟩ = some (.slice sA R.start.length sc) ∧ W.cell? ⟨B, 5, none⟩ = some (.bool R.falls) ∧ W.cell? ⟨B, 6, none⟩ = some (.bool R.keeps) ∧ W.cell? ⟨B, 7, none⟩ = some (.slice eA R.ends.length ec) ∧ W.cell? ⟨B, 8, none⟩ = some (.int .i64 R.blocked) ∧ W.cell? ⟨B, 9, none⟩ = some (.int .i64 R.quiet) ∧ W.cell? ⟨B, 10, none⟩ = some (.int .i64 R.rept) ∧ Ext w6 W) W from ⟨(HB6.out.ext h).cell 0, (HB6.out.ext h).cell 1, (HB6.out.ext h).cell 2, (HB6.out.ext h).cell 3, (HB6.out.ext h).cell 4, (HB6.out.ext h).cell 5, (HB6.out.ext h).cell 6, (HB6.out.ext h).cell 7, (HB6.out.ext h).cell 8, (HB6.out.ext h).cell 9, (HB6.out.ext h).cell 10, h⟩))
            have yy := ext_trans HE6.out z0
            refine region_K (fun W => W.cell? ⟨B, 0, none⟩ = some (.string R.name) ∧ W.cell? ⟨B, 1, none⟩ = some (.int .i64 R.width) ∧ W.cell? ⟨B, 2, none⟩ = some (.int .i64 R.height) ∧ W.cell? ⟨B, 3, none⟩ = some (.slice pA R.pieces.length pc) ∧ W.cell? ⟨B, 4, none⟩ = some (.slice sA R.start.length sc) ∧ W.cell? ⟨B, 5, none⟩ = some (.bool R.falls) ∧ W.cell? ⟨B, 6, none⟩ = some (.bool R.keeps) ∧ W.cell? ⟨B, 7, none⟩ = some (.slice eA R.ends.length ec) ∧ W.cell? ⟨B, 8, none⟩ = some (.int .i64 R.blocked) ∧ W.cell? ⟨B, 9, none⟩ = some (.int .i64 R.quiet) ∧ W.cell? ⟨B, 10, none⟩ = some (.int .i64 R.rept) ∧ Ext w6 W) (fun W => W.cell? ⟨PB, 0, none⟩ = some (.slice oA cs.length oc)) [7] (by kernel_rfl) ?_
            have hS0 := (show World.cell? (wr.drew) ⟨PB, 0, none⟩ = some (.slice oA cs.length oc) from by first | exact HP.out.cell 0 | exact (HP.out.ext (ext_trans z0 x4)).cell 0 | exact HP9.out.cell 0)
            have hT0 := keepK.out _ yy
            refine anyK_take 0 (oi := ?oo1) ?ho1 (by kernel_rfl) (by kernel_rfl) (by kernel_rfl) (by kernel_rfl) ?hq1 ?hw1 hT0 (fun _ => hS0) (v := ?vv1) ?hy1 ?hk1
            case ho1 => (simp only [List.getElem?_toArray, List.getElem?_cons_succ, List.getElem?_cons_zero]; rfl)
            case hq1 => exact fun _ _ _ h => h
            case hw1 => rfl
            case hy1 =>
              intro W hW
              go_simp
              first | done | with_reducible rfl
            case hk1 =>
            try simp only [Act.put, List.setIfInBounds_toArray, List.set_cons_zero, List.set_cons_succ]
            refine anyK_load 1 (oi := ?oo2) ?ho2 (by kernel_rfl) (by kernel_rfl) (by kernel_rfl) (by kernel_rfl) (by kernel_rfl) (by kernel_rfl) ?hq2 ?hw2 hT0 hS0 (v := ?vv2) ?hy2 ?hk2
            case ho2 => (simp only [List.getElem?_toArray, List.getElem?_cons_succ, List.getElem?_cons_zero]; rfl)
            case hq2 => exact fun _ _ _ h => h
            case hw2 => rfl
            case hy2 =>
              intro W hW1 hW
              go_simp
              first | done | with_reducible rfl
            case hk2 =>
            try simp only [Act.put, List.setIfInBounds_toArray, List.set_cons_zero, List.set_cons_succ]
            refine anyK_take 2 (oi := ?oo3) ?ho3 (by kernel_rfl) (by kernel_rfl) (by kernel_rfl) (by kernel_rfl) ?hq3 ?hw3 hT0 (fun _ => hS0) (v := ?vv3) ?hy3 ?hk3
            case ho3 => (simp only [List.getElem?_toArray, List.getElem?_cons_succ, List.getElem?_cons_zero]; rfl)
            case hq3 => exact fun _ _ _ h => h
            case hw3 => rfl
            case hy3 =>
              intro W hW
              obtain ⟨z0, z1, z2, z3, z4, z5, z6, z7, z8, z9, z10, z11⟩ := hW
              go_simp
              first | done | with_reducible rfl
            case hk3 =>
            try simp only [Act.put, List.setIfInBounds_toArray, List.set_cons_zero, List.set_cons_succ]
            refine anyK_take 3 (oi := ?oo4) ?ho4 (by kernel_rfl) (by kernel_rfl) (by kernel_rfl) (by kernel_rfl) ?hq4 ?hw4 hT0 (fun _ => hS0) (v := ?vv4) ?hy4 ?hk4
            case ho4 => (simp only [List.getElem?_toArray, List.getElem?_cons_succ, List.getElem?_cons_zero]; rfl)
            case hq4 => exact fun _ _ _ h => h
            case hw4 => rfl
            case hy4 =>
              intro W hW
              go_simp
              first | done | with_reducible rfl
            case hk4 =>
            try simp only [Act.put, List.setIfInBounds_toArray, List.set_cons_zero, List.set_cons_succ]
            refine anyK_on1 4 (by kernel_rfl) ?_
            refine anyK_one 4 (o := ?oo5) ?ho5 ?hk5
            case ho5 => (simp only [List.getElem?_toArray, List.getElem?_cons_succ, List.getElem?_cons_zero]; rfl)
            case hk5 =>
            intro K hK
            go_simp
            refine (HRW.out _ z0).mono ?_
            rintro e wi ⟨⟨qA, qc, rfl, hq1, hq2, hq3, hq4⟩, xx⟩
            try go_wp2_with fail
            replace yy := ext_trans yy xx
            have x4 := xx
            have HQ := Lib.hid (And.intro hq4 hq3)
            have HRL := Lib.hid hq2
            clear hq1 hq2 hq3 hq4
            have hT1 := keepK.out _ yy
            have hS1 := (show World.cell? (wi) ⟨PB, 0, none⟩ = some (.slice oA cs.length oc) from by first | exact HP.out.cell 0 | exact (HP.out.ext (ext_trans z0 x4)).cell 0 | exact HP9.out.cell 0)
            refine hK.out _ _ hT1 (fun _ => hS1) ?_
            clear hK K
            try simp only [Act.put, List.setIfInBounds_toArray, List.set_cons_zero, List.set_cons_succ]
            refine anyK_on1 5 (by kernel_rfl) ?_
            refine anyK_one 5 (o := ?oo6) ?ho6 ?hk6
            case ho6 => (simp only [List.getElem?_toArray, List.getElem?_cons_succ, List.getElem?_cons_zero]; rfl)
            case hk6 =>
            intro K hK
            refine oper_append_a (.tmp 41) (.tmp 44) 23 rfl 3 1 8 (.int .i64 0) Tryd.underlying23 intInfoZ rfl (by decide) (by decide) w6 wi (.slice oA cs.length oc) cs.length (cs.map (Value.int .i64)) (rr.map (Value.int .i64)) rfl (HO.out.ext (ext_trans z0 x4)) qA rr.length qc rfl (by simp) (ints_cells HQ.out.1) (one_ints rr) HQ.out.2 (ext_trans HE6.out (ext_trans z0 x4)) (by have := HCN.out; have := HRL.out; omega) ?_
            intro v9 w9 own9 x9 g9
            have HO9 := Lib.hid own9
            have HP9 := Lib.hid ((HP.out.ext (ext_trans z0 x4)).grown g9 ((HO.out.ext (ext_trans z0 x4)).blk_ne (HP.out.ext (ext_trans z0 x4)) (by decide)))
            obtain ⟨vA, vc, rfl, -, -, -, -⟩ := own9.cells
            have zc := HP9.out.cell
            have zf := HP9.out.frozen
            have yy := x9
            clear own9 x9 g9
            have hT2 := keepK.out _ yy
            have hS2 := (show World.cell? (w9) ⟨PB, 0, none⟩ = some (.slice oA cs.length oc) from by first | exact HP.out.cell 0 | exact (HP.out.ext (ext_trans z0 x4)).cell 0 | exact HP9.out.cell 0)
            refine hK.out _ _ hT2 (fun _ => hS2) ?_
            clear hK K
            try simp only [Act.put, List.setIfInBounds_toArray, List.set_cons_zero, List.set_cons_succ]
            refine anyK_take 6 (oi := ?oo7) ?ho7 (by kernel_rfl) (by kernel_rfl) (by kernel_rfl) (by kernel_rfl) ?hq7 ?hw7 hT2 (fun _ => hS2) (v := ?vv7) ?hy7 ?hk7
            case ho7 => (simp only [List.getElem?_toArray, List.getElem?_cons_succ, List.getElem?_cons_zero]; rfl)
            case hq7 => exact fun _ _ _ h => h
            case hw7 => rfl
            case hy7 =>
              intro W hW
              go_simp
              first | done | with_reducible rfl
            case hk7 =>
            try simp only [Act.put, List.setIfInBounds_toArray, List.set_cons_zero, List.set_cons_succ]
            refine anyK_on1 7 (by kernel_rfl) ?_
            refine anyK_one 7 (o := ?oo8) ?ho8 ?hk8
            case ho8 => (simp only [List.getElem?_toArray, List.getElem?_cons_succ, List.getElem?_cons_zero]; rfl)
            case hk8 =>
            intro K hK
            go_simp
            clear zc zf
            have HP10 := Lib.hid (blk_put (i := 0) (u := .slice vA (cs.length + rr.length) vc) HP9.out (cs' := #[.slice vA (cs.length + rr.length) vc, .slice none 0 0, .slice none 0 0, .int .i64 0, .int .i64 0]) rfl)
            replace yy := ext_set yy (p := ⟨PB, 0, none⟩) HPB.out (.slice vA (cs.length + rr.length) vc)
            have hT3 := keepK.out _ yy
            refine hK.out _ _ hT3 (fun h => by cases h) ?_
            clear hK K
            try simp only [Act.put, List.setIfInBounds_toArray, List.set_cons_zero, List.set_cons_succ]
            refine anyK_done (by kernel_rfl) ?_ _
            clear keepK hT0 hT1 hT2 hT3
            try clear keepS hS0 hS1 hS2
            clear t0 t0n k5
            go_wp2
            go_roundw
            case rel => exact ⟨k + 1, cs ++ rr, vA, vc, HKN.out, by go_num, by rw [HSN.out, ← HCS.out], by have := HCN0.out; have := HRL.out; rw [List.length_append]; omega, by rw [List.length_append, List.map_append]; exact OwnR_set HO9.out HP9.out (by decide), by rw [List.length_append]; exact HP10.out, yy⟩
            case measure => have := HKN.out; simp [RowKit.intOf]; omega
          · obtain rfl : n = k := by omega
            have t0 : decide ((n : Int) < (n : Int)) = false := decide_eq_false (by omega)
            have t0n : decide (n < n) = false := decide_eq_false (by omega)
            have hall : LR.take n = LR := List.take_of_length_le (by rw [HLRn.out]; exact Nat.le_refl _)
            have HCS2 := Lib.hid (show cs = cellsR R.pieces R.width.toNat LR by have h := HCS.out; rw [hall] at h; exact h)
            have HPL := Lib.hid (show PB < wr.heap.size from Blk.lt HP.out)
            obtain ⟨h1, hh1⟩ : ∃ h1, h1 = readHandR R.pieces (b.length + 1) (List.replicate R.pieces.length 0) b := ⟨_, rfl⟩
            obtain ⟨h2, hh2⟩ : ∃ h2, h2 = readHandR R.pieces (c.length + 1) (List.replicate R.pieces.length 0) c := ⟨_, rfl⟩
            have HH1 := Lib.hid (fun W (y : Ext wr W) => by
              have h := readHand_any R _ b W (HRR.out W (ext_trans XW6.out (ext_trans HE6.out y))) HV.out.pieces6 (by have := HBl.out; have := HLN.out; omega) (HLW.out W (ext_trans XW6.out (ext_trans HE6.out y)))
              rw [← hh1] at h
              exact h)
            have HH2 := Lib.hid (fun W (y : Ext wr W) => by
              have h := readHand_any R _ c W (HRR.out W (ext_trans XW6.out (ext_trans HE6.out y))) HV.out.pieces6 (by have := HCl.out; have := HLN.out; omega) (HLW.out W (ext_trans XW6.out (ext_trans HE6.out y)))
              rw [← hh2] at h
              exact h)
            have HHH := Lib.hid (And.intro hh1 hh2)
            clear hall hkn hk hh1 hh2
            go_upto_region 17 with fail
            have z0 : Ext wr wr.drew := Below.drew (Below.refl _ _)
            have keepK := hide (fun W (h : Ext w6 W) => (show (fun W => W.cell? ⟨B, 0, none⟩ = some (.string R.name) ∧ W.cell? ⟨B, 1, none⟩ = some (.int .i64 R.width) ∧ W.cell? ⟨B, 2, none⟩ = some (.int .i64 R.height) ∧ W.cell? ⟨B, 3, none⟩ = some (.slice pA R.pieces.length pc) ∧ W.cell? ⟨B, 4, none⟩ = some (.slice sA R.start.length sc) ∧ W.cell? ⟨B, 5, none⟩ = some (.bool R.falls) ∧ W.cell? ⟨B, 6, none⟩ = some (.bool R.keeps) ∧ W.cell? ⟨B, 7, none⟩ = some (.slice eA R.ends.length ec) ∧ W.cell? ⟨B, 8, none⟩ = some (.int .i64 R.blocked) ∧ W.cell? ⟨B, 9, none⟩ = some (.int .i64 R.quiet) ∧ W.cell? ⟨B, 10, none⟩ = some (.int .i64 R.rept) ∧ W.cell? ⟨g, 0, none⟩ = some (.string (strU a)) ∧ W.cell? ⟨g, 1, none⟩ = some (.string (strU b)) ∧ W.cell? ⟨g, 2, none⟩ = some (.string (strU c)) ∧ W.cell? ⟨g, 3, none⟩ = some (.string (strU d)) ∧ W.cell? ⟨g, 4, none⟩ = some (.string (strU e)) ∧ Ext w6 W) W from ⟨(HB6.out.ext h).cell 0, (HB6.out.ext h).cell 1, (HB6.out.ext h).cell 2, (HB6.out.ext h).cell 3, (HB6.out.ext h).cell 4, (HB6.out.ext h).cell 5, (HB6.out.ext h).cell 6, (HB6.out.ext h).cell 7, (HB6.out.ext h).cell 8, (HB6.out.ext h).cell 9, (HB6.out.ext h).cell 10, (HG6.out.ext h).cell 0, (HG6.out.ext h).cell 1, (HG6.out.ext h).cell 2, (HG6.out.ext h).cell 3, (HG6.out.ext h).cell 4, h⟩))
            have yy := ext_trans HE6.out z0
            refine region_K (fun W => W.cell? ⟨B, 0, none⟩ = some (.string R.name) ∧ W.cell? ⟨B, 1, none⟩ = some (.int .i64 R.width) ∧ W.cell? ⟨B, 2, none⟩ = some (.int .i64 R.height) ∧ W.cell? ⟨B, 3, none⟩ = some (.slice pA R.pieces.length pc) ∧ W.cell? ⟨B, 4, none⟩ = some (.slice sA R.start.length sc) ∧ W.cell? ⟨B, 5, none⟩ = some (.bool R.falls) ∧ W.cell? ⟨B, 6, none⟩ = some (.bool R.keeps) ∧ W.cell? ⟨B, 7, none⟩ = some (.slice eA R.ends.length ec) ∧ W.cell? ⟨B, 8, none⟩ = some (.int .i64 R.blocked) ∧ W.cell? ⟨B, 9, none⟩ = some (.int .i64 R.quiet) ∧ W.cell? ⟨B, 10, none⟩ = some (.int .i64 R.rept) ∧ W.cell? ⟨g, 0, none⟩ = some (.string (strU a)) ∧ W.cell? ⟨g, 1, none⟩ = some (.string (strU b)) ∧ W.cell? ⟨g, 2, none⟩ = some (.string (strU c)) ∧ W.cell? ⟨g, 3, none⟩ = some (.string (strU d)) ∧ W.cell? ⟨g, 4, none⟩ = some (.string (strU e)) ∧ Ext w6 W) (fun _ => True) [] (by kernel_rfl) ?_
            have hT0 := keepK.out _ yy
            refine anyK_take 0 (oi := ?oo9) ?ho9 (by kernel_rfl) (by kernel_rfl) (by kernel_rfl) (by kernel_rfl) ?hq9 ?hw9 hT0 (fun _ => trivial) (v := ?vv9) ?hy9 ?hk9
            case ho9 => (simp only [List.getElem?_toArray, List.getElem?_cons_succ, List.getElem?_cons_zero]; rfl)
            case hq9 => exact fun _ _ _ h => h
            case hw9 => rfl
            case hy9 =>
              intro W hW
              obtain ⟨z0, z1, z2, z3, z4, z5, z6, z7, z8, z9, z10, z11, z12, z13, z14, z15, z16⟩ := hW
              go_simp
              first | done | with_reducible rfl
            case hk9 =>
            try simp only [Act.put, List.setIfInBounds_toArray, List.set_cons_zero, List.set_cons_succ]
            refine anyK_take 1 (oi := ?oo10) ?ho10 (by kernel_rfl) (by kernel_rfl) (by kernel_rfl) (by kernel_rfl) ?hq10 ?hw10 hT0 (fun _ => trivial) (v := ?vv10) ?hy10 ?hk10
            case ho10 => (simp only [List.getElem?_toArray, List.getElem?_cons_succ, List.getElem?_cons_zero]; rfl)
            case hq10 => exact fun _ _ _ h => h
            case hw10 => rfl
            case hy10 =>
              intro W hW
              go_simp
              first | done | with_reducible rfl
            case hk10 =>
            try simp only [Act.put, List.setIfInBounds_toArray, List.set_cons_zero, List.set_cons_succ]
            refine anyK_take 2 (oi := ?oo11) ?ho11 (by kernel_rfl) (by kernel_rfl) (by kernel_rfl) (by kernel_rfl) ?hq11 ?hw11 hT0 (fun _ => trivial) (v := ?vv11) ?hy11 ?hk11
            case ho11 => (simp only [List.getElem?_toArray, List.getElem?_cons_succ, List.getElem?_cons_zero]; rfl)
            case hq11 => exact fun _ _ _ h => h
            case hw11 => rfl
            case hy11 =>
              intro W hW
              go_simp
              first | done | with_reducible rfl
            case hk11 =>
            try simp only [Act.put, List.setIfInBounds_toArray, List.set_cons_zero, List.set_cons_succ]
            refine anyK_take 3 (oi := ?oo12) ?ho12 (by kernel_rfl) (by kernel_rfl) (by kernel_rfl) (by kernel_rfl) ?hq12 ?hw12 hT0 (fun _ => trivial) (v := ?vv12) ?hy12 ?hk12
            case ho12 => (simp only [List.getElem?_toArray, List.getElem?_cons_succ, List.getElem?_cons_zero]; rfl)
            case hq12 => exact fun _ _ _ h => h
            case hw12 => rfl
            case hy12 =>
              intro W hW
              obtain ⟨z0, z1, z2, z3, z4, z5, z6, z7, z8, z9, z10, z11, z12, z13, z14, z15, z16⟩ := hW
              go_simp
              first | done | with_reducible rfl
            case hk12 =>
            try simp only [Act.put, List.setIfInBounds_toArray, List.set_cons_zero, List.set_cons_succ]
            refine anyK_take 5 (oi := ?oo13) ?ho13 (by kernel_rfl) (by kernel_rfl) (by kernel_rfl) (by kernel_rfl) ?hq13 ?hw13 hT0 (fun _ => trivial) (v := ?vv13) ?hy13 ?hk13
            case ho13 => (simp only [List.getElem?_toArray, List.getElem?_cons_succ, List.getElem?_cons_zero]; rfl)
            case hq13 => exact fun _ _ _ h => h
            case hw13 => rfl
            case hy13 =>
              intro W hW
              obtain ⟨z0, z1, z2, z3, z4, z5, z6, z7, z8, z9, z10, z11, z12, z13, z14, z15, z16⟩ := hW
              go_simp
              first | done | with_reducible rfl
            case hk13 =>
            try simp only [Act.put, List.setIfInBounds_toArray, List.set_cons_zero, List.set_cons_succ]
            refine anyK_take 6 (oi := ?oo14) ?ho14 (by kernel_rfl) (by kernel_rfl) (by kernel_rfl) (by kernel_rfl) ?hq14 ?hw14 hT0 (fun _ => trivial) (v := ?vv14) ?hy14 ?hk14
            case ho14 => (simp only [List.getElem?_toArray, List.getElem?_cons_succ, List.getElem?_cons_zero]; rfl)
            case hq14 => exact fun _ _ _ h => h
            case hw14 => rfl
            case hy14 =>
              intro W hW
              go_simp
              first | done | with_reducible rfl
            case hk14 =>
            try simp only [Act.put, List.setIfInBounds_toArray, List.set_cons_zero, List.set_cons_succ]
            refine anyK_take 7 (oi := ?oo15) ?ho15 (by kernel_rfl) (by kernel_rfl) (by kernel_rfl) (by kernel_rfl) ?hq15 ?hw15 hT0 (fun _ => trivial) (v := ?vv15) ?hy15 ?hk15
            case ho15 => (simp only [List.getElem?_toArray, List.getElem?_cons_succ, List.getElem?_cons_zero]; rfl)
            case hq15 => exact fun _ _ _ h => h
            case hw15 => rfl
            case hy15 =>
              intro W hW
              go_simp
              first | done | with_reducible rfl
            case hk15 =>
            try simp only [Act.put, List.setIfInBounds_toArray, List.set_cons_zero, List.set_cons_succ]
            refine anyK_take 8 (oi := ?oo16) ?ho16 (by kernel_rfl) (by kernel_rfl) (by kernel_rfl) (by kernel_rfl) ?hq16 ?hw16 hT0 (fun _ => trivial) (v := ?vv16) ?hy16 ?hk16
            case ho16 => (simp only [List.getElem?_toArray, List.getElem?_cons_succ, List.getElem?_cons_zero]; rfl)
            case hq16 => exact fun _ _ _ h => h
            case hw16 => rfl
            case hy16 =>
              intro W hW
              obtain ⟨z0, z1, z2, z3, z4, z5, z6, z7, z8, z9, z10, z11, z12, z13, z14, z15, z16⟩ := hW
              go_simp
              first | done | with_reducible rfl
            case hk16 =>
            try simp only [Act.put, List.setIfInBounds_toArray, List.set_cons_zero, List.set_cons_succ]
            refine anyK_on1 4 (by kernel_rfl) ?_
            refine anyK_one 4 (o := ?oo17) ?ho17 ?hk17
            case ho17 => (simp only [List.getElem?_toArray, List.getElem?_cons_succ, List.getElem?_cons_zero]; rfl)
            case hk17 =>
            intro K hK
            go_simp
            refine (HH1.out _ z0).mono ?_
            rintro e wi ⟨⟨hA, hc, rfl, hq1, hq2, hq3⟩, xx⟩
            try go_wp2_with fail
            replace yy := ext_trans yy xx
            have HQ1 := Lib.hid hq2
            have HQ1L := Lib.hid hq1
            have HQ1B := Lib.hid (fun (a : Addr) (ha : hA = some a) => (show a.block ≠ PB from fun e => by have h1 : wr.heap.size ≤ a.block := hq3 a ha; have h2 := HPL.out; omega))
            have HQ1R := Lib.hid (fun (a : Addr) (ha : hA = some a) => (show a.block ≠ RB from fun e => by have h1 : wr.heap.size ≤ a.block := hq3 a ha; have h2 := Blk.lt KR6.out; have h3 := HE6.out.size; omega))
            have z1 := ext_trans z0 xx
            clear hq1 hq2 hq3
            have hT1 := keepK.out _ yy
            refine hK.out _ _ hT1 (fun _ => trivial) ?_
            clear hK K
            try simp only [Act.put, List.setIfInBounds_toArray, List.set_cons_zero, List.set_cons_succ]
            refine anyK_on1 9 (by kernel_rfl) ?_
            refine anyK_one 9 (o := ?oo18) ?ho18 ?hk18
            case ho18 => (simp only [List.getElem?_toArray, List.getElem?_cons_succ, List.getElem?_cons_zero]; rfl)
            case hk18 =>
            intro K hK
            go_simp
            refine (HH2.out _ z1).mono ?_
            rintro e wj ⟨⟨jA, jc, rfl, hq1, hq2, hq3⟩, xx⟩
            try go_wp2_with fail
            replace yy := ext_trans yy xx
            have HQ2 := Lib.hid hq2
            have HQ2L := Lib.hid hq1
            have HQ2B := Lib.hid (fun (a : Addr) (ha : jA = some a) => (show a.block ≠ PB from fun e => by have h1 := hq3 a ha; have h2 := HPL.out; have h3 := z1.size; omega))
            have HQ2R := Lib.hid (fun (a : Addr) (ha : jA = some a) => (show a.block ≠ RB from fun e => by have h1 := hq3 a ha; have h2 := Blk.lt KR6.out; have h3 := HE6.out.size; have h4 := z1.size; omega))
            have xj := xx
            have z2 := ext_trans z1 xx
            clear hq1 hq2 hq3
            have hT2 := keepK.out _ yy
            refine hK.out _ _ hT2 (fun _ => trivial) ?_
            clear hK K
            try simp only [Act.put, List.setIfInBounds_toArray, List.set_cons_zero, List.set_cons_succ]
            refine anyK_take 10 (oi := ?oo19) ?ho19 (by kernel_rfl) (by kernel_rfl) (by kernel_rfl) (by kernel_rfl) ?hq19 ?hw19 hT2 (fun _ => trivial) (v := ?vv19) ?hy19 ?hk19
            case ho19 => (simp only [List.getElem?_toArray, List.getElem?_cons_succ, List.getElem?_cons_zero]; rfl)
            case hq19 => exact fun _ _ _ h => h
            case hw19 => rfl
            case hy19 =>
              intro W hW
              go_simp
              first | done | with_reducible rfl
            case hk19 =>
            try simp only [Act.put, List.setIfInBounds_toArray, List.set_cons_zero, List.set_cons_succ]
            refine anyK_take 11 (oi := ?oo20) ?ho20 (by kernel_rfl) (by kernel_rfl) (by kernel_rfl) (by kernel_rfl) ?hq20 ?hw20 hT2 (fun _ => trivial) (v := ?vv20) ?hy20 ?hk20
            case ho20 => (simp only [List.getElem?_toArray, List.getElem?_cons_succ, List.getElem?_cons_zero]; rfl)
            case hq20 => exact fun _ _ _ h => h
            case hw20 => rfl
            case hy20 =>
              intro W hW
              go_simp
              first | done | with_reducible rfl
            case hk20 =>
            try simp only [Act.put, List.setIfInBounds_toArray, List.set_cons_zero, List.set_cons_succ]
            refine anyK_on1 12 (by kernel_rfl) ?_
            refine anyK_one 12 (o := ?oo21) ?ho21 ?hk21
            case ho21 => (simp only [List.getElem?_toArray, List.getElem?_cons_succ, List.getElem?_cons_zero]; rfl)
            case hk21 =>
            intro K hK
            have HPj := Lib.hid (HP.out.ext z2)
            have HQj := Lib.hid (HQ1.out.ext xj)
            have zc := HPj.out.cell
            have zf := HPj.out.frozen
            go_simp
            clear zc zf
            have HP10 := Lib.hid (blk_put (i := 2) (u := .slice jA h2.length jc) (blk_put (i := 1) (u := .slice hA h1.length hc) HPj.out (cs' := #[.slice oA cs.length oc, .slice hA h1.length hc, .slice none 0 0, .int .i64 0, .int .i64 0]) rfl) (cs' := #[.slice oA cs.length oc, .slice hA h1.length hc, .slice jA h2.length jc, .int .i64 0, .int .i64 0]) rfl)
            have HO10 := Lib.hid (OwnR_set (i := 2) (u := .slice jA h2.length jc) (OwnR_set (i := 1) (u := .slice hA h1.length hc) (HO.out.ext z2) HPj.out (by decide)) (blk_put (i := 1) (u := .slice hA h1.length hc) HPj.out (cs' := #[.slice oA cs.length oc, .slice hA h1.length hc, .slice none 0 0, .int .i64 0, .int .i64 0]) rfl) (by decide))
            have HQ10 := Lib.hid (ints_set2 (i := 1) (j := 2) HQj.out HQ1B.out (.slice hA h1.length hc) (.slice jA h2.length jc))
            have HQ20 := Lib.hid (ints_set2 (i := 1) (j := 2) HQ2.out HQ2B.out (.slice hA h1.length hc) (.slice jA h2.length jc))
            have X10 := Lib.hid (ext_set (ext_set (ext_trans HE6.out z2) (p := ⟨PB, 1, none⟩) HPB.out (.slice hA h1.length hc)) (p := ⟨PB, 2, none⟩) HPB.out (.slice jA h2.length jc))
            replace yy := X10.out
            have hT3 := keepK.out _ yy
            refine hK.out _ _ hT3 (fun _ => trivial) ?_
            clear hK K
            try simp only [Act.put, List.setIfInBounds_toArray, List.set_cons_zero, List.set_cons_succ]
            refine anyK_done (by kernel_rfl) ?_ _
            clear keepK hT0 hT1 hT2 hT3
            clear yy xj z0 z1 z2
            generalize (wj.setCell _ _).setCell _ _ = wa at *
            have HGa := Lib.hid (HG6.out.ext X10.out)
            have hga := HGa.out.cell
            clear HP HO HQ1 HQ2 HQj HPj HH1 HH2
            go_wp2_with fail
            clear hga
            refine (number_any d (by have := HD.out; have := HLN.out; omega) wa (HLW.out _ (ext_trans XW6.out X10.out))).mono ?_
            rintro e0 wb ⟨rfl, xb⟩
            have HPb := Lib.hid (HP10.out.ext xb)
            have HOb := Lib.hid (HO10.out.ext xb)
            have HQ1b := Lib.hid (HQ10.out.ext xb)
            have HQ2b := Lib.hid (HQ20.out.ext xb)
            have Xb := Lib.hid (ext_trans X10.out xb)
            have hrg := numR_rng d
            obtain ⟨M, hM⟩ : ∃ M, M = (numR d).1 := ⟨_, rfl⟩
            rw [← hM] at hrg ⊢
            have HM := Lib.hid hM
            have zc := HPb.out.cell
            have zf := HPb.out.frozen
            clear xb hM HP10 HO10 HQ10 HQ20 X10 HGa
            go_upto_region 19 with fail
            clear zc zf
            have HPc := Lib.hid (blk_put (i := 3) (u := .int .i64 M) HPb.out (cs' := #[.slice oA cs.length oc, .slice hA h1.length hc, .slice jA h2.length jc, .int .i64 M, .int .i64 0]) rfl)
            have HOc := Lib.hid (OwnR_set (i := 3) (u := .int .i64 M) HOb.out HPb.out (by decide))
            have HQ1c := Lib.hid (ints_set (i := 3) HQ1b.out HQ1B.out (.int .i64 M))
            have HQ2c := Lib.hid (ints_set (i := 3) HQ2b.out HQ2B.out (.int .i64 M))
            have Xc := Lib.hid (ext_set Xb.out (p := ⟨PB, 3, none⟩) HPB.out (.int .i64 M))
            generalize (wb).setCell ⟨PB, 3, none⟩ (.int .i64 M) = wc at *
            clear HPb HOb HQ1b HQ2b Xb
            have zc := HPc.out.cell
            have zf := HPc.out.frozen
            have hm1 : IntKind.i64.wrap (M - 1) = M - 1 := by rw [IntKind.wrap_i64]; omega
            go_upto_region 20 with fail
            clear zc zf
            have HPd := Lib.hid (blk_put (i := 3) (u := .int .i64 (M - 1)) HPc.out (cs' := #[.slice oA cs.length oc, .slice hA h1.length hc, .slice jA h2.length jc, .int .i64 (M - 1), .int .i64 0]) rfl)
            have HOd := Lib.hid (OwnR_set (i := 3) (u := .int .i64 (M - 1)) HOc.out HPc.out (by decide))
            have HQ1d := Lib.hid (ints_set (i := 3) HQ1c.out HQ1B.out (.int .i64 (M - 1)))
            have HQ2d := Lib.hid (ints_set (i := 3) HQ2c.out HQ2B.out (.int .i64 (M - 1)))
            have Xd := Lib.hid (ext_set Xc.out (p := ⟨PB, 3, none⟩) HPB.out (.int .i64 (M - 1)))
            generalize (wc).setCell ⟨PB, 3, none⟩ (.int .i64 (M - 1)) = wd at *
            clear HPc HOc HQ1c HQ2c Xc
            have HGd := Lib.hid (HG6.out.ext Xd.out)
            have hgd := HGd.out.cell
            go_wp2_with fail
            clear hgd
            refine (number_any e (by have := HEl.out; have := HLN.out; omega) wd (HLW.out _ (ext_trans XW6.out Xd.out))).mono ?_
            rintro e0 wk ⟨rfl, xk⟩
            have HPk := Lib.hid (HPd.out.ext xk)
            have HOk := Lib.hid (HOd.out.ext xk)
            have HQ1k := Lib.hid (HQ1d.out.ext xk)
            have HQ2k := Lib.hid (HQ2d.out.ext xk)
            have Xk := Lib.hid (ext_trans Xd.out xk)
            obtain ⟨N, hN⟩ : ∃ N, N = (numR e).1 := ⟨_, rfl⟩
            rw [← hN]
            have HN := Lib.hid hN
            have zc := HPk.out.cell
            have zf := HPk.out.frozen
            clear xk hN HPd HOd HQ1d HQ2d Xd HGd hrg
            go_upto_region 21 with fail
            clear zc zf
            have HPl := Lib.hid (blk_put (i := 4) (u := .int .i64 N) HPk.out (cs' := #[.slice oA cs.length oc, .slice hA h1.length hc, .slice jA h2.length jc, .int .i64 (M - 1), .int .i64 N]) rfl)
            have HOl := Lib.hid (OwnR_set (i := 4) (u := .int .i64 N) HOk.out HPk.out (by decide))
            have HQ1l := Lib.hid (ints_set (i := 4) HQ1k.out HQ1B.out (.int .i64 N))
            have HQ2l := Lib.hid (ints_set (i := 4) HQ2k.out HQ2B.out (.int .i64 N))
            have Xl := Lib.hid (ext_set Xk.out (p := ⟨PB, 4, none⟩) HPB.out (.int .i64 N))
            generalize (wk).setCell ⟨PB, 4, none⟩ (.int .i64 N) = wl at *
            clear HPk HOk HQ1k HQ2k Xk
            obtain ⟨P, hP⟩ : ∃ P, P = partsR R a b c d e := ⟨_, rfl⟩
            have HRT2 := Lib.hid (show readT R s = if soundE R P = 0 ∧ textT R P = s then some P else none by rw [hP]; exact HRT.out)
            have hPc : P.cells = cs := by rw [hP, HCS2.out, HLR.out, HLA.out]; rfl
            have hP0 : P.hand0 = h1 := by rw [hP, HHH.out.1]; rfl
            have hP1 : P.hand1 = h2 := by rw [hP, HHH.out.2]; rfl
            have hPt : P.turn = M - 1 := by rw [hP, HM.out]; rfl
            have hPq : P.quiet = N := by rw [hP, HN.out]; rfl
            have HPA := Lib.hid (show PosAt wl (.agg #[.slice oA cs.length oc, .slice hA h1.length hc, .slice jA h2.length jc, .int .i64 (M - 1), .int .i64 N]) P by
              obtain ⟨A, c0, e0, h0, h01, -, -⟩ := HOl.out.cells
              simp only [Value.slice.injEq, true_and] at e0
              obtain ⟨e1, e2⟩ := e0
              refine ⟨oA, oc, hA, hc, jA, jc, by rw [hPc, hP0, hP1, hPt, hPq], ?_, ?_, ?_, by rw [hPc]; omega, by rw [hP0]; exact HQ1L.out, by rw [hP1]; exact HQ2L.out⟩
              · rw [hPc, e1]; exact cells_ints h0
              · rw [hP0]; exact HQ1l.out
              · rw [hP1]; exact HQ2l.out)
            have HBl2 := Lib.hid (HB6.out.ext Xl.out)
            have hsd : (1 ≤ R.width ∧ R.width ≤ 8) ∧ (1 ≤ R.height ∧ R.height ≤ 8) := by
              have := HV.out.side
              unfold okSide at this
              omega
            have XWl := Lib.hid (ext_trans XW6.out Xl.out)
            have KRl := Lib.hid (KR6.out.ext Xl.out)
            have HSD := Lib.hid (sound_any R P _ _ wl (HRR.out wl XWl.out) HPA.out HV.out.side HV.out.pieces6)
            have HTX := Lib.hid (fun W (y : Ext wl W) (h0 : soundE R P = 0) => text_any R P _ _ W (HRR.out W (ext_trans XWl.out y)) (HPA.out.ext y) HLT.out HV.out.pieces6 hsd.1.1 hsd.1.2 hsd.2.1 hsd.2.2 h0 (HLW.out W (ext_trans XWl.out y)))
            have zc := HPl.out.cell
            have zb := HBl2.out.cell
            clear hP hPc hP0 hP1 hPt hPq hsd
            go_wp2_with fail
            refine HSD.out.mono ?_
            rintro e0 wm ⟨rfl, xm⟩
            have KRm := Lib.hid (KRl.out.ext xm)
            have Xm := Lib.hid (ext_trans XWl.out xm)
            have HXm := Lib.hid xm
            obtain ⟨F, hF⟩ : ∃ F, F = soundE R P := ⟨_, rfl⟩
            rw [← hF] at HRT2 HTX ⊢
            clear zc zb xm hF
            by_cases hF0 : F = 0
            · have t2 : (F != 0) = false := by simp [hF0]
              have HTX2 := Lib.hid (HTX.out wm HXm.out hF0)
              have HF0 := Lib.hid hF0
              have hPm := HPl.out.ext HXm.out
              have hBm := HBl2.out.ext HXm.out
              have zc := hPm.cell
              have zb := hBm.cell
              clear hF0 hPm hBm
              go_wp2_with fail
              refine HTX2.out.mono ?_
              rintro e0 wn ⟨rfl, xn⟩
              have KRn := Lib.hid (KRm.out.ext xn)
              have Xn := Lib.hid (ext_trans Xm.out xn)
              have HPn := Lib.hid ((HPl.out.ext HXm.out).ext xn)
              have HPAn := Lib.hid ((HPA.out.ext HXm.out).ext xn)
              clear xn zc zb
              obtain ⟨T, hT⟩ : ∃ T, T = textT R P := ⟨_, rfl⟩
              rw [← hT] at HRT2 ⊢
              have e1 := HS.out
              by_cases hTs : T = s
              · subst hTs
                have e3 : ((strU T).toList != S.toList) = false := by rw [e1, bne_self_eq_false]
                have e4 : ((strU T).toList == S.toList) = true := by rw [e1, beq_self_eq_true]
                have HRT3 := Lib.hid (show readT R T = some P by rw [HRT2.out, if_pos ⟨HF0.out, rfl⟩])
                have zc := HPn.out.cell
                have HRV0 := Lib.hid (show rulesE R = 0 by rw [← HE.out]; exact HE0.out)
                have HOR := Lib.hid (fun (x : Addr) (hx : oA = some x) => (show x.block ≠ RB from fun e => by
                  obtain ⟨A, c0, e0, -, -, -, hb⟩ := HOl.out.cells
                  simp only [Value.slice.injEq, true_and] at e0
                  have h1 := hb x (by rw [← e0.1]; exact hx)
                  have h2 := Blk.lt KR6.out
                  omega))
                clear e1 hT
                have gz := KRn.out.frozen
                have gc := KRn.out.cell
                go_wp2
                have K9 := blk_put (i := 4) (u := .int .i64 N) (blk_put (i := 3) (u := .int .i64 (M - 1)) (blk_put (i := 2) (u := .slice jA h2.length jc) (blk_put (i := 1) (u := .slice hA h1.length hc) (blk_put (i := 0) (u := .slice oA cs.length oc) KRn.out rfl) rfl) rfl) rfl) (cs' := #[.slice oA cs.length oc, .slice hA h1.length hc, .slice jA h2.length jc, .int .i64 (M - 1), .int .i64 N]) rfl
                have X9 := (ext_set (ext_set (ext_set (ext_set (ext_set Xn.out (p := ⟨RB, 0, none⟩) HLE.out (.slice oA cs.length oc)) (p := ⟨RB, 1, none⟩) HLE.out (.slice hA h1.length hc)) (p := ⟨RB, 2, none⟩) HLE.out (.slice jA h2.length jc)) (p := ⟨RB, 3, none⟩) HLE.out (.int .i64 (M - 1))) (p := ⟨RB, 4, none⟩) HLE.out (.int .i64 N))
                have PF := pos_set5 RB HPAn.out HOR.out HQ1R.out HQ2R.out (.slice oA cs.length oc) (.slice hA h1.length hc) (.slice jA h2.length jc) (.int .i64 (M - 1)) (.int .i64 N)
                generalize (((((wn.setCell ⟨RB, 0, none⟩ (.slice oA cs.length oc)).setCell ⟨RB, 1, none⟩ (.slice hA h1.length hc)).setCell ⟨RB, 2, none⟩ (.slice jA h2.length jc)).setCell ⟨RB, 3, none⟩ (.int .i64 (M - 1))).setCell ⟨RB, 4, none⟩ (.int .i64 N)) = Wf at *
                clear gz gc
                have rr0 : Wf.cell? ⟨RB, 0, none⟩ = some (.slice oA cs.length oc) := K9.cell 0
                have rr1 : Wf.cell? ⟨RB, 1, none⟩ = some (.slice hA h1.length hc) := K9.cell 1
                have rr2 : Wf.cell? ⟨RB, 2, none⟩ = some (.slice jA h2.length jc) := K9.cell 2
                have rr3 : Wf.cell? ⟨RB, 3, none⟩ = some (.int .i64 (M - 1)) := K9.cell 3
                have rr4 : Wf.cell? ⟨RB, 4, none⟩ = some (.int .i64 N) := K9.cell 4
                refine bodyPost_ret (v := .tuple #[.agg #[.slice oA cs.length oc, .slice hA h1.length hc, .slice jA h2.length jc, .int .i64 (M - 1), .int .i64 N], .int .i64 0]) ?_ rfl ?_
                · simp [results, Tryd.results8, go_sem, rr0, rr1, rr2, rr3, rr4]
                · exact ⟨.inl ⟨P, _, HRV0.out, HRT3.out, rfl, PF⟩, X9⟩
              · have e3 : ((strU T).toList != S.toList) = true := by
                  rw [e1, Lib.toList_data, Lib.toList_data, strU_data, strU_data]
                  simpa using hTs
                have e4 : ((strU T).toList == S.toList) = false := by
                  rw [e1, Lib.toList_data, Lib.toList_data, strU_data, strU_data]
                  simpa using hTs
                have HNO := Lib.hid (show readT R s = none by rw [HRT2.out, if_neg (fun h => hTs h.2)])
                have zc := HPn.out.cell
                clear e1 hT hTs
                have gz := KRn.out.frozen
                have gc := KRn.out.cell
                go_wp2
                have K9 := blk_put (i := 4) (u := .int .i64 0) (blk_put (i := 3) (u := .int .i64 0) (blk_put (i := 2) (u := .slice none 0 0) (blk_put (i := 1) (u := .slice none 0 0) (blk_put (i := 0) (u := .slice none 0 0) KRn.out rfl) rfl) rfl) rfl) (cs' := #[.slice none 0 0, .slice none 0 0, .slice none 0 0, .int .i64 0, .int .i64 0]) rfl
                have X9 := (ext_set (ext_set (ext_set (ext_set (ext_set Xn.out (p := ⟨RB, 0, none⟩) HLE.out (.slice none 0 0)) (p := ⟨RB, 1, none⟩) HLE.out (.slice none 0 0)) (p := ⟨RB, 2, none⟩) HLE.out (.slice none 0 0)) (p := ⟨RB, 3, none⟩) HLE.out (.int .i64 0)) (p := ⟨RB, 4, none⟩) HLE.out (.int .i64 0))
                generalize (((((wn.setCell ⟨RB, 0, none⟩ (.slice none 0 0)).setCell ⟨RB, 1, none⟩ (.slice none 0 0)).setCell ⟨RB, 2, none⟩ (.slice none 0 0)).setCell ⟨RB, 3, none⟩ (.int .i64 0)).setCell ⟨RB, 4, none⟩ (.int .i64 0)) = Wf at *
                clear gz gc
                have rr0 : Wf.cell? ⟨RB, 0, none⟩ = some (.slice none 0 0) := K9.cell 0
                have rr1 : Wf.cell? ⟨RB, 1, none⟩ = some (.slice none 0 0) := K9.cell 1
                have rr2 : Wf.cell? ⟨RB, 2, none⟩ = some (.slice none 0 0) := K9.cell 2
                have rr3 : Wf.cell? ⟨RB, 3, none⟩ = some (.int .i64 0) := K9.cell 3
                have rr4 : Wf.cell? ⟨RB, 4, none⟩ = some (.int .i64 0) := K9.cell 4
                refine bodyPost_ret (v := .tuple #[zeroPosD, .int .i64 5]) ?_ rfl ?_
                · simp [results, Tryd.results8, go_sem, rr0, rr1, rr2, rr3, rr4]
                · exact ⟨.inr ⟨.inr HNO.out, 5, by decide, rfl⟩, X9⟩
            · have t2 : (F != 0) = true := by simpa using hF0
              have HNO := Lib.hid (show readT R s = none by rw [HRT2.out, if_neg (fun h => hF0 h.1)])
              clear hF0
              have gz := KRm.out.frozen
              have gc := KRm.out.cell
              go_wp2
              have K9 := blk_put (i := 4) (u := .int .i64 0) (blk_put (i := 3) (u := .int .i64 0) (blk_put (i := 2) (u := .slice none 0 0) (blk_put (i := 1) (u := .slice none 0 0) (blk_put (i := 0) (u := .slice none 0 0) KRm.out rfl) rfl) rfl) rfl) (cs' := #[.slice none 0 0, .slice none 0 0, .slice none 0 0, .int .i64 0, .int .i64 0]) rfl
              have X9 := (ext_set (ext_set (ext_set (ext_set (ext_set Xm.out (p := ⟨RB, 0, none⟩) HLE.out (.slice none 0 0)) (p := ⟨RB, 1, none⟩) HLE.out (.slice none 0 0)) (p := ⟨RB, 2, none⟩) HLE.out (.slice none 0 0)) (p := ⟨RB, 3, none⟩) HLE.out (.int .i64 0)) (p := ⟨RB, 4, none⟩) HLE.out (.int .i64 0))
              generalize (((((wm.setCell ⟨RB, 0, none⟩ (.slice none 0 0)).setCell ⟨RB, 1, none⟩ (.slice none 0 0)).setCell ⟨RB, 2, none⟩ (.slice none 0 0)).setCell ⟨RB, 3, none⟩ (.int .i64 0)).setCell ⟨RB, 4, none⟩ (.int .i64 0)) = Wf at *
              clear gz gc
              have rr0 : Wf.cell? ⟨RB, 0, none⟩ = some (.slice none 0 0) := K9.cell 0
              have rr1 : Wf.cell? ⟨RB, 1, none⟩ = some (.slice none 0 0) := K9.cell 1
              have rr2 : Wf.cell? ⟨RB, 2, none⟩ = some (.slice none 0 0) := K9.cell 2
              have rr3 : Wf.cell? ⟨RB, 3, none⟩ = some (.int .i64 0) := K9.cell 3
              have rr4 : Wf.cell? ⟨RB, 4, none⟩ = some (.int .i64 0) := K9.cell 4
              refine bodyPost_ret (v := .tuple #[zeroPosD, .int .i64 5]) ?_ rfl ?_
              · simp [results, Tryd.results8, go_sem, rr0, rr1, rr2, rr3, rr4]
              · exact ⟨.inr ⟨.inr HNO.out, 5, by decide, rfl⟩, X9⟩
      · have h5n : (((splitL 32 s).length : Int) != 5) = true := by simp; omega
        have HNO := Lib.hid (readT_not (R := R) h5)
        clear hG h5
        generalize (splitL 32 s).length = n5 at *
        have gz := KR5.out.frozen
        have gc := KR5.out.cell
        go_wp2
        have K9 := blk_put (i := 4) (u := .int .i64 0) (blk_put (i := 3) (u := .int .i64 0) (blk_put (i := 2) (u := .slice none 0 0) (blk_put (i := 1) (u := .slice none 0 0) (blk_put (i := 0) (u := .slice none 0 0) KR5.out rfl) rfl) rfl) rfl) (cs' := #[.slice none 0 0, .slice none 0 0, .slice none 0 0, .int .i64 0, .int .i64 0]) rfl
        have X9 := (ext_set (ext_set (ext_set (ext_set (ext_set XWF.out (p := ⟨RB, 0, none⟩) HLE.out (.slice none 0 0)) (p := ⟨RB, 1, none⟩) HLE.out (.slice none 0 0)) (p := ⟨RB, 2, none⟩) HLE.out (.slice none 0 0)) (p := ⟨RB, 3, none⟩) HLE.out (.int .i64 0)) (p := ⟨RB, 4, none⟩) HLE.out (.int .i64 0))
        generalize (((((WF.setCell ⟨RB, 0, none⟩ (.slice none 0 0)).setCell ⟨RB, 1, none⟩ (.slice none 0 0)).setCell ⟨RB, 2, none⟩ (.slice none 0 0)).setCell ⟨RB, 3, none⟩ (.int .i64 0)).setCell ⟨RB, 4, none⟩ (.int .i64 0)) = Wf at *
        clear gz gc
        have rr0 : Wf.cell? ⟨RB, 0, none⟩ = some (.slice none 0 0) := K9.cell 0
        have rr1 : Wf.cell? ⟨RB, 1, none⟩ = some (.slice none 0 0) := K9.cell 1
        have rr2 : Wf.cell? ⟨RB, 2, none⟩ = some (.slice none 0 0) := K9.cell 2
        have rr3 : Wf.cell? ⟨RB, 3, none⟩ = some (.int .i64 0) := K9.cell 3
        have rr4 : Wf.cell? ⟨RB, 4, none⟩ = some (.int .i64 0) := K9.cell 4
        refine bodyPost_ret (v := .tuple #[zeroPosD, .int .i64 5]) ?_ rfl ?_
        · simp [results, Tryd.results8, go_sem, rr0, rr1, rr2, rr3, rr4]
        · exact ⟨.inr ⟨.inr HNO.out, 5, by decide, rfl⟩, X9⟩
  · have HEN := Lib.hid hE0
    have HNE := Lib.hid (show rulesE R ≠ 0 by rw [← HE.out]; exact hE0)
    have t0 : (E != 0) = true := by simpa using hE0
    clear hE0
    have gz := KRB.out.frozen
    have gc := KRB.out.cell
    go_wp2
    have K9 := blk_put (i := 4) (u := .int .i64 0) (blk_put (i := 3) (u := .int .i64 0) (blk_put (i := 2) (u := .slice none 0 0) (blk_put (i := 1) (u := .slice none 0 0) (blk_put (i := 0) (u := .slice none 0 0) KRB.out rfl) rfl) rfl) rfl) (cs' := #[.slice none 0 0, .slice none 0 0, .slice none 0 0, .int .i64 0, .int .i64 0]) rfl
    have X9 := (ext_set (ext_set (ext_set (ext_set (ext_set XWE.out (p := ⟨RB, 0, none⟩) HLE.out (.slice none 0 0)) (p := ⟨RB, 1, none⟩) HLE.out (.slice none 0 0)) (p := ⟨RB, 2, none⟩) HLE.out (.slice none 0 0)) (p := ⟨RB, 3, none⟩) HLE.out (.int .i64 0)) (p := ⟨RB, 4, none⟩) HLE.out (.int .i64 0))
    generalize (((((WE.setCell ⟨RB, 0, none⟩ (.slice none 0 0)).setCell ⟨RB, 1, none⟩ (.slice none 0 0)).setCell ⟨RB, 2, none⟩ (.slice none 0 0)).setCell ⟨RB, 3, none⟩ (.int .i64 0)).setCell ⟨RB, 4, none⟩ (.int .i64 0)) = Wf at *
    clear gz gc
    have rr0 : Wf.cell? ⟨RB, 0, none⟩ = some (.slice none 0 0) := K9.cell 0
    have rr1 : Wf.cell? ⟨RB, 1, none⟩ = some (.slice none 0 0) := K9.cell 1
    have rr2 : Wf.cell? ⟨RB, 2, none⟩ = some (.slice none 0 0) := K9.cell 2
    have rr3 : Wf.cell? ⟨RB, 3, none⟩ = some (.int .i64 0) := K9.cell 3
    have rr4 : Wf.cell? ⟨RB, 4, none⟩ = some (.int .i64 0) := K9.cell 4
    refine bodyPost_ret (v := .tuple #[zeroPosD, .int .i64 E]) ?_ rfl ?_
    · simp [results, Tryd.results8, go_sem, rr0, rr1, rr2, rr3, rr4]
    · exact ⟨.inr ⟨.inl HNE.out, E, HEN.out, rfl⟩, X9⟩
end Go.Proofs.YtdoibgmmijhlfaaDoor
