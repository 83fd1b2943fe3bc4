/- Walk: place.row's closure. Walk: place.row. -/
import Derived.Test.YtdoibgmmijhlfaaDoorGTxtB
namespace Go.Proofs.YtdoibgmmijhlfaaDoor
open Go.RowKit
set_option linter.unusedVariables false
set_option linter.unusedSimpArgs false
set_option maxHeartbeats 2000000 in
set_option maxRecDepth 100000 in
theorem flush_any (e : Nat) (S : BL) (B E O : Nat) (w : World) (kE : Blk w E 3 #[.int .i64 (e : Int)]) (kO : Blk w O 9 #[.string (strU S)]) (he : e ≤ 9) (hS : S.length ≤ 1000) (hEO : E ≠ O) (hBE : B ≤ E) (hBO : B ≤ O) :
    Calls Tryd.prog 80 #[.pointer (some ⟨E, 0, none⟩), .pointer (some ⟨O, 0, none⟩)] w fun r w' => r = .returned (.tuple #[]) ∧ Blk w' E 3 #[.int .i64 0] ∧ Blk w' O 9 #[.string (strU (S ++ flushT e))] ∧ Below B w w' := by
  have hcE : w.cell? ⟨E, 0, none⟩ = some (.int .i64 (e : Int)) := kE.cell 0
  have hcO : w.cell? ⟨O, 0, none⟩ = some (.string (strU S)) := kO.cell 0
  have hfE := kE.frozen 0
  have hfO := kO.frozen 0
  by_cases h0 : 0 < e
  · have HI := Lib.hid (fun W => (Tryd.strconv_Itoa_small e (by omega) W).mono fun r w' h => (show r = Ending.returned (.string (strU (Lib.decDigits e))) ∧ w' = W from h))
    have t1 : decide ((0 : Int) < (e : Int)) = true := decide_eq_true (by omega)
    have t1n : decide (0 < e) = true := decide_eq_true h0
    have HF := Lib.hid (show S ++ flushT e = S ++ Lib.decDigits e by unfold flushT; rw [if_pos h0])
    have q1 := strU_size (Lib.decDigits e)
    rw [Lib.decDigits_length] at q1
    have q2 := nDigits_le4 (u := e) (by omega)
    have q3 := strU_size S
    have q4 : ¬ (9223372036854775807 < (strU S).size + (strU (Lib.decDigits e)).size) := by omega
    have HA := Lib.hid (strU_app S (Lib.decDigits e))
    have KE := Lib.hid kE
    have KO := Lib.hid kO
    have HB := Lib.hid (And.intro hBE hBO)
    have HEO := Lib.hid hEO
    clear q1 q2 q3 h0 kE kO hBE hBO hS
    generalize strU (Lib.decDigits e) = S2 at *
    obtain ⟨S0, hS0⟩ : ∃ S0, S0 = strU S := ⟨_, rfl⟩
    rw [← hS0] at hcO q4 HA KO
    clear hS0
    go_enter Tryd.func80, Tryd.ntmps80
    go_wp2_with fail
    replace hcO : w.drew.cell? ⟨O, 0, none⟩ = some (.string S0) := hcO
    replace hfO : w.drew.frozen? ⟨O, 0, none⟩ = false := hfO
    have X0 := Lib.hid (show Below B w w.drew from Below.drew (Below.refl B w))
    have X9 := Lib.hid (show Below B w (w.drew.setCell ⟨O, 0, none⟩ (.string (S0 ++ S2))) from Below.setCell X0.out (p := ⟨O, 0, none⟩) HB.out.2 _)
    have KE9 := Lib.hid (show Blk (w.drew.setCell ⟨O, 0, none⟩ (.string (S0 ++ S2))) E 3 #[.int .i64 (e : Int)] from Blk.far (w := w.drew) KE.out HEO.out _)
    have KO9 := Lib.hid (show Blk (w.drew.setCell ⟨O, 0, none⟩ (.string (S0 ++ S2))) O 9 #[.string (S0 ++ S2)] from Blk.set_ (w := w.drew) KO.out 0 _)
    have keepK := hide (fun W (h : (Blk W E 3 #[.int .i64 (e : Int)] ∧ (∃ Sx, Blk W O 9 #[.string Sx]) ∧ Below B w W)) => (show (fun W => W.cell? ⟨E, 0, none⟩ = some (.int .i64 (e : Int)) ∧ (Blk W E 3 #[.int .i64 (e : Int)] ∧ (∃ Sx, Blk W O 9 #[.string Sx]) ∧ Below B w W)) W from ⟨h.1.cell 0, h⟩))
    have yy := (⟨KE.out, ⟨_, KO.out⟩, X0.out⟩ : (Blk w.drew E 3 #[.int .i64 (e : Int)] ∧ (∃ Sx, Blk w.drew O 9 #[.string Sx]) ∧ Below B w w.drew))
    refine region_K (fun W => W.cell? ⟨E, 0, none⟩ = some (.int .i64 (e : Int)) ∧ (Blk W E 3 #[.int .i64 (e : Int)] ∧ (∃ Sx, Blk W O 9 #[.string Sx]) ∧ Below B w W)) (fun W => W.cell? ⟨O, 0, none⟩ = some (.string S0)) [4] (by kernel_rfl) ?_
    have hS0 := hcO
    have hT0 := keepK.out _ yy
    refine anyK_load 0 (oi := ?oo1) ?ho1 (by kernel_rfl) (by kernel_rfl) (by kernel_rfl) (by kernel_rfl) (by kernel_rfl) (by kernel_rfl) ?hq1 ?hw1 hT0 hS0 (v := ?vv1) ?hy1 ?hk1
    case ho1 => (simp only [List.getElem?_toArray, List.getElem?_cons_succ, List.getElem?_cons_zero]; rfl)
    case hq1 => exact fun _ _ _ h => h
    case hw1 => rfl
    case hy1 =>
      intro W hW1 hW
      go_simp
      first | done | with_reducible rfl
    case hk1 =>
    try simp only [Act.put, List.setIfInBounds_toArray, List.set_cons_zero, List.set_cons_succ]
    refine anyK_take 1 (oi := ?oo2) ?ho2 (by kernel_rfl) (by kernel_rfl) (by kernel_rfl) (by kernel_rfl) ?hq2 ?hw2 hT0 (fun _ => hS0) (v := ?vv2) ?hy2 ?hk2
    case ho2 => (simp only [List.getElem?_toArray, List.getElem?_cons_succ, List.getElem?_cons_zero]; rfl)
    case hq2 => exact fun _ _ _ h => h
    case hw2 => rfl
    case hy2 =>
      intro W hW
      obtain ⟨z0, z1⟩ := hW
      go_simp
      first | done | with_reducible rfl
    case hk2 =>
    try simp only [Act.put, List.setIfInBounds_toArray, List.set_cons_zero, List.set_cons_succ]
    refine anyK_on1 2 (by kernel_rfl) ?_
    refine anyK_one 2 (o := ?oo3) ?ho3 ?hk3
    case ho3 => (simp only [List.getElem?_toArray, List.getElem?_cons_succ, List.getElem?_cons_zero]; rfl)
    case hk3 =>
    intro K hK
    go_simp
    refine (HI.out _).mono ?_
    rintro e wi ⟨rfl, rfl⟩
    try go_wp2_with fail
    replace yy := yy
    have hT1 := keepK.out _ yy
    have hS1 := hcO
    refine hK.out _ _ hT1 (fun _ => hS1) ?_
    clear hK K
    try simp only [Act.put, List.setIfInBounds_toArray, List.set_cons_zero, List.set_cons_succ]
    refine anyK_take 3 (oi := ?oo4) ?ho4 (by kernel_rfl) (by kernel_rfl) (by kernel_rfl) (by kernel_rfl) ?hq4 ?hw4 hT1 (fun _ => hS1) (v := ?vv4) ?hy4 ?hk4
    case ho4 => (simp only [List.getElem?_toArray, List.getElem?_cons_succ, List.getElem?_cons_zero]; rfl)
    case hq4 => exact fun _ _ _ h => h
    case hw4 => rfl
    case hy4 =>
      intro W hW
      go_simp
      first | done | with_reducible rfl
    case hk4 =>
    try simp only [Act.put, List.setIfInBounds_toArray, List.set_cons_zero, List.set_cons_succ]
    refine anyK_on1 4 (by kernel_rfl) ?_
    refine anyK_one 4 (o := ?oo5) ?ho5 ?hk5
    case ho5 => (simp only [List.getElem?_toArray, List.getElem?_cons_succ, List.getElem?_cons_zero]; rfl)
    case hk5 =>
    intro K hK
    have q5 := hcO
    have z5 := hfO
    replace yy := (⟨KE9.out, ⟨_, KO9.out⟩, X9.out⟩ : (Blk (w.drew.setCell ⟨O, 0, none⟩ (.string (S0 ++ S2))) E 3 #[.int .i64 (e : Int)] ∧ (∃ Sx, Blk (w.drew.setCell ⟨O, 0, none⟩ (.string (S0 ++ S2))) O 9 #[.string Sx]) ∧ Below B w (w.drew.setCell ⟨O, 0, none⟩ (.string (S0 ++ S2)))))
    go_simp
    clear q5 z5
    have hT2 := keepK.out _ yy
    refine hK.out _ _ hT2 (fun h => by cases h) ?_
    clear hK K
    try simp only [Act.put, List.setIfInBounds_toArray, List.set_cons_zero, List.set_cons_succ]
    refine anyK_done (by kernel_rfl) ?_ _
    clear keepK hT0 hT1 hT2
    try clear keepS hS0 hS1
    try clear yy
    try clear keepS
    clear hcO hfO hcE hfE
    obtain ⟨W9, hW9⟩ : ∃ W9, W9 = (w.setCell ⟨O, 0, none⟩ (.string (S0 ++ S2))).drew := ⟨_, rfl⟩
    have KE8 := Lib.hid (show Blk W9 E 3 #[.int .i64 (e : Int)] by rw [hW9]; exact KE9.out)
    have KO8 := Lib.hid (show Blk W9 O 9 #[.string (S0 ++ S2)] by rw [hW9]; exact KO9.out)
    have X8 := Lib.hid (show Below B w W9 by rw [hW9]; exact X9.out)
    rw [← hW9]
    clear hW9 KE9 KO9 X9
    have hcE : W9.cell? ⟨E, 0, none⟩ = some (.int .i64 (e : Int)) := KE8.out.cell 0
    have hfE := KE8.out.frozen 0
    go_wp2
    refine bodyPost_end (v := .tuple #[]) (by first | rfl | simp [results, Tryd.results80, go_sem]) rfl ?_
    rw [HF.out, ← HA.out]
    exact ⟨rfl, Blk.set_ KE8.out 0 _, Blk.far KO8.out (Ne.symm HEO.out) _, Below.setCell X8.out (p := ⟨E, 0, none⟩) HB.out.1 _⟩
  · obtain rfl : e = 0 := by omega
    have t1 : decide ((0 : Int) < ((0 : Nat) : Int)) = false := rfl
    have KE := Lib.hid kE
    have KO := Lib.hid kO
    have HB := Lib.hid hBE
    have HEO := Lib.hid hEO
    have HF := Lib.hid (show S ++ flushT 0 = S by unfold flushT; simp)
    clear kE kO hBE hBO hS h0 he
    go_enter Tryd.func80, Tryd.ntmps80
    go_wp2
    refine bodyPost_end (v := .tuple #[]) (by first | rfl | simp [results, Tryd.results80, go_sem]) rfl ?_
    rw [HF.out]
    exact ⟨rfl, Blk.set_ KE.out 0 _, Blk.far KO.out (Ne.symm HEO.out) _, Below.setCell (Below.refl B w) (p := ⟨E, 0, none⟩) HB.out _⟩
end Go.Proofs.YtdoibgmmijhlfaaDoor
namespace Go.Proofs.YtdoibgmmijhlfaaDoor
open Go.RowKit
set_option linter.unusedVariables false
set_option linter.unusedSimpArgs false
/-- The state of place.row: what is written, and the empty cells behind it. -/
def rowF (ps : List PieceM) (st : BL × Nat) (c : Int) : BL × Nat := if c = 0 then (st.1, st.2 + 1) else (st.1 ++ flushT st.2 ++ [cellU ps c], 0)
theorem rowF_all (ps : List PieceM) : ∀ (cs : List Int) (st : BL × Nat), (cs.foldl (rowF ps) st).1 ++ flushT (cs.foldl (rowF ps) st).2 = st.1 ++ rowT ps st.2 cs
  | [], st => rfl
  | c :: cs, st => by
    rw [List.foldl_cons, rowF_all ps cs]
    unfold rowF
    by_cases h : c = 0
    · rw [if_pos h, rowT, if_pos h]
    · rw [if_neg h, rowT, if_neg h]
      simp
theorem rowF_le (ps : List PieceM) : ∀ (cs : List Int) (st : BL × Nat), st.2 + cs.length ≤ 9 → (cs.foldl (rowF ps) st).2 ≤ st.2 + cs.length ∧ (cs.foldl (rowF ps) st).1.length ≤ st.1.length + 5 * cs.length
  | [], st, _ => by simp
  | c :: cs, st, h => by
    rw [List.length_cons] at h ⊢
    rw [List.foldl_cons]
    have hf : (flushT st.2).length ≤ 4 := by
      unfold flushT
      split
      · rw [Lib.decDigits_length]; exact nDigits_le4 (by omega)
      · simp
    by_cases h0 : c = 0
    · have e : rowF ps st c = (st.1, st.2 + 1) := by unfold rowF; rw [if_pos h0]
      rw [e]
      have := rowF_le ps cs (st.1, st.2 + 1) (by simp only; omega)
      simp only at this
      omega
    · have e : rowF ps st c = (st.1 ++ flushT st.2 ++ [cellU ps c], 0) := by unfold rowF; rw [if_neg h0]
      rw [e]
      have := rowF_le ps cs (st.1 ++ flushT st.2 ++ [cellU ps c], 0) (by simp only; omega)
      simp only [List.length_append, List.length_singleton] at this
      omega
theorem rowF_take (ps : List PieceM) {cs : List Int} {k : Nat} {c : Int} (h : cs[k]? = some c) : (cs.take (k + 1)).foldl (rowF ps) ([], 0) = rowF ps ((cs.take k).foldl (rowF ps) ([], 0)) c := by
  rw [List.take_add_one, h]
  simp
set_option maxHeartbeats 4000000 in
set_option maxRecDepth 100000 in
theorem row_any (R : RulesM) (v : Value) (l : List Int) (A : Option Addr) (n c : Nat) (w : World) (hR : RulesAt w v R) (hL : Lets R.pieces) (h6 : R.pieces.length ≤ 6) (hn : l.length = n) (hn8 : n ≤ 8) (hl : ∀ x ∈ l, 0 ≤ x ∧ x ≤ 2 * (R.pieces.length : Int)) (hA : IntsAt w A l) :
    Calls Tryd.prog 55 #[v, .slice A n c] w fun e w' => e = .returned (.string (strU (rowT R.pieces 0 l))) ∧ Ext w w' := by
  obtain ⟨pA, pc, sA, sc, eA, ec, rfl, hp, -⟩ := hR
  obtain ⟨ps, hps⟩ : ∃ ps, ps = R.pieces := ⟨_, rfl⟩
  rw [← hps] at hL h6 hp hl ⊢
  obtain ⟨m, hm⟩ : ∃ m, ps.length = m := ⟨_, rfl⟩
  rw [hm] at h6 hl ⊢
  have HP := Lib.hid hp
  have HA := Lib.hid hA
  have HL := Lib.hid hl
  have HLT := Lib.hid hL
  have HN := Lib.hid hn
  have HM := Lib.hid hm
  have HFF := Lib.hid (show (l.foldl (rowF ps) ([], 0)).1 ++ flushT (l.foldl (rowF ps) ([], 0)).2 = rowT ps 0 l by simpa using rowF_all ps l ([], 0))
  obtain ⟨xa, k1⟩ := blks1 w #[.string R.name, .int .i64 R.width, .int .i64 R.height, .slice pA m pc, .slice sA R.start.length sc, .bool R.falls, .bool R.keeps, .slice eA R.ends.length ec, .int .i64 R.blocked, .int .i64 R.quiet, .int .i64 R.rept] 26
  clear hp hA hl hL hn hm hps
  go_enter Tryd.func55, Tryd.ntmps55
  go_upto_region 1 with fail
  generalize hwA : w.alloc _ = wA at *
  have hsz : wA.heap.size = w.heap.size + 1 := by rw [← hwA]; simp
  clear hwA
  obtain ⟨xb, k2, k3⟩ := blks2 wA #[.string ⟨#[]⟩] 9 #[.int .i64 0] 3
  go_upto_region 2 with fail
  rw [hsz] at k2 k3
  have k0 := k1.ext xb
  have x3 : Ext w _ := ext_trans xa xb
  obtain ⟨B, hB⟩ : ∃ B, B = w.heap.size := ⟨_, rfl⟩
  have h0B : Below B w ((wA.alloc (.cells #[.string ⟨#[]⟩] 9)).alloc (.cells #[.int .i64 0] 3)) := by rw [hB]; exact x3
  rw [← hB] at k0 k2 k3 ⊢
  obtain ⟨O, hO⟩ : ∃ O, O = B + 1 := ⟨_, rfl⟩
  rw [← hO] at k2 k3 ⊢
  obtain ⟨E, hE⟩ : ∃ E, E = O + 1 := ⟨_, rfl⟩
  rw [← hE] at k3 ⊢
  generalize (wA.alloc (.cells #[.string ⟨#[]⟩] 9)).alloc (.cells #[.int .i64 0] 3) = w3 at *
  have HBW := Lib.hid hB
  have HBO := Lib.hid (show B + 1 ≤ O ∧ B + 1 ≤ E ∧ E ≠ O ∧ B ≠ O ∧ B ≠ E by omega)
  have K0 := Lib.hid k0
  have KO := Lib.hid k2
  have KE := Lib.hid k3
  have X3 := Lib.hid h0B
  clear hB hO hE k0 k2 k3 h0B x3 xb xa k1 hsz
  go_wp2_with fail
  go_loopw [14] (fun i wr => ∃ k : Nat, k ≤ n ∧ i = .int .i64 (k : Int) ∧ Blk wr O 9 #[.string (strU ((l.take k).foldl (rowF ps) ([], 0)).1)] ∧ Blk wr E 3 #[.int .i64 (((l.take k).foldl (rowF ps) ([], 0)).2 : Int)] ∧ Below (B + 1) w3 wr) (fun i _ => n - (RowKit.intOf i).toNat)
  case atStart => exact ⟨0, Nat.zero_le _, rfl, KO.out, KE.out, Below.refl _ _⟩
  case round =>
    obtain ⟨k, hk, rfl, kO, kE, hx⟩ := hrel
    have HX := Lib.hid hx
    have HXW := Lib.hid (show Ext w wr by
      have h1 := X3.out
      rw [HBW.out] at h1 hx
      exact h1.trans ⟨hx.os, hx.tape, hx.output, hx.size, fun b hb => hx.block b (by omega)⟩)
    have HK0 := Lib.hid (show Blk wr B 26 _ from (hx.block B (by omega)).trans K0.out)
    by_cases hkn : k < n
    · obtain ⟨y, hy⟩ : ∃ y, l[k]? = some y := ⟨_, List.getElem?_eq_getElem (by rw [HN.out]; exact hkn)⟩
      have hy1 := HL.out y (List.mem_of_getElem? hy)
      obtain ⟨b, o, rfl, hcy⟩ := (HA.out.ext HXW.out) k (by rw [HN.out]; exact hkn)
      rw [show l.getD k 0 = y by rw [List.getD_eq_getElem?_getD, hy]; rfl] at hcy
      have hle := rowF_le ps (l.take k) ([], 0) (by rw [List.length_take]; simp only; omega)
      rw [List.length_take] at hle
      simp only [List.length_nil, Nat.zero_add] at hle
      have HT := Lib.hid (rowF_take ps hy)
      generalize (l.take k).foldl (rowF ps) ([], 0) = st at *
      obtain ⟨S, e⟩ := st
      simp only at kO kE hle
      have he : e ≤ 8 := by omega
      have hS : S.length ≤ 40 := by omega
      have HKN := Lib.hid hkn
      have t0 : decide ((k : Int) < (n : Int)) = true := decide_eq_true (by omega)
      have t0n : decide (k < n) = true := decide_eq_true hkn
      have k5 : (k : Int) < (n : Int) := by omega
      have k6 : (k : Int) ≤ 8 := by omega
      clear hle hy hx hkn hk
      by_cases h0 : y = 0
      · subst h0
        have HT2 := Lib.hid (show (l.take (k + 1)).foldl (rowF ps) ([], 0) = (S, e + 1) by rw [HT.out]; unfold rowF; rw [if_pos rfl])
        have hcE : wr.cell? ⟨E, 0, none⟩ = some (.int .i64 (e : Int)) := kE.cell 0
        have hfE := kE.frozen 0
        have e6 : (e : Int) ≤ 8 := by omega
        have R1 := Lib.hid (Blk.far (p := ⟨E, 0, none⟩) kO (Ne.symm HBO.out.2.2.1) (.int .i64 ((e : Int) + 1)))
        have R2 := Lib.hid (Blk.set_ kE 0 (.int .i64 ((e : Int) + 1)))
        have R3 := Lib.hid (Below.setCell HX.out (p := ⟨E, 0, none⟩) HBO.out.2.1 (.int .i64 ((e : Int) + 1)))
        clear kO kE HT hy1 hS he
        go_wp2
        go_roundw
        case rel => exact ⟨k + 1, HKN.out, by go_num, by rw [HT2.out]; exact R1.out, by rw [HT2.out]; exact R2.out, R3.out⟩
        case measure => have := HKN.out; simp [RowKit.intOf]; omega
      · have hyy : ¬ y = 0 := h0
        have h0b : (y == 0) = false := beq_eq_false_iff_ne.2 h0
        obtain ⟨q, hq⟩ : ∃ q : Nat, (y - 1) / 2 = (q : Int) := ⟨((y - 1) / 2).toNat, by omega⟩
        have hqm : q < m := by omega
        obtain ⟨p, hpq⟩ : ∃ p, ps[q]? = some p := ⟨_, List.getElem?_eq_getElem (by rw [HM.out]; exact hqm)⟩
        obtain ⟨pb, po, wA2, wc, rfl, c0, -, -, -, -⟩ := HP.out.get hpq
        have HC0 := Lib.hid (fun W (x : Ext w W) => Ext.cell x c0)
        have hlt := HLT.out.in_ q p hpq
        obtain ⟨z, hz⟩ := Int.eq_ofNat_of_zero_le (show 0 ≤ p.letter by omega)
        have hz2 : 65 ≤ z ∧ z ≤ 90 := by omega
        have HFL := Lib.hid (flush_any e S (B + 1) E O wr kE kO (by omega) (by omega) HBO.out.2.2.1 HBO.out.2.1 HBO.out.1)
        have hfl : (flushT e).length ≤ 4 := by
          unfold flushT
          split
          · rw [Lib.decDigits_length]; exact nDigits_le4 (by omega)
          · simp
        have i1 : IntKind.i64.wrap (y - 1) = y - 1 := by rw [IntKind.wrap_i64]; omega
        have i2 : (y - 1).tdiv 2 = (q : Int) := by rw [Int.tdiv_eq_ediv_of_nonneg (by omega)]; exact hq
        have i3 : (q : Int) < (m : Int) := by omega
        have i4 := hq
        have HBS := Lib.hid (show B < w3.heap.size from Blk.lt K0.out)
        clear c0 kE kO he
        by_cases hpar : y % 2 = 0
        · have HZ := Lib.hid (show cellU ps y = UInt8.ofNat (z + 32) by
            unfold cellU
            rw [hq, Int.toNat_natCast, List.getD_eq_getElem?_getD, List.getElem?_map, hpq, if_pos hpar]
            show chU (p.letter + 32) = _
            rw [hz]
            rfl)
          have hcv := fun W => run_rune ⟨z + 32, by omega⟩ W
          simp only at hcv
          have w32 : IntKind.i32.wrap ((z + 32 : Nat) : Int) = ((z + 32 : Nat) : Int) := by rw [IntKind.wrap_i32]; omega
          have u8 : IntKind.u8.wrap ((z : Int) + 32) = ((z + 32 : Nat) : Int) := by rw [IntKind.wrap_u8]; omega
          have hm2 : y % 2 = 0 := by omega
          have hm3 : y.tmod 2 = 0 := by rw [Int.tmod_eq_emod_of_nonneg (by omega)]; exact hm2
          have HF := Lib.hid (show strU ((rowF ps (S, e) y).1) = strU (S ++ flushT e) ++ strU [UInt8.ofNat (z + 32)] by rw [strU_app]; unfold rowF; rw [if_neg h0, HZ.out])
          have HF2 := Lib.hid (show (rowF ps (S, e) y).2 = 0 by unfold rowF; rw [if_neg h0])
          have q9 : ¬ (9223372036854775807 < (strU (S ++ flushT e)).size + (strU [UInt8.ofNat (z + 32)]).size) := by
            rw [strU_size, strU_size, List.length_append, List.length_singleton]
            omega
          rw [hz] at HC0
          clear hq hpq hz hlt hy1 hfl hm2
          obtain ⟨zb, hzb⟩ : ∃ zb, zb = z + 32 := ⟨_, rfl⟩
          rw [← hzb] at hcv w32 u8 q9 HF
          clear hzb hpar hz2
          generalize strU [UInt8.ofNat zb] = S1 at *
          generalize strU (S ++ flushT e) = S0 at *
          go_wp2_with fail
          refine HFL.out.mono ?_
          rintro r w5 ⟨rfl, kE5, kO5, x5⟩
          have hcO : w5.cell? ⟨O, 0, none⟩ = some (.string S0) := kO5.cell 0
          have hfO := kO5.frozen 0
          have HX5 := Lib.hid (HX.out.trans x5)
          have HXW5 := Lib.hid (show Ext w w5 by
            have h1 := X3.out
            have hx := HX5.out
            rw [HBW.out] at h1 hx
            exact h1.trans ⟨hx.os, hx.tape, hx.output, hx.size, fun b hb => hx.block b (by omega)⟩)
          have hcP := HC0.out w5 HXW5.out
          have hcR : w5.cell? ⟨B, 3, none⟩ = some (.slice (some ⟨pb, po, none⟩) m pc) := (show Blk w5 B 26 _ from (HX5.out.block B (by have := HBS.out; omega)).trans K0.out).cell 3
          have R1 := Lib.hid (Blk.set_ kO5 0 (.string (S0 ++ S1)))
          have R2 := Lib.hid (Blk.far (p := ⟨O, 0, none⟩) kE5 HBO.out.2.2.1 (.string (S0 ++ S1)))
          have R3 := Lib.hid (Below.setCell HX5.out (p := ⟨O, 0, none⟩) HBO.out.1 (.string (S0 ++ S1)))
          clear kE5 kO5 x5
          go_wp2
          go_roundw
          case rel => exact ⟨k + 1, HKN.out, by go_num, by rw [HT.out, HF.out]; exact R1.out, by rw [HT.out, HF2.out]; exact R2.out, R3.out⟩
          case measure => have := HKN.out; simp [RowKit.intOf]; omega
        · have HZ := Lib.hid (show cellU ps y = UInt8.ofNat (z) by
            unfold cellU
            rw [hq, Int.toNat_natCast, List.getD_eq_getElem?_getD, List.getElem?_map, hpq, if_neg hpar]
            show chU (p.letter + 0) = _
            rw [hz]
            rfl)
          have hcv := fun W => run_rune ⟨z, by omega⟩ W
          simp only at hcv
          have w32 : IntKind.i32.wrap ((z : Nat) : Int) = ((z : Nat) : Int) := by rw [IntKind.wrap_i32]; omega
          have hm2 : y % 2 = 1 := by omega
          have hm3 : y.tmod 2 = 1 := by rw [Int.tmod_eq_emod_of_nonneg (by omega)]; exact hm2
          have HF := Lib.hid (show strU ((rowF ps (S, e) y).1) = strU (S ++ flushT e) ++ strU [UInt8.ofNat (z)] by rw [strU_app]; unfold rowF; rw [if_neg h0, HZ.out])
          have HF2 := Lib.hid (show (rowF ps (S, e) y).2 = 0 by unfold rowF; rw [if_neg h0])
          have q9 : ¬ (9223372036854775807 < (strU (S ++ flushT e)).size + (strU [UInt8.ofNat (z)]).size) := by
            rw [strU_size, strU_size, List.length_append, List.length_singleton]
            omega
          rw [hz] at HC0
          clear hq hpq hz hlt hy1 hfl hm2
          generalize strU [UInt8.ofNat (z)] = S1 at *
          generalize strU (S ++ flushT e) = S0 at *
          go_wp2_with fail
          refine HFL.out.mono ?_
          rintro r w5 ⟨rfl, kE5, kO5, x5⟩
          have hcO : w5.cell? ⟨O, 0, none⟩ = some (.string S0) := kO5.cell 0
          have hfO := kO5.frozen 0
          have HX5 := Lib.hid (HX.out.trans x5)
          have HXW5 := Lib.hid (show Ext w w5 by
            have h1 := X3.out
            have hx := HX5.out
            rw [HBW.out] at h1 hx
            exact h1.trans ⟨hx.os, hx.tape, hx.output, hx.size, fun b hb => hx.block b (by omega)⟩)
          have hcP := HC0.out w5 HXW5.out
          have hcR : w5.cell? ⟨B, 3, none⟩ = some (.slice (some ⟨pb, po, none⟩) m pc) := (show Blk w5 B 26 _ from (HX5.out.block B (by have := HBS.out; omega)).trans K0.out).cell 3
          have R1 := Lib.hid (Blk.set_ kO5 0 (.string (S0 ++ S1)))
          have R2 := Lib.hid (Blk.far (p := ⟨O, 0, none⟩) kE5 HBO.out.2.2.1 (.string (S0 ++ S1)))
          have R3 := Lib.hid (Below.setCell HX5.out (p := ⟨O, 0, none⟩) HBO.out.1 (.string (S0 ++ S1)))
          clear kE5 kO5 x5
          go_wp2
          go_roundw
          case rel => exact ⟨k + 1, HKN.out, by go_num, by rw [HT.out, HF.out]; exact R1.out, by rw [HT.out, HF2.out]; exact R2.out, R3.out⟩
          case measure => have := HKN.out; simp [RowKit.intOf]; omega
    · obtain rfl : k = n := by omega
      have t0 : decide ((k : Int) < (k : Int)) = false := decide_eq_false (by omega)
      have t0n : decide (k < k) = false := decide_eq_false (by omega)
      have hl2 : l.take k = l := List.take_of_length_le (by rw [HN.out]; exact Nat.le_refl _)
      rw [hl2] at kO kE
      have hle := rowF_le ps l ([], 0) (by rw [HN.out]; simp only; omega)
      rw [HN.out] at hle
      simp only [List.length_nil, Nat.zero_add] at hle
      have HFL := Lib.hid (flush_any _ _ (B + 1) E O wr kE kO (by omega) (by omega) HBO.out.2.2.1 HBO.out.2.1 HBO.out.1)
      rw [HFF.out] at HFL
      clear kO kE hle hl2 hx hkn hk
      go_wp2_with fail
      refine HFL.out.mono ?_
      rintro r w5 ⟨rfl, kE5, kO5, x5⟩
      have HX5 := Lib.hid (HX.out.trans x5)
      have HXW5 := Lib.hid (show Ext w w5 by
        have h1 := X3.out
        have hx := HX5.out
        rw [HBW.out] at h1 hx
        exact h1.trans ⟨hx.os, hx.tape, hx.output, hx.size, fun b hb => hx.block b (by omega)⟩)
      have hcO : w5.cell? ⟨O, 0, none⟩ = some (.string (strU (rowT ps 0 l))) := kO5.cell 0
      clear kE5 kO5 x5 HX5
      go_wp2
      go_ret
      exact ⟨rfl, HXW5.out⟩
end Go.Proofs.YtdoibgmmijhlfaaDoor
