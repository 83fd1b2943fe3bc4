/- Walk: the moves of a sum of two heaps; pairs as keys. -/
import Derived.Test.YthgbdonjheengaaNimV
import Derived.Test.YthgbdonjheengaaNimX
import Derived.Test.YthgbdonjheengaaBlks
import Derived.DeepKeys4
namespace Go.Proofs.Ythgbdonjheengaa
open Go.RowKit Go.Maps
set_option linter.unusedVariables false
theorem laidOutN : laidOutB Try.prog = true := by kernel_rfl
theorem pairLaw : WideMaps.KeyLaw Try.prog 26 := deep_law_laid laidOutN (m := 2) (by omega) (of_decide_eq_true (by kernel_rfl)) (by kernel_rfl) (by rw [Try.underlying26])
theorem lits_int (d : Nat) (a : Int) (h : (Lit.int .i64 a).wf = true) : Try.prog.keyLits (d + 1) 3 [.int .i64 a] = some [.int .i64 a] := by
  simp [Program.keyLits, Try.underlying3, h]
theorem pairKey (a b : Nat) (ha : a ≤ 1000000) (hb : b ≤ 1000000) : ∃ l, keyOf Try.prog 26 (.agg #[.int .i64 (a : Int), .int .i64 (b : Int)]) = some l := by
  have w1 := wf_small ha
  have w2 := wf_small hb
  have hk : Try.prog.keyType 26 = true := by kernel_rfl
  have hc : Try.prog.cellsOf 26 = 2 := by kernel_rfl
  have hc3 : Try.prog.cellsOf 3 = 1 := by kernel_rfl
  have hpos : 0 < Try.prog.types.size := of_decide_eq_true (by kernel_rfl)
  obtain ⟨d, hd⟩ := Nat.exists_eq_succ_of_ne_zero (Nat.ne_of_gt hpos)
  simp only [keyOf, Try.underlying26, hk, Bool.true_and, hd]
  have hf : Value.formed Try.prog 26 (Value.agg #[Value.int IntKind.i64 ↑a, Value.int IntKind.i64 ↑b]) = true := by
    simp [Value.formed, Try.underlying26, hc]
  rw [if_pos hf]
  have e : Try.prog.keyLits (d + 1 + 1) 26 [.int .i64 (a : Int), .int .i64 (b : Int)] = some [.int .i64 (a : Int), .int .i64 (b : Int)] := by
    unfold Program.keyLits
    rw [Try.underlying26]
    simp [hc, hc3, lits_int _ _ w1, lits_int _ _ w2]
  exact ⟨_, by rw [show (Value.agg #[Value.int IntKind.i64 ↑a, Value.int IntKind.i64 ↑b]).cells.toList = [.int .i64 (a : Int), .int .i64 (b : Int)] from rfl, e]; rfl⟩
abbrev pairV (p : Nat × Nat) : Value := .agg #[.int .i64 (p.1 : Int), .int .i64 (p.2 : Int)]
def keyP : KeyAs (Nat × Nat) := ⟨26, pairV, fun p => p.1 ≤ 1000000 ∧ p.2 ≤ 1000000⟩
theorem keyP_good : keyP.Good := ⟨Keyed.of_law pairLaw, fun a b _ _ h => by
  obtain ⟨a1, a2⟩ := a
  obtain ⟨b1, b2⟩ := b
  have h' : (Value.agg #[.int .i64 (a1 : Int), .int .i64 (a2 : Int)]) = .agg #[.int .i64 (b1 : Int), .int .i64 (b2 : Int)] := h
  simp at h'
  have e1 : a1 = b1 := by have := h'.1; omega
  have e2 : a2 = b2 := by have := h'.2; omega
  rw [e1, e2], fun a h => pairKey a.1 a.2 h.1 h.2⟩
abbrev nxP (m n : Int) : Nat × Nat → List (Nat × Nat) := nxB (nxH m) (nxH n)
abbrev rkP : Nat × Nat → Nat := rkB id id
abbrev grP (m n : Int) : Nat × Nat → Nat := gr (nxP m n) rkP
theorem falls_pair (m n : Int) : Falls (nxP m n) rkP := falls_both (falls_heap m) (falls_heap n)
theorem grP_eq (m n : Int) (p : Nat × Nat) : grP m n p = grH m p.1 ^^^ grH n p.2 := gr_both (falls_heap m) (falls_heap n) _ p (Nat.le_refl _)
theorem pairInfo : (Try.prog.info? 26).map (fun i => (i.zero, i.size, i.bytes)) = some (some (.agg #[.int .i64 0, .int .i64 0]), 2, 16) := by kernel_rfl
def cellsP (L : List (Nat × Nat)) : List Value := L.flatMap fun p => [.int .i64 (p.1 : Int), .int .i64 (p.2 : Int)]
theorem cellsP_add (L : List (Nat × Nat)) (p : Nat × Nat) : cellsP (L ++ [p]) = cellsP L ++ [.int .i64 (p.1 : Int), .int .i64 (p.2 : Int)] := by simp [cellsP]
theorem ownR_kept {e e' : TypeId} {sz sz' : Nat} {w0 w0' w w' : World} {v v' : Value} {n n' : Nat} {cs cs' : List Value} (h : OwnR e sz w0 w v n cs) (h' : OwnR e' sz' w0' w v' n' cs') (hne : e ≠ e') (hg : w.grownBy w' v'.ownBlock) : OwnR e sz w0 w' v n cs := by
  obtain ⟨A, c, rfl, h⟩ := h
  obtain ⟨A', c', rfl, h'⟩ := h'
  have hk := own_ne h h' hne
  refine ⟨A, c, rfl, h.1, ?_⟩
  rcases h.2 with hn | ⟨g, cap, cur, ev, hb, hh, r⟩
  · exact .inl hn
  · refine .inr ⟨g, cap, cur, ev, hb, (hg.block g (Array.getElem?_eq_some_iff.1 hh).1 fun e => ?_).trans hh, r⟩
    rw [ev] at hk
    rcases hk with hk | hk
    · simp [Value.ownBlock] at hk
    · exact hk e
/-- The game of two heaps. -/
abbrev bothV (m n : Int) : Value := .agg #[heapG m, heapG n]
abbrev bothG (m n : Int) : Value := .iface 32 (bothV m n)
set_option maxHeartbeats 4000000 in
set_option maxRecDepth 100000 in
theorem both_next (m n : Int) (a b : Nat) (ha : a ≤ 20000) (hb : b ≤ 20000) (w : World) : Calls Try.prog 69 #[bothV m n, pairV (a, b)] w fun e w' => ∃ v, e = .returned v ∧ OwnR 26 2 w w' v (nxP m n (a, b)).length (cellsP (nxP m n (a, b))) ∧ Ext w w' := by
  have HNA := Lib.hid (fun W => heap_next m a ha W)
  have HNB := Lib.hid (fun W => heap_next n b hb W)
  have HLA := Lib.hid (show (nxH m a).length ≤ 20000 by rw [nxH_take]; simp [cntH]; split <;> omega)
  have HLB := Lib.hid (show (nxH n b).length ≤ 20000 by rw [nxH_take]; simp [cntH]; split <;> omega)
  have HRES := Lib.hid (show nxP m n (a, b) = (nxH m a).map (·, b) ++ (nxH n b).map (a, ·) from rfl)
  have ha2 : (a : Int) ≤ 20000 := by omega
  have hb2 : (b : Int) ≤ 20000 := by omega
  clear ha hb
  obtain ⟨x1, k1, k2⟩ := blks2 w #[heapG m, heapG n] 32 #[.int .i64 (a : Int), .int .i64 (b : Int)] 26
  have f1 := k1.cell
  have f2 := k2.cell
  have X1 := Lib.hid x1
  have K1 := Lib.hid k1
  have K2 := Lib.hid k2
  clear x1 k1 k2
  go_enter Try.func69, Try.ntmps69
  go_wp2_with fail
  refine (HNA.out _).mono ?_
  rintro e w2 ⟨v2, rfl, own2, x2⟩
  generalize (w.alloc (.cells #[heapG m, heapG n] 32)).alloc (.cells #[.int .i64 (a : Int), .int .i64 (b : Int)] 26) = wA at *
  generalize w.heap.size + 1 = BP at *
  generalize w.heap.size = BG at *
  obtain ⟨A2, d2, rfl, -⟩ := id own2
  obtain ⟨N, hN⟩ : ∃ N, N = (nxH m a).length := ⟨_, rfl⟩
  have HN := Lib.hid hN
  rw [← hN] at own2 HLA ⊢
  have HO2 := Lib.hid own2
  have HX2 := Lib.hid x2
  clear own2 x2 hN f1 f2 HNA
  go_wp2_with fail
  go_loopw [5, 16] (fun v i wr => ∃ k : Nat, k ≤ N ∧ i = .int .i64 (k : Int) ∧ OwnR 26 2 wA wr v k (cellsP (((nxH m a).take k).map (·, b))) ∧ OwnR 3 1 wA wr (.slice A2 N d2) N (intsN (nxH m a)) ∧ Ext wA wr) (fun _ i _ => N - (intOf i).toNat)
  case atStart => exact ⟨0, Nat.zero_le _, rfl, OwnR.nil _ _ _ _, HO2.out, HX2.out⟩
  case round =>
    obtain ⟨k, hk, rfl, hO, hI, hE⟩ := hrel
    obtain ⟨vA, vc, rfl, -⟩ := id hO
    have HO := Lib.hid hO
    have HI := Lib.hid hI
    have HE := Lib.hid hE
    have l0 := HLA.out
    by_cases hkN : k < N
    · obtain ⟨t, ht⟩ : ∃ t, (nxH m a)[k]? = some t := ⟨_, List.getElem?_eq_getElem (by rw [← HN.out]; exact hkN)⟩
      obtain ⟨A3, d3, e3, kc, -, -, -⟩ := hI.cells
      injection e3 with e31 e32 e33
      subst e31
      obtain ⟨bb, oo, rfl, hc⟩ := kc k (.int .i64 (t : Int)) (by simp [intsN, ht])
      have f2 := (K2.out.ext hE).cell
      have HKN := Lib.hid hkN
      have HTK := Lib.hid (show ((nxH m a).take (k + 1)).map (·, b) = ((nxH m a).take k).map (·, b) ++ [(t, b)] by rw [List.take_add_one, ht]; simp)
      have i1 : (k : Int) < (N : Int) := by omega
      have i2 : (k : Int) ≤ 20000 := by omega
      clear ht hk hkN hO hI hE l0 kc e33
      go_wp2_with (at_builtin; refine wp_append_r (.tmp 20) (.tmp 25) rfl 103 rfl 26 2 16 (.agg #[.int .i64 0, .int .i64 0]) Try.underlying103 pairInfo rfl (by decide) (by decide) wA wr (.slice vA k vc) k _ [.int .i64 (t : Int), .int .i64 (b : Int)] rfl HO.out rfl rfl (by simp [Value.oneCell']) HE.out (by have := HKN.out; have := HLA.out; omega) ?_; intro v4 w4 own4 x4 g4)
      rw [show [Value.int .i64 (t : Int), .int .i64 (b : Int)] = [.int .i64 (((t, b) : Nat × Nat).1 : Int), .int .i64 (((t, b) : Nat × Nat).2 : Int)] from rfl, ← cellsP_add, ← HTK.out] at own4
      have O4 := Lib.hid own4
      have X4 := Lib.hid x4
      have I4 := Lib.hid (ownR_kept HI.out HO.out (by decide) g4)
      clear own4 x4 g4 hc f2
      go_wp2
      go_roundw
      case rel => exact ⟨k + 1, HKN.out, by go_num, O4.out, I4.out, X4.out⟩
      case measure => have := HKN.out; simp [intOf]; omega
    · obtain rfl : k = N := by omega
      have t0 : decide ((k : Int) < (k : Int)) = false := decide_eq_false (by omega)
      have HTA := Lib.hid (show ((nxH m a).take k).map (·, b) = (nxH m a).map (·, b) by rw [HN.out, List.take_length])
      have f1 := (K1.out.ext hE).cell
      have f2 := (K2.out.ext hE).cell
      clear hk hkN hO hI hE l0 HI HO2 HX2
      rw [HTA.out] at HO
      go_wp2_with fail
      refine (HNB.out _).mono ?_
      rintro e w5 ⟨v5, rfl, own5, x5⟩
      obtain ⟨A5, d5, rfl, -⟩ := id own5
      have HO5 := Lib.hid (own5.base (w0 := wA) HE.out.size)
      have HE5 := Lib.hid (ext_trans HE.out x5)
      have HOA := Lib.hid (HO.out.ext x5)
      obtain ⟨M, hM⟩ : ∃ M, M = (nxH n b).length := ⟨_, rfl⟩
      have HM := Lib.hid hM
      rw [← hM] at HO5 HLB ⊢
      clear own5 x5 hM f1 f2 HNB HO HE
      go_wp2_with fail
      go_loopw [5, 34] (fun v i wz => ∃ q : Nat, q ≤ M ∧ i = .int .i64 (q : Int) ∧ OwnR 26 2 wA wz v (k + q) (cellsP ((nxH m a).map (·, b) ++ ((nxH n b).take q).map (a, ·))) ∧ OwnR 3 1 wA wz (.slice A5 M d5) M (intsN (nxH n b)) ∧ Ext wA wz) (fun _ i _ => M - (intOf i).toNat)
      case atStart => exact ⟨0, Nat.zero_le _, rfl, by simpa using HOA.out, HO5.out, HE5.out⟩
      case round =>
        obtain ⟨q, hq, rfl, hO, hI, hE⟩ := hrel
        obtain ⟨vB, vd, rfl, -⟩ := id hO
        have HO := Lib.hid hO
        have HI := Lib.hid hI
        have HE := Lib.hid hE
        have l0 := HLB.out
        by_cases hqM : q < M
        · obtain ⟨t, ht⟩ : ∃ t, (nxH n b)[q]? = some t := ⟨_, List.getElem?_eq_getElem (by rw [← HM.out]; exact hqM)⟩
          obtain ⟨A3, d3, e3, kc, -, -, -⟩ := hI.cells
          injection e3 with e31 e32 e33
          subst e31
          obtain ⟨bb, oo, rfl, hc⟩ := kc q (.int .i64 (t : Int)) (by simp [intsN, ht])
          have f2 := (K2.out.ext hE).cell
          have HQM := Lib.hid hqM
          have HTK := Lib.hid (show (nxH m a).map (·, b) ++ ((nxH n b).take (q + 1)).map (a, ·) = ((nxH m a).map (·, b) ++ ((nxH n b).take q).map (a, ·)) ++ [(a, t)] by rw [List.take_add_one, ht]; simp)
          have i1 : (q : Int) < (M : Int) := by omega
          have i2 : (q : Int) ≤ 20000 := by omega
          clear ht hq hqM hO hI hE l0 kc e33
          go_wp2_with (at_builtin; refine wp_append_r (.tmp 38) (.tmp 43) rfl 103 rfl 26 2 16 (.agg #[.int .i64 0, .int .i64 0]) Try.underlying103 pairInfo rfl (by decide) (by decide) wA wr (.slice vB (k + q) vd) (k + q) _ [.int .i64 (a : Int), .int .i64 (t : Int)] rfl HO.out rfl rfl (by simp [Value.oneCell']) HE.out (by have := HQM.out; have := HLB.out; have := HLA.out; omega) ?_; intro v4 w4 own4 x4 g4)
          rw [show [Value.int .i64 (a : Int), .int .i64 (t : Int)] = [.int .i64 (((a, t) : Nat × Nat).1 : Int), .int .i64 (((a, t) : Nat × Nat).2 : Int)] from rfl, ← cellsP_add, ← HTK.out] at own4
          have O4 := Lib.hid own4
          have X4 := Lib.hid x4
          have I4 := Lib.hid (ownR_kept HI.out HO.out (by decide) g4)
          clear own4 x4 g4 hc f2
          go_wp2
          go_roundw
          case rel => exact ⟨q + 1, HQM.out, by go_num, O4.out, I4.out, X4.out⟩
          case measure => have := HQM.out; simp [intOf]; omega
        · obtain rfl : q = M := by omega
          have t1 : decide ((q : Int) < (q : Int)) = false := decide_eq_false (by omega)
          have hf := HO.out
          rw [show ((nxH n b).take q).map (a, ·) = (nxH n b).map (a, ·) by rw [HM.out, List.take_length], ← HRES.out] at hf
          have hlen : (nxP m n (a, b)).length = k + q := by rw [HRES.out, List.length_append, List.length_map, List.length_map, HN.out, HM.out]
          have hf2 : OwnR 26 2 wA wr (.slice vB (k + q) vd) (nxP m n (a, b)).length (cellsP (nxP m n (a, b))) := by rw [hlen]; exact hf
          have HF := Lib.hid (hf2.base (w0 := w) X1.out.size)
          have HX := Lib.hid (ext_trans X1.out HE.out)
          clear hq hqM hO hI hE l0 hf hf2 hlen
          go_wp2
          go_ret
          exact ⟨_, rfl, HF.out, HX.out⟩

end Go.Proofs.Ythgbdonjheengaa
