/- Walk: the law BitsSubsets. -/
import Derived.DataShut
import Derived.Test.YtpoepaiaehhloaaBitsS
namespace Go.Proofs.Ytpoepaiaehhloaa
open Go.RowKit Go.Shelf
set_option linter.unusedVariables false
attribute [local go_sem] Oper.semAt_some
theorem subsets_in (F : Fence) (n : Nat) (h5 : F.fn 5) (hro : F.round = none) (b : Int) (w : World) :
    CallsIn F n Try.prog 5 #[.int .u64 b] w fun e w' => e = .returned (.func (.func 7) #[] #[.pointer (some ⟨w.heap.size, 0, none⟩)]) ∧ w' = w.alloc (.cells #[.int .u64 b] 22) := by
  refine callsIn_of_wp Try.func5 rfl h5 ?_ hro
  simp only [Try.ntmps5, List.size_toArray, List.length_cons, List.length_nil, Nat.reduceAdd, Nat.reduceSub, Array.replicate_succ, Array.replicate_zero, List.push_toArray, List.append_toArray, List.nil_append, List.cons_append]
  gi_wp2
  go_ret
  exact ⟨rfl, rfl⟩
theorem count_513 (w : World) : Calls Try.prog 4 #[.int .u64 513] w fun e w' => e = .returned (.int .i64 2) ∧ w = w' := by
  have h := count_any 513 (by omega) w
  rw [show pop 64 513 = 2 by decide +kernel] at h
  exact h
theorem and_less {v : Nat} (hv : v < 18446744073709551616) (h0 : v ≠ 0) : bits .and .u64 (v : Int) (IntKind.u64.wrap ((v : Int) - 1)) = ((v &&& (v - 1) : Nat) : Int) := by
  rw [show IntKind.u64.wrap ((v : Int) - 1) = ((v - 1 : Nat) : Int) by rw [IntKind.wrap_u64]; omega, u64_and_nat _ _ hv (by omega)]
def cellN (wr : World) (B : Nat) : Nat := match wr.cell? ⟨B, 0, none⟩ with
  | some (.int _ z) => z.toNat
  | _ => 0
theorem cellN_box {W : World} {B v : Nat} {t : TypeId} (h : Boxed W B t (.int .u64 (v : Int))) : cellN W B = v := by
  unfold cellN
  rw [h.cell]
  simp
/-- Some step of the list fails its test. -/
def Torn (v : Nat) (pre : List U64) : Prop := ∃ p x, pre = p ++ [x] ∧ (¬ bits .andNot .u64 (x.1 : Int) (v : Int) = 0 ∨ (0 < p.length ∧ x.1 ≤ (p.getLast?).elim 0 (fun y => y.1)) ∨ 300 < p.length)
theorem and_not_none {x v : Nat} (hx : x < 18446744073709551616) (hv : v < 18446744073709551616) (h : x &&& v = x) : bits .andNot .u64 (x : Int) (v : Int) = 0 := by
  rw [u64_andNot_nat _ _ hx hv]
  have e : x &&& (18446744073709551615 - v) = 0 := by
    refine Nat.eq_of_testBit_eq fun i => ?_
    have hb : x.testBit i = (x.testBit i && v.testBit i) := by
      conv => lhs; rw [← h]
      exact Nat.testBit_and _ _ _
    have hs : (18446744073709551615 - v).testBit i = (decide (i < 64) && !(v.testBit i)) := by
      rw [show 18446744073709551615 - v = 2 ^ 64 - (v + 1) by rw [show (2 : Nat) ^ 64 = 18446744073709551616 from rfl]; omega]
      exact Nat.testBit_two_pow_sub_succ hv i
    rw [Nat.testBit_and, hs, Nat.zero_testBit]
    cases h1 : x.testBit i <;> cases h2 : v.testBit i <;> simp_all
  rw [e]
  rfl
theorem pow_le8 {n : Nat} (h : n ≤ 8) : 2 ^ n ≤ 256 := Nat.pow_le_pow_right (n := 2) (by omega) h
theorem torn_no {v : Nat} (hv : v < 18446744073709551616) (h8 : pop 64 v ≤ 8) (k : Nat) (hk : k ≤ 2 ^ pop 64 v) (h : Torn v (subsU v hv k)) : False := by
  obtain ⟨p, x, he, hc⟩ := h
  cases k with
  | zero => simp [subsU] at he
  | succ k =>
    rw [subsU_succ] at he
    have h1 := List.append_inj' he rfl
    obtain ⟨rfl, h2⟩ := h1
    obtain rfl : depU v hv k = x := by simpa using h2
    have hf := subs_facts hv k (by omega)
    have h9 := pow_le8 h8
    rcases hc with hc | ⟨hc, hd⟩ | hc
    · exact hc (and_not_none (dep_u64 hv k) hv hf.1)
    · cases k with
      | zero => simp [subsU] at hc
      | succ k =>
        rw [subsU_succ, List.getLast?_append, List.getLast?_singleton] at hd
        have := hf.2.1 k (by omega)
        simp [depU] at hd
        omega
    · rw [subsU_len] at hc
      omega
set_option maxHeartbeats 4000000 in
set_option maxRecDepth 100000 in
theorem bitsSubsets_law (b : Nat) (hb : b < 18446744073709551616) (w : World) : Calls Try.prog 3 #[.int .u64 (b : Int)] w fun e w' => e = .returned (.bool true) ∧ Below w.heap.size w w' := by
  refine (callsIn_wide (n := 3)).1 ?_
  refine callsIn_of_wp_marks Try.func3 rfl trivial ?_ rfl
  simp only [Try.ntmps3, List.size_toArray, List.length_cons, List.length_nil, Nat.reduceAdd, Nat.reduceSub, Array.replicate_succ, Array.replicate_zero, List.push_toArray, List.append_toArray, List.nil_append, List.cons_append]
  gi_wp2
  refine ⟨trivial, (callsIn_wide.2 (count_513 _)).mono ?_⟩
  rintro e w' ⟨rfl, rfl⟩
  gi_wp2
  have k0 : Boxed ((w.alloc (.cells #[.int .u64 (b : Int)] 22)).alloc (.cells #[.bool false] 4)) w.heap.size 22 (.int .u64 (b : Int)) := (Boxed.new w _ _).alloc _
  have k1 : Boxed ((w.alloc (.cells #[.int .u64 (b : Int)] 22)).alloc (.cells #[.bool false] 4)) (w.heap.size + 1) 4 (.bool false) := by
    have h := Boxed.new (w.alloc (.cells #[.int .u64 (b : Int)] 22)) 4 (.bool false)
    rwa [World.size_alloc] at h
  have kb : Below w.heap.size w ((w.alloc (.cells #[.int .u64 (b : Int)] 22)).alloc (.cells #[.bool false] 4)) := ((Below.refl _ w).alloc (Nat.le_refl _) _).alloc (by simp) _
  have hsz : ((w.alloc (.cells #[.int .u64 (b : Int)] 22)).alloc (.cells #[.bool false] 4)).heap.size = w.heap.size + 2 := by simp
  generalize (w.alloc (.cells #[.int .u64 (b : Int)] 22)).alloc (.cells #[.bool false] 4) = w2 at *
  have HSZ := Lib.hid hsz
  clear hsz
  gi_loopw [] (fun wr => ∃ v : Nat, v < 18446744073709551616 ∧ Boxed wr w.heap.size 22 (.int .u64 (v : Int)) ∧ Boxed wr (w.heap.size + 1) 4 (.bool false) ∧ Below w.heap.size w wr ∧ wr.heap.size = w.heap.size + 2) (fun wr => cellN wr w.heap.size)
  case atStart => exact ⟨b, hb, k0, k1, kb, HSZ.out⟩
  case round =>
    obtain ⟨v, hv, q0, q1, qb, qs⟩ := hrel
    have Q0 := Lib.hid q0
    have Q1 := Lib.hid q1
    have QB := Lib.hid qb
    have QS := Lib.hid qs
    have HV := Lib.hid hv
    have HCV := Lib.hid (fun W => count_any v hv W)
    have c0 := q0.cell
    have z0 := q0.frozen
    have c1 := q1.cell
    have z1 := q1.frozen
    have hm0 := Lib.hid (cellN_box q0)
    clear q0 q1 qb qs hv
    gi_wp2
    refine ⟨trivial, (callsIn_wide.2 (HCV.out _)).mono ?_⟩
    rintro e w' ⟨rfl, rfl⟩
    by_cases h8 : 8 < pop 64 v
    · have t0 : decide ((8 : Int) < ((pop 64 v : Nat) : Int)) = true := decide_eq_true (by omega)
      have hv0 : v ≠ 0 := fun e => by rw [e] at h8; exact absurd h8 (by decide +kernel)
      have HE := and_less HV.out hv0
      have hle : v &&& (v - 1) ≤ v - 1 := Nat.and_le_right
      have HLE : Hid (v &&& (v - 1) < v) := Lib.hid (by omega)
      have hv3 : v &&& (v - 1) < 18446744073709551616 := by have := HV.out; omega
      have HV3 := Lib.hid hv3
      clear h8 hv0 hle hv3
      generalize hvn : v &&& (v - 1) = v' at *
      clear hvn
      gi_wp2
      go_roundw
      case rel => exact ⟨v', HV3.out, Q0.out.set _, Q1.out.other (by omega) _, QB.out.setCell (p := ⟨w.heap.size, 0, none⟩) (Nat.le_refl _) _, by rw [World.size_setCell]; exact QS.out⟩
      case measure => rw [cellN_box (Q0.out.set (.int .u64 (v' : Int))), hm0.out]; exact HLE.out
    · have t0 : decide ((8 : Int) < ((pop 64 v : Nat) : Int)) = false := decide_eq_false (by omega)
      have H8 := Lib.hid h8
      clear h8
      simp only []
      iterate 30 gi_step
      have qs := QS.out
      have b0 := (Q0.out.alloc (.cells #[.int .i64 0] 3)).alloc (.cells #[.int .u64 0] 22)
      have b1 := (Q1.out.alloc (.cells #[.int .i64 0] 3)).alloc (.cells #[.int .u64 0] 22)
      have b2 := (Boxed.new wr 3 (.int .i64 0)).alloc (.cells #[.int .u64 0] 22)
      have b3 := Boxed.new (wr.alloc (.cells #[.int .i64 0] 3)) 22 (.int .u64 0)
      have bw := (QB.out.alloc (by omega) (.cells #[.int .i64 0] 3)).alloc (by simp; omega) (.cells #[.int .u64 0] 22)
      have bs : ((wr.alloc (.cells #[.int .i64 0] 3)).alloc (.cells #[.int .u64 0] 22)).heap.size = w.heap.size + 4 := by simp [qs]
      rw [World.size_alloc] at b3
      rw [qs] at b2 b3
      rw [qs]
      simp only [Nat.add_assoc, Nat.reduceAdd] at b3 ⊢
      have hwr := Q0.out
      clear c0 z0 c1
      generalize (wr.alloc (.cells #[.int .i64 0] 3)).alloc (.cells #[.int .u64 0] 22) = w5 at *
      have B0 := Lib.hid b0
      have B1 := Lib.hid b1
      have B2 := Lib.hid b2
      have B3 := Lib.hid b3
      have BW := Lib.hid bw
      have BS := Lib.hid bs
      have c0 := b0.cell
      have z0 := b0.frozen
      clear b0 b1 b2 b3 bw bs hwr qs t0
      gi_wp2
      refine ⟨trivial, (subsets_in Fence.wide 2 trivial rfl _ _).mono ?_⟩
      rintro e w' ⟨rfl, rfl⟩
      have d0 := B0.out.alloc (.cells #[.int .u64 (v : Int)] 22)
      have d1 := B1.out.alloc (.cells #[.int .u64 (v : Int)] 22)
      have d2 := B2.out.alloc (.cells #[.int .u64 (v : Int)] 22)
      have d3 := B3.out.alloc (.cells #[.int .u64 (v : Int)] 22)
      have d4 := Boxed.new w5 22 (.int .u64 (v : Int))
      have dw := BW.out.alloc (by rw [BS.out]; omega) (.cells #[.int .u64 (v : Int)] 22)
      have ds : (w5.alloc (.cells #[.int .u64 (v : Int)] 22)).heap.size = w.heap.size + 5 := by rw [World.size_alloc, BS.out]
      rw [BS.out] at d4 ⊢
      clear c0 z0
      generalize w5.alloc (.cells #[.int .u64 (v : Int)] 22) = w6 at *
      gi_wp2
      refine wpIn_rangeFunc_ownF rfl (by omega) (gf := 7) (lb := #[.pointer (some ⟨w.heap.size + 4, 0, none⟩)]) rfl trivial (enters_of Try.func7 (by kernel_rfl) rfl)
        (subs_stops Fence.wide 2 trivial rfl (by omega) (w.heap.size + 4) v HV.out _ d4) boxK_t boxK_b (Below.refl _ _) (fun _ => rfl)
        (fun pre W => (Boxed W w.heap.size 22 (.int .u64 (v : Int)) ∧ Boxed W (w.heap.size + 1) 4 (.bool false) ∧ Boxed W (w.heap.size + 2) 3 (.int .i64 (pre.length : Int)) ∧ Boxed W (w.heap.size + 3) 22 (.int .u64 (((pre.getLast?).elim 0 (fun x => x.1) : Nat) : Int))) ∧ Below w.heap.size w W)
        (fun c pre W => (c = .ret ∧ Torn v pre) ∧ Below w.heap.size w W) ?own ?ownx ⟨⟨d0, d1, d2, d3⟩, dw⟩
        (fun x => { tmps := #[.int .u64 (b : Int), .pointer (some ⟨w.heap.size, 0, none⟩), .pointer (some ⟨w.heap.size + 1, 0, none⟩), .pointer (some ⟨w.heap.size + 2, 0, none⟩), .pointer (some ⟨w.heap.size + 3, 0, none⟩), .int .u64 (x.1 : Int), .int .i64 2, .bool false, .int .u64 (v : Int), .int .i64 ((pop 64 v : Nat) : Int), .bool false, u11, u12, u13, u14, .int .u64 (v : Int), .func (.func 7) #[] #[.pointer (some ⟨w.heap.size + 4, 0, none⟩)], .int .u64 (x.1 : Int), undef, undef, undef, undef, undef, undef, undef, undef, undef, undef, undef, undef, undef, undef, undef, undef, undef, undef, undef, undef, undef, undef, undef, undef, undef], defers := [] }) ?assign ?body ?done ?stop
      case ownx => exact fun c => OwnFrom.and (Own.from (fun s A B row hs hg hr => hs) _) (ownFrom_below (Nat.le_refl _) (by omega))
      case assign =>
        intro l x W K hK
        gi_wp2
        exact hK
      case stop =>
        rintro D c pre W hD ⟨k, hk, rfl⟩ ⟨⟨_, ht⟩, _⟩ hK
        exact (torn_no HV.out (by have := H8.out; omega) k hk ht).elim
      case own =>
        refine OwnFrom.and (fun s W W' row hs hg hr => ?_) (ownFrom_below (Nat.le_refl _) (by omega))
        have ne : ∀ B, B < w.heap.size + 5 → some B ≠ row := fun B hB e => by have := (hr B e.symm).1; omega
        exact ⟨hs.1.kept hg (ne _ (by omega)), hs.2.1.kept hg (ne _ (by omega)), hs.2.2.1.kept hg (ne _ (by omega)), hs.2.2.2.kept hg (ne _ (by omega))⟩
      case body =>
        rintro l pre x W ⟨⟨c0, c1, c2, c3⟩, hB⟩ _
        have e0 := c0.cell
        have e1 := c1.cell
        have e2 := c2.cell
        have e3 := c3.cell
        have z0 := c0.frozen
        have z1 := c1.frozen
        have z2 := c2.frozen
        have z3 := c3.frozen
        have C0 := Lib.hid c0
        have C1 := Lib.hid c1
        have C2 := Lib.hid c2
        have C3 := Lib.hid c3
        have CB := Lib.hid hB
        clear c0 c1 c2 c3 hB
        have hn : ((decide ((0 : Int) < (pre.length : Int)) = true ∧ decide (0 < pre.length) = true) ∧ 0 < pre.length) ∨ ((decide ((0 : Int) < (pre.length : Int)) = false ∧ decide (0 < pre.length) = false) ∧ pre.length = 0) := by
          by_cases h : 0 < pre.length
          · exact .inl ⟨⟨decide_eq_true (by omega), decide_eq_true h⟩, h⟩
          · exact .inr ⟨⟨decide_eq_false (by omega), decide_eq_false h⟩, by omega⟩
        have hlast : ((decide ((x.1 : Int) ≤ (((pre.getLast?).elim 0 (fun x => x.1) : Nat) : Int)) = true ∧ decide (x.1 ≤ (pre.getLast?).elim 0 (fun x => x.1)) = true) ∧ x.1 ≤ (pre.getLast?).elim 0 (fun x => x.1)) ∨ (decide ((x.1 : Int) ≤ (((pre.getLast?).elim 0 (fun x => x.1) : Nat) : Int)) = false ∧ decide (x.1 ≤ (pre.getLast?).elim 0 (fun x => x.1)) = false) := by
          by_cases h : x.1 ≤ (pre.getLast?).elim 0 (fun x => x.1)
          · exact .inl ⟨⟨decide_eq_true (by omega), decide_eq_true h⟩, h⟩
          · exact .inr ⟨decide_eq_false (by omega), decide_eq_false h⟩
        have h300 : ((decide ((300 : Int) < (pre.length : Int)) = true ∧ decide (300 < pre.length) = true) ∧ 300 < pre.length) ∨ ((decide ((300 : Int) < (pre.length : Int)) = false ∧ decide (300 < pre.length) = false) ∧ pre.length ≤ 300) := by
          by_cases h : 300 < pre.length
          · exact .inl ⟨⟨decide_eq_true (by omega), decide_eq_true h⟩, h⟩
          · exact .inr ⟨⟨decide_eq_false (by omega), decide_eq_false h⟩, by omega⟩
        have hgo : ∀ h : pre.length ≤ 300, IntKind.i64.wrap ((pre.length : Int) + 1) = (((pre ++ [x]).length : Nat) : Int) := fun h => by
          rw [List.length_append, List.length_singleton, IntKind.wrap_i64]
          omega
        have hx : x.1 = ((pre ++ [x]).getLast?).elim 0 (fun x => x.1) := by simp
        have HX := Lib.hid hx
        have HT : Hid (∀ _ : ¬ bits .andNot .u64 (x.1 : Int) (v : Int) = 0 ∨ (0 < pre.length ∧ x.1 ≤ (pre.getLast?).elim 0 (fun y => y.1)) ∨ 300 < pre.length, Torn v (pre ++ [x])) := Lib.hid (fun h => ⟨pre, x, rfl, h⟩)
        have HEND : Hid (∀ h : Torn v (pre ++ [x]), KeepsOthers W (W.setCell ⟨w.heap.size + 1, 0, none⟩ (.bool false)) ∧ (Code.ret = Code.ret ∧ Torn v (pre ++ [x])) ∧ Below w.heap.size w (W.setCell ⟨w.heap.size + 1, 0, none⟩ (.bool false))) :=
          Lib.hid (fun h => ⟨KeepsOthers.setCell _ _ _, ⟨rfl, h⟩, CB.out.setCell (p := ⟨w.heap.size + 1, 0, none⟩) (Nat.le_succ _) _⟩)
        have HGO : Hid (KeepsOthers W ((W.setCell ⟨w.heap.size + 2, 0, none⟩ (.int .i64 ((pre.length : Int) + 1))).setCell ⟨w.heap.size + 3, 0, none⟩ (.int .u64 (x.1 : Int))) ∧ BoxK (w.heap.size + 4) 22 (.int .u64 (v : Int)) W ((W.setCell ⟨w.heap.size + 2, 0, none⟩ (.int .i64 ((pre.length : Int) + 1))).setCell ⟨w.heap.size + 3, 0, none⟩ (.int .u64 (x.1 : Int))) ∧
            (fun (pre : List U64) (W : World) => (Boxed W w.heap.size 22 (.int .u64 (v : Int)) ∧ Boxed W (w.heap.size + 1) 4 (.bool false) ∧ Boxed W (w.heap.size + 2) 3 (.int .i64 (pre.length : Int)) ∧ Boxed W (w.heap.size + 3) 22 (.int .u64 (((pre.getLast?).elim 0 (fun x => x.1) : Nat) : Int))) ∧ Below w.heap.size w W) (pre ++ [x]) ((W.setCell ⟨w.heap.size + 2, 0, none⟩ (.int .i64 ((pre.length : Int) + 1))).setCell ⟨w.heap.size + 3, 0, none⟩ (.int .u64 (x.1 : Int)))) := by
          refine Lib.hid ⟨(KeepsOthers.setCell _ _ _).trans (KeepsOthers.setCell _ _ _), boxK_t (boxK_set _ (by omega) _) (boxK_set _ (by omega) _), ⟨?_, ?_, ?_, ?_⟩, ?_⟩
          · exact (C0.out.other (by omega) _).other (by omega) _
          · exact (C1.out.other (by omega) _).other (by omega) _
          · have h := (C2.out.set (.int .i64 ((pre.length : Int) + 1))).other (B' := w.heap.size + 3) (by omega) (.int .u64 (x.1 : Int))
            rw [show (((pre ++ [x]).length : Nat) : Int) = (pre.length : Int) + 1 by simp]
            exact h
          · have h := (C3.out.other (B' := w.heap.size + 2) (by omega) (.int .i64 ((pre.length : Int) + 1))).set (.int .u64 (x.1 : Int))
            rw [HX.out] at h
            simpa using h
          · exact (CB.out.setCell (p := ⟨w.heap.size + 2, 0, none⟩) (by simp) _).setCell (p := ⟨w.heap.size + 3, 0, none⟩) (by simp) _
        clear hx
        by_cases hA : bits .andNot .u64 (x.1 : Int) (v : Int) = 0
        · have t0 : (bits .andNot .u64 (x.1 : Int) (v : Int) != 0) = false := by simpa using hA
          clear hA
          rcases hn with ⟨⟨t1, s1⟩, hn⟩ | ⟨⟨t1, s1⟩, hn⟩
          · rcases hlast with ⟨⟨t2, s2⟩, hlast⟩ | ⟨t2, s2⟩
            · have ht := HEND.out (HT.out (.inr (.inl ⟨hn, hlast⟩)))
              have HF := Lib.hid ht
              clear h300 hgo hn hlast ht
              gi_wp2
              exact ⟨HF.out.1, ⟨rfl, HF.out.2.1.2⟩, HF.out.2.2⟩
            · rcases h300 with ⟨⟨t3, s3⟩, h300⟩ | ⟨⟨t3, s3⟩, h300⟩
              · have ht := HEND.out (HT.out (.inr (.inr h300)))
                have HF := Lib.hid ht
                clear hgo hn ht h300
                gi_wp2
                exact ⟨HF.out.1, ⟨rfl, HF.out.2.1.2⟩, HF.out.2.2⟩
              · have hgo := hgo h300
                clear hn h300
                gi_wp2
                exact HGO.out
          · have hn0 : pre = [] := List.eq_nil_of_length_eq_zero hn
            have t3 : decide ((300 : Int) < (pre.length : Int)) = false := decide_eq_false (by omega)
            have s3 : decide (300 < pre.length) = false := decide_eq_false (by omega)
            have hgo := hgo (by omega)
            clear hn0 hn hlast h300
            gi_wp2
            exact HGO.out
        · have t0 : (bits .andNot .u64 (x.1 : Int) (v : Int) != 0) = true := by simpa using hA
          have ht := HEND.out (HT.out (.inl hA))
          have HF := Lib.hid ht
          clear hA hn hlast h300 hgo ht
          gi_wp2
          exact ⟨HF.out.1, ⟨rfl, HF.out.2.1.2⟩, HF.out.2.2⟩
      case done =>
        intro D ys W hD hys h hK
        have hlen : ys.length = 2 ^ pop 64 v := by
          have h1 : ys = subsU v HV.out (2 ^ pop 64 v) := hys
          rw [h1]
          exact subsU_len _ _ _
        obtain ⟨⟨c0, c1, c2, c3⟩, hB⟩ := h
        have e0 := c0.cell
        have e2 := c2.cell
        have z1 := c1.frozen
        have e1 := c1.cell
        rw [hlen] at e2
        have hp8 : pop 64 v ≤ 8 := by have := H8.out; omega
        have C1 := Lib.hid c1
        have CB := Lib.hid hB
        have HKK := Lib.hid hK
        have HDD := Lib.hid hD
        have HP8 := Lib.hid hp8
        have hsh : IntKind.i64.wrap (2 ^ min (pop 64 v) 64) = 2 ^ pop 64 v := by
          rw [Nat.min_eq_left (by omega)]
          generalize pop 64 v = m at hp8
          have : m = 0 ∨ m = 1 ∨ m = 2 ∨ m = 3 ∨ m = 4 ∨ m = 5 ∨ m = 6 ∨ m = 7 ∨ m = 8 := by omega
          rcases this with rfl | rfl | rfl | rfl | rfl | rfl | rfl | rfl | rfl <;> rfl
        clear c0 c1 c2 c3 hB hK hp8 hD hys hlen
        simp only []
        iterate 3 gi_step
        first
          | gi_region_with (refine ⟨trivial, (callsIn_wide.2 (HCV.out _)).mono ?_⟩; rintro e w' ⟨rfl, rfl⟩)
          | fail
        all_goals gi_wp2
        all_goals
          have hK' : ((W.setCell ⟨w.heap.size + 1, 0, none⟩ (.bool true)).drew).heap[D]? = some (.deferred (some [])) := (KeepsOthers.setCell W ⟨w.heap.size + 1, 0, none⟩ (.bool true)).same D _ HKK.out rfl
          have q1 : ((W.setCell ⟨w.heap.size + 1, 0, none⟩ (.bool true)).drew).cell? ⟨w.heap.size + 1, 0, none⟩ = some (.bool true) := (C1.out.set (.bool true)).cell
          have qb : Below w.heap.size w ((W.setCell ⟨w.heap.size + 1, 0, none⟩ (.bool true)).drew) := by
            have h := CB.out.setCell (p := ⟨w.heap.size + 1, 0, none⟩) (Nat.le_succ _) (.bool true)
            exact ⟨h.os, h.tape, h.output, h.size, h.block⟩
          have hD := HDD.out
          refine ⟨by simp, .inl ⟨_, _, rfl, run_takeDeferred hK', ?_⟩⟩
          have hc5 := cell_kept q1 (grownBy_putObj' _ D (.deferred none)) (fun r e => by cases e; exact ⟨_, hK', rfl⟩)
          refine ⟨.bool true, ?_, rfl, qb.trans (belowK_b (w := w) (Nat.le_refl _) _ D _ _ (by omega) hK' rfl rfl)⟩
          simp [results, Try.f3, go_sem, hc5]
theorem bitsSubsets_walk (a : Int) (w : World) (hf : (Lit.int .u64 a).wf = true) : Calls Try.prog 3 #[.int .u64 a] w fun e w' => e = .returned (.bool true) ∧ Below w.heap.size w w' := by
  have h := (Lit.wf_int_iff _ _).1 hf
  obtain ⟨n, rfl⟩ := Int.eq_ofNat_of_zero_le (a := a) h.1
  exact bitsSubsets_law n (by have h1 : (n : Int) ≤ 18446744073709551615 := h.2; omega) w
end Go.Proofs.Ytpoepaiaehhloaa
