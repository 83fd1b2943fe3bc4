/- Walk: bits.Shift. -/
import Derived.Test.YtpoepaiaehhloaaDoorAllS
import Derived.Test.YtpoepaiaehhloaaDoorRound
namespace Go.Proofs.YtpoepaiaehhloaaDoor
open Go.RowKit Go.Shelf
set_option linter.unusedVariables false
attribute [local go_sem] Oper.semAt_some
/-- Where a square goes lies on the board. -/
def okSq (dx dy : Int) (s : Nat) : Prop := 0 ≤ ((s % 8 : Nat) : Int) + dx ∧ ((s % 8 : Nat) : Int) + dx < 8 ∧ 0 ≤ ((s / 8 : Nat) : Int) + dy ∧ ((s / 8 : Nat) : Int) + dy < 8
instance (dx dy : Int) (s : Nat) : Decidable (okSq dx dy s) := by unfold okSq; infer_instance
/-- Where a square goes. -/
def toSq (dx dy : Int) (s : Nat) : Nat := (8 * (((s / 8 : Nat) : Int) + dy) + (((s % 8 : Nat) : Int) + dx)).toNat
def stepSq (dx dy : Int) (out s : Nat) : Nat := if okSq dx dy s then out ||| 2 ^ toSq dx dy s else out
/-- What Shift answers. -/
def shiftM (b : Nat) (dx dy : Int) : Nat := (sqs b).foldl (stepSq dx dy) 0
theorem toSq_lt {dx dy : Int} {s : Nat} (h : okSq dx dy s) : toSq dx dy s < 64 := by
  obtain ⟨h1, h2, h3, h4⟩ := h
  unfold toSq
  omega
theorem stepSq_lt {dx dy : Int} {out s : Nat} (h : out < 18446744073709551616) : stepSq dx dy out s < 18446744073709551616 := by
  unfold stepSq
  split
  · rename_i hk
    have e : (2 : Nat) ^ 64 = 18446744073709551616 := rfl
    have := Nat.or_lt_two_pow (n := 64) (x := out) (y := 2 ^ toSq dx dy s) (by omega) (Nat.pow_lt_pow_right (by omega) (toSq_lt hk))
    omega
  · exact h
theorem foldSq_lt (dx dy : Int) : ∀ (l : List Nat) (out : Nat), out < 18446744073709551616 → l.foldl (stepSq dx dy) out < 18446744073709551616
  | [], out, h => h
  | s :: l, out, h => foldSq_lt dx dy l _ (stepSq_lt h)
theorem shiftM_lt (b : Nat) (dx dy : Int) : shiftM b dx dy < 18446744073709551616 := foldSq_lt dx dy _ _ (by omega)
def foldS (dx dy : Int) (l : List S64) : Nat := (l.map (fun s => s.1)).foldl (stepSq dx dy) 0
theorem foldS_add (dx dy : Int) (l : List S64) (x : S64) : foldS dx dy (l ++ [x]) = stepSq dx dy (foldS dx dy l) x.1 := by
  unfold foldS
  rw [List.map_append, List.foldl_append]
  rfl
theorem foldS_all (b : Nat) (dx dy : Int) : foldS dx dy (sq64 b) = shiftM b dx dy := by
  unfold foldS shiftM
  rw [sq64_val]
theorem step_off {dx dy : Int} (h : dx < -7 ∨ 7 < dx ∨ dy < -7 ∨ 7 < dy) : ∀ (l : List Nat), (∀ s ∈ l, s < 64) → l.foldl (stepSq dx dy) 0 = 0
  | [], _ => rfl
  | s :: l, hl => by
    have h1 : s < 64 := hl s (by simp)
    have h2 : stepSq dx dy 0 s = 0 := if_neg (fun ⟨a, b, c, d⟩ => by omega)
    rw [List.foldl_cons, h2]
    exact step_off h l (fun t ht => hl t (by simp [ht]))
theorem shiftM_off {b : Nat} {dx dy : Int} (h : dx < -7 ∨ 7 < dx ∨ dy < -7 ∨ 7 < dy) : shiftM b dx dy = 0 := step_off h _ (fun s hs => (mem_sqs.1 hs).1)
theorem foldS_lt (dx dy : Int) (l : List S64) : foldS dx dy l < 18446744073709551616 := foldSq_lt dx dy _ _ (by omega)
theorem or_u64 {a t : Nat} (ha : a < 18446744073709551616) (ht : t < 64) : bits .or .u64 (a : Int) (IntKind.u64.wrap (1 * 2 ^ t)) = ((a ||| 2 ^ t : Nat) : Int) := by
  have e64 : (2 : Nat) ^ 64 = 18446744073709551616 := rfl
  have h := Nat.pow_lt_pow_right (a := 2) (by omega) ht
  have e : IntKind.u64.wrap (1 * 2 ^ t) = ((2 ^ t : Nat) : Int) := by
    rw [Int.one_mul, show (2 : Int) ^ t = ((2 ^ t : Nat) : Int) by simp, IntKind.wrap_u64]
    rw [e64] at h
    generalize (2 : Nat) ^ t = p at *
    omega
  rw [e, u64_or_nat _ _ ha (by omega)]
theorem shift_off (b : Nat) (dx dy : Int) (hoff : dx < -7 ∨ 7 < dx ∨ dy < -7 ∨ 7 < dy) (w : World) : Calls Tryd.prog 12 #[.int .u64 (b : Int), .int .i64 dx, .int .i64 dy] w fun e w' => e = .returned (.int .u64 ((shiftM b dx dy : Nat) : Int)) ∧ Below w.heap.size w w' := by
  rw [shiftM_off hoff]
  have hbel : Below w.heap.size w ((w.alloc (.cells #[.int .i64 dx] 3)).alloc (.cells #[.int .i64 dy] 3)) := ((Below.refl _ w).alloc (Nat.le_refl _) _).alloc (by simp) _
  have HBEL := Lib.hid hbel
  have HO := Lib.hid hoff
  clear hbel hoff
  go_enter Tryd.func12, Tryd.ntmps12
  by_cases h1 : dx < -7
  · have t1 : decide (dx < -7) = true := decide_eq_true h1
    clear h1 HO
    go_wp2
    go_ret
    exact ⟨rfl, HBEL.out⟩
  by_cases h2 : 7 < dx
  · have t1 : decide (dx < -7) = false := decide_eq_false h1
    have t2 : decide (7 < dx) = true := decide_eq_true h2
    clear h1 h2 HO
    go_wp2
    go_ret
    exact ⟨rfl, HBEL.out⟩
  by_cases h3 : dy < -7
  · have t1 : decide (dx < -7) = false := decide_eq_false h1
    have t2 : decide (7 < dx) = false := decide_eq_false h2
    have t3 : decide (dy < -7) = true := decide_eq_true h3
    clear h1 h2 h3 HO
    go_wp2
    go_ret
    exact ⟨rfl, HBEL.out⟩
  by_cases h4 : 7 < dy
  · have t1 : decide (dx < -7) = false := decide_eq_false h1
    have t2 : decide (7 < dx) = false := decide_eq_false h2
    have t3 : decide (dy < -7) = false := decide_eq_false h3
    have t4 : decide (7 < dy) = true := decide_eq_true h4
    clear h1 h2 h3 h4 HO
    go_wp2
    go_ret
    exact ⟨rfl, HBEL.out⟩
  exact absurd HO.out (by omega)
theorem keep_drew {W W' : World} (h : KeepsOthers W W') : KeepsOthers W W'.drew := ⟨h.size, h.same⟩
theorem below_drew {n : Nat} {w W : World} (h : Below n w W) : Below n w W.drew := ⟨h.os, h.tape, h.output, h.size, h.block⟩
set_option maxHeartbeats 4000000 in
set_option maxRecDepth 100000 in
theorem shift_in (b : Nat) (hb : b < 18446744073709551616) (dx dy : Int) (w : World) (hT : Tab w) (h1 : ¬ dx < -7) (h2 : ¬ 7 < dx) (h3 : ¬ dy < -7) (h4 : ¬ 7 < dy) : Calls Tryd.prog 12 #[.int .u64 (b : Int), .int .i64 dx, .int .i64 dy] w fun e w' => e = .returned (.int .u64 ((shiftM b dx dy : Nat) : Int)) ∧ Below w.heap.size w w' := by
  refine (callsIn_wide (n := 3)).1 ?_
  refine callsIn_of_wp_marks Tryd.func12 rfl trivial ?_ rfl
  simp only [Tryd.ntmps12, List.size_toArray, List.length_cons, List.length_nil, Nat.reduceAdd, Nat.reduceSub, Array.replicate_succ, Array.replicate_zero, List.push_toArray, List.append_toArray, List.nil_append, List.cons_append]
  have HB := Lib.hid hb
  have HT := Lib.hid hT
  clear hb hT
  have t1 : decide (dx < -7) = false := decide_eq_false h1
  have t2 : decide (7 < dx) = false := decide_eq_false h2
  have t3 : decide (dy < -7) = false := decide_eq_false h3
  have t4 : decide (7 < dy) = false := decide_eq_false h4
  have HR : Hid (-7 ≤ dx ∧ dx ≤ 7 ∧ -7 ≤ dy ∧ dy ≤ 7) := Lib.hid ⟨by omega, by omega, by omega, by omega⟩
  clear h1 h2 h3 h4
  gi_wp2
  refine ⟨trivial, (all_in _ _ _).mono ?_⟩
  rintro e w' ⟨rfl, rfl⟩
  have k0 := ((Boxed.new w 3 (.int .i64 dx)).alloc (.cells #[.int .i64 dy] 3)).alloc (.cells #[.int .u64 0] 22)
  have k1 := (Boxed.new (w.alloc (.cells #[.int .i64 dx] 3)) 3 (.int .i64 dy)).alloc (.cells #[.int .u64 0] 22)
  have k2 := Boxed.new ((w.alloc (.cells #[.int .i64 dx] 3)).alloc (.cells #[.int .i64 dy] 3)) 22 (.int .u64 0)
  have kb : Below w.heap.size w (((w.alloc (.cells #[.int .i64 dx] 3)).alloc (.cells #[.int .i64 dy] 3)).alloc (.cells #[.int .u64 0] 22)) := (((Below.refl _ w).alloc (Nat.le_refl _) _).alloc (by simp) _).alloc (by simp; omega) _
  have hsz : (((w.alloc (.cells #[.int .i64 dx] 3)).alloc (.cells #[.int .i64 dy] 3)).alloc (.cells #[.int .u64 0] 22)).heap.size = w.heap.size + 3 := by simp
  simp only [World.size_alloc, Nat.add_assoc, Nat.reduceAdd] at k1 k2 ⊢
  generalize ((w.alloc (.cells #[.int .i64 dx] 3)).alloc (.cells #[.int .i64 dy] 3)).alloc (.cells #[.int .u64 0] 22) = w5 at *
  have d0 := k0.alloc (.cells #[.int .u64 (b : Int)] 22)
  have d1 := k1.alloc (.cells #[.int .u64 (b : Int)] 22)
  have d2 := k2.alloc (.cells #[.int .u64 (b : Int)] 22)
  have d3 := Boxed.new w5 22 (.int .u64 (b : Int))
  have dw := kb.alloc (by rw [hsz]; omega) (.cells #[.int .u64 (b : Int)] 22)
  have ds : (w5.alloc (.cells #[.int .u64 (b : Int)] 22)).heap.size = w.heap.size + 4 := by rw [World.size_alloc, hsz]
  rw [hsz] at d3
  clear k0 k1 k2 kb hsz
  generalize w5.alloc (.cells #[.int .u64 (b : Int)] 22) = w6 at *
  have dT : Tab w6 := tab_below HT.out HT.out.1 dw
  have D0 := Lib.hid d0
  have D1 := Lib.hid d1
  have D2 := Lib.hid d2
  have D3 := Lib.hid d3
  have DW := Lib.hid dw
  have DS := Lib.hid ds
  have DT := Lib.hid dT
  clear d0 d1 d2 d3 dw ds dT
  gi_wp2
  have hds := DS.out
  refine wpIn_rangeFunc_ownF rfl (by omega) (gf := 19) (lb := #[.pointer (some ⟨w.heap.size + 3, 0, none⟩)]) rfl trivial (enters_of Tryd.func19 (by kernel_rfl) rfl)
    (all_stops 2 (by omega) (w.heap.size + 3) b HB.out _ DT.out D3.out) tabK_t (tabK_b DT.out.1) (Below.refl _ _) (fun _ => rfl)
    (fun pre W => (Boxed W w.heap.size 3 (.int .i64 dx) ∧ Boxed W (w.heap.size + 1) 3 (.int .i64 dy) ∧ Boxed W (w.heap.size + 2) 22 (.int .u64 ((foldS dx dy pre : Nat) : Int))) ∧ Below w.heap.size w W)
    (fun c pre W => False) ?own ?ownx ⟨⟨D0.out, D1.out, D2.out⟩, DW.out⟩
    (fun x => { tmps := #[.int .u64 (b : Int), .int .i64 dx, .int .i64 dy, undef, .pointer (some ⟨w.heap.size, 0, none⟩), .pointer (some ⟨w.heap.size + 1, 0, none⟩), .int .u64 0, .pointer (some ⟨w.heap.size + 2, 0, none⟩), .int .i64 (x.1 : Int), undef, undef, .int .i64 dx, .bool false, .bool false, .int .i64 dx, .bool false, .bool false, .bool false, .int .i64 dy, .bool false, .bool false, .bool false, .int .i64 dy, .bool false, .bool false, .int .u64 (b : Int), .func (.func 19) #[] #[.pointer (some ⟨w.heap.size + 3, 0, none⟩)], .int .i64 (x.1 : Int), undef, undef, undef, undef, undef, undef, undef, undef, undef, undef, undef, undef, undef, undef, undef, undef, undef, undef, undef, undef, undef, undef, undef, undef, undef, undef, undef, undef, undef, undef], defers := [] }) ?assign ?body ?done ?stop
  case ownx => exact fun c s W W' row h _ _ => h
  case assign =>
    intro l x W K hK
    gi_wp2
    exact hK
  case stop => exact fun D c pre W hD hpre h hK => (show False from h).elim
  case own =>
    refine OwnFrom.and (fun s W W' row hs hg hr => ?_) (ownFrom_below (Nat.le_refl _) (by omega))
    have ne : ∀ B, B < w.heap.size + 4 → some B ≠ row := fun B hB e => by have := (hr B e.symm).1; omega
    exact ⟨hs.1.kept hg (ne _ (by omega)), hs.2.1.kept hg (ne _ (by omega)), hs.2.2.kept hg (ne _ (by omega))⟩
  case body =>
    rintro l pre ⟨s, hs⟩ W ⟨⟨c0, c1, c2⟩, hB⟩ _
    have hft := foldS_lt dx dy pre
    have hadd := foldS_add dx dy pre ⟨s, hs⟩
    have e0 := c0.cell
    have e1 := c1.cell
    have e2 := c2.cell
    have z2 := c2.frozen
    have C0 := Lib.hid c0
    have C1 := Lib.hid c1
    have C2 := Lib.hid c2
    have CB := Lib.hid hB
    clear c0 c1 c2 hB
    have HS := Lib.hid hs
    have no : ∀ _ : ¬ okSq dx dy s, foldS dx dy (pre ++ [⟨s, hs⟩]) = foldS dx dy pre := fun h => by
      rw [hadd]
      exact if_neg h
    have yes : ∀ _ : okSq dx dy s, bits .or .u64 ((foldS dx dy pre : Nat) : Int) (IntKind.u64.wrap (2 ^ min (toSq dx dy s) 64)) = ((foldS dx dy (pre ++ [⟨s, hs⟩]) : Nat) : Int) := fun h => by
      have h64 := toSq_lt h
      have h1 := or_u64 hft h64
      rw [Int.one_mul] at h1
      rw [hadd, Nat.min_eq_left (by omega), h1]
      exact congrArg _ (if_pos h).symm
    have hX0 : IntKind.i64.wrap ((s : Int).tmod 8 + dx) = ((s % 8 : Nat) : Int) + dx := by
      have := HR.out
      rw [Int.tmod_eq_emod_of_nonneg (by omega), IntKind.wrap_i64]
      omega
    have hY0 : IntKind.i64.wrap (IntKind.i64.wrap ((s : Int) / 8) + dy) = ((s / 8 : Nat) : Int) + dy := by
      have := HR.out
      have e1 : IntKind.i64.wrap ((s : Int) / 8) = ((s / 8 : Nat) : Int) := by rw [IntKind.wrap_i64]; omega
      rw [e1, IntKind.wrap_i64]
      omega
    have hto : ∀ _ : okSq dx dy s, IntKind.i64.wrap (IntKind.i64.wrap (8 * (((s / 8 : Nat) : Int) + dy)) + (((s % 8 : Nat) : Int) + dx)) = ((toSq dx dy s : Nat) : Int) := fun h => by
      obtain ⟨g1, g2, g3, g4⟩ := h
      unfold toSq
      generalize ((s / 8 : Nat) : Int) + dy = Y at *
      generalize ((s % 8 : Nat) : Int) + dx = X at *
      have e1 : IntKind.i64.wrap (8 * Y) = 8 * Y := by rw [IntKind.wrap_i64]; omega
      rw [e1, IntKind.wrap_i64]
      omega
    unfold okSq at no yes hto
    generalize hXX : ((s % 8 : Nat) : Int) + dx = X at *
    generalize hYY : ((s / 8 : Nat) : Int) + dy = Y at *
    generalize toSq dx dy s = T at *
    obtain ⟨G, hG⟩ : ∃ G, foldS dx dy (pre ++ [⟨s, hs⟩]) = G := ⟨_, rfl⟩
    rw [hG] at no yes
    have HG := Lib.hid hG
    clear hG
    have HX := Lib.hid hX0
    have HY := Lib.hid hY0
    have NO := Lib.hid no
    have YES := Lib.hid yes
    have HTO := Lib.hid hto
    clear no yes hto hX0 hY0 hXX hYY hft hadd hds
    have nofin : ∀ _ : G = foldS dx dy pre, KeepsOthers W W.drew ∧ TabK W W.drew ∧ (Boxed W w.heap.size 3 (.int .i64 dx) ∧ Boxed W (w.heap.size + 1) 3 (.int .i64 dy) ∧ Boxed W (w.heap.size + 2) 22 (.int .u64 ((foldS dx dy (pre ++ [⟨s, hs⟩]) : Nat) : Int))) ∧ Below w.heap.size w W.drew := fun e => by
      rw [HG.out, e]
      exact ⟨keep_drew (KeepsOthers.refl _), fun q => q, ⟨C0.out, C1.out, C2.out⟩, below_drew CB.out⟩
    have yesfin : KeepsOthers W (W.setCell ⟨w.heap.size + 2, 0, none⟩ (.int .u64 (G : Int))).drew.drew ∧ TabK W (W.setCell ⟨w.heap.size + 2, 0, none⟩ (.int .u64 (G : Int))).drew.drew ∧ (Boxed (W.setCell ⟨w.heap.size + 2, 0, none⟩ (.int .u64 (G : Int))) w.heap.size 3 (.int .i64 dx) ∧ Boxed (W.setCell ⟨w.heap.size + 2, 0, none⟩ (.int .u64 (G : Int))) (w.heap.size + 1) 3 (.int .i64 dy) ∧ Boxed (W.setCell ⟨w.heap.size + 2, 0, none⟩ (.int .u64 (G : Int))) (w.heap.size + 2) 22 (.int .u64 ((foldS dx dy (pre ++ [⟨s, hs⟩]) : Nat) : Int))) ∧ Below w.heap.size w (W.setCell ⟨w.heap.size + 2, 0, none⟩ (.int .u64 (G : Int))).drew.drew := by
      rw [HG.out]
      exact ⟨keep_drew (keep_drew (KeepsOthers.setCell _ _ _)), tabK_set _ (by omega) _, ⟨C0.out.other (by omega) _, C1.out.other (by omega) _, C2.out.set _⟩, below_drew (below_drew (CB.out.setCell (p := ⟨w.heap.size + 2, 0, none⟩) (by simp) _))⟩
    have NOF := Lib.hid nofin
    have YESF := Lib.hid yesfin
    clear nofin yesfin
    refine wpIn_block ?_
    refine wpIn_seq_k (fun K1 hK1 => ?_)
    refine region_round rfl (by kernel_rfl) (by kernel_rfl) ?_
    refine wpAnyIn_take (i := 0) (v := ?va0) rfl rfl (by kernel_rfl) (by kernel_rfl) (by kernel_rfl) (fun _ _ _ h => h) ⟨Or.inl ⟨by rfl, ?hya0⟩, fun _ => rfl⟩ ?_
    case hya0 => intro w; go_simp; try with_reducible rfl
    refine wpAnyIn_take (i := 1) (v := ?va1) rfl rfl (by kernel_rfl) (by kernel_rfl) (by kernel_rfl) (fun _ _ _ h => h) ⟨Or.inl ⟨by rfl, ?hya1⟩, fun _ => rfl⟩ ?_
    case hya1 => intro w; go_simp; try with_reducible rfl
    refine wpAnyIn_take (i := 4) (v := ?va2) rfl rfl (by kernel_rfl) (by kernel_rfl) (by kernel_rfl) (fun _ _ _ h => h) ⟨Or.inl ⟨by rfl, ?hya2⟩, fun _ => rfl⟩ ?_
    case hya2 => intro w; go_simp; try with_reducible rfl
    refine wpAnyIn_take (i := 5) (v := ?va3) rfl rfl (by kernel_rfl) (by kernel_rfl) (by kernel_rfl) (fun _ _ _ h => h) ⟨Or.inl ⟨by rfl, ?hya3⟩, fun _ => rfl⟩ ?_
    case hya3 => intro w; go_simp; try with_reducible rfl
    refine wpAnyIn_ready (rs := [2, 6]) (by kernel_rfl) (by simp) ?_
    refine (AllReadyIn.cons rfl (fun K hK => ?_) (AllReadyIn.cons rfl (fun K hK => ?_) AllReadyIn.nil))
    · go_simp
      refine hK _ _ ?_
      clear hK K
      refine wpAnyIn_take (i := 3) (v := ?vq101) rfl rfl (by kernel_rfl) (by kernel_rfl) (by kernel_rfl) (fun _ _ _ h => h) ⟨Or.inl ⟨by rfl, ?hyq101⟩, fun _ => rfl⟩ ?_
      case hyq101 => intro w; go_simp; try with_reducible rfl
      refine wpAnyIn_take (i := 8) (v := ?vq102) rfl rfl (by kernel_rfl) (by kernel_rfl) (by kernel_rfl) (fun _ _ _ h => h) ⟨Or.inl ⟨by rfl, ?hyq102⟩, fun _ => rfl⟩ ?_
      case hyq102 => intro w; go_simp; try with_reducible rfl
      refine wpAnyIn_ready (rs := [6]) (by kernel_rfl) (by simp) ?_
      refine (AllReadyIn.cons rfl (fun K hK => ?_) AllReadyIn.nil)
      go_simp
      refine hK _ _ ?_
      clear hK K
      refine wpAnyIn_take (i := 7) (v := ?vq103) rfl rfl (by kernel_rfl) (by kernel_rfl) (by kernel_rfl) (fun _ _ _ h => h) ⟨Or.inl ⟨by rfl, ?hyq103⟩, fun _ => rfl⟩ ?_
      case hyq103 => intro w; go_simp; try with_reducible rfl
      refine wpAnyIn_take (i := 9) (v := ?vq104) rfl rfl (by kernel_rfl) (by kernel_rfl) (by kernel_rfl) (fun _ _ _ h => h) ⟨Or.inl ⟨by rfl, ?hyq104⟩, fun _ => rfl⟩ ?_
      case hyq104 => intro w; go_simp; try with_reducible rfl
      refine wpAnyIn_done (by kernel_rfl) ?_ _
      simp only [Exit.then]
      refine hK1 _ _ ?_
      clear hK1 K1
      go_simp
      simp only [HX.out, HY.out]
      by_cases h1 : 0 ≤ X
      · by_cases h2 : X < 8
        · by_cases h3 : 0 ≤ Y
          · by_cases h4 : Y < 8
            · have t1 : decide (0 ≤ X) = true := decide_eq_true h1
              have t2 : decide (X < 8) = true := decide_eq_true h2
              have t3 : decide (0 ≤ Y) = true := decide_eq_true h3
              have t4 : decide (Y < 8) = true := decide_eq_true h4
              have hor := YES.out ⟨h1, h2, h3, h4⟩
              have hto := HTO.out ⟨h1, h2, h3, h4⟩
              clear h1 h2 h3 h4
              repeat gi_step
              refine region_round rfl (by kernel_rfl) (by kernel_rfl) ?_
              refine wpAnyIn_take (i := 1) (v := ?vq301) rfl rfl (by kernel_rfl) (by kernel_rfl) (by kernel_rfl) (fun _ _ _ h => h) ⟨Or.inl ⟨by rfl, ?hyq301⟩, fun _ => rfl⟩ ?_
              case hyq301 => intro w; go_simp; try with_reducible rfl
              refine wpAnyIn_take (i := 2) (v := ?vq302) rfl rfl (by kernel_rfl) (by kernel_rfl) (by kernel_rfl) (fun _ _ _ h => h) ⟨Or.inl ⟨by rfl, ?hyq302⟩, fun _ => rfl⟩ ?_
              case hyq302 => intro w; go_simp; try with_reducible rfl
              refine wpAnyIn_take (i := 3) (v := ?vq303) rfl rfl (by kernel_rfl) (by kernel_rfl) (by kernel_rfl) (fun _ _ _ h => h) ⟨Or.inl ⟨by rfl, ?hyq303⟩, fun _ => rfl⟩ ?_
              case hyq303 => intro w; go_simp; try with_reducible rfl
              refine wpAnyIn_take (i := 4) (v := ?vq304) rfl rfl (by kernel_rfl) (by kernel_rfl) (by kernel_rfl) (fun _ _ _ h => h) ⟨Or.inl ⟨by rfl, ?hyq304⟩, fun _ => rfl⟩ ?_
              case hyq304 => intro w; go_simp; try with_reducible rfl
              refine wpAnyIn_take (i := 5) (v := ?vq305) rfl rfl (by kernel_rfl) (by kernel_rfl) (by kernel_rfl) (fun _ _ _ h => h) ⟨Or.inl ⟨by rfl, ?hyq305⟩, fun _ => rfl⟩ ?_
              case hyq305 => intro w; go_simp; try with_reducible rfl
              refine wpAnyIn_ready (rs := [0]) (by kernel_rfl) (by simp) ?_
              refine (AllReadyIn.cons rfl (fun K hK => ?_) AllReadyIn.nil)
              go_simp
              refine hK _ _ ?_
              clear hK K
              refine wpAnyIn_take (i := 6) (v := ?vq306) rfl rfl (by kernel_rfl) (by kernel_rfl) (by kernel_rfl) (fun _ _ _ h => h) ⟨Or.inl ⟨by rfl, ?hyq306⟩, fun _ => rfl⟩ ?_
              case hyq306 => intro w; go_simp; try with_reducible rfl
              refine wpAnyIn_ready (rs := [7]) (by kernel_rfl) (by simp) ?_
              refine (AllReadyIn.cons rfl (fun K hK => ?_) AllReadyIn.nil)
              go_simp
              refine hK _ _ ?_
              clear hK K
              refine wpAnyIn_done (by kernel_rfl) ?_ _
              exact YESF.out
            · have t4 : decide (Y < 8) = false := decide_eq_false h4
              have t1 : decide (0 ≤ X) = true := decide_eq_true h1
              have t2 : decide (X < 8) = true := decide_eq_true h2
              have t3 : decide (0 ≤ Y) = true := decide_eq_true h3
              have hno := NO.out (by omega)
              have HNO := Lib.hid hno
              clear h1 h2 h3 h4 hno
              repeat gi_step
              exact NOF.out HNO.out
          · have t3 : decide (0 ≤ Y) = false := decide_eq_false h3
            have t1 : decide (0 ≤ X) = true := decide_eq_true h1
            have t2 : decide (X < 8) = true := decide_eq_true h2
            have hno := NO.out (by omega)
            have HNO := Lib.hid hno
            clear h1 h2 h3 hno
            repeat gi_step
            exact NOF.out HNO.out
        · have t2 : decide (X < 8) = false := decide_eq_false h2
          have t1 : decide (0 ≤ X) = true := decide_eq_true h1
          have hno := NO.out (by omega)
          have HNO := Lib.hid hno
          clear h1 h2 hno
          repeat gi_step
          exact NOF.out HNO.out
      · have t1 : decide (0 ≤ X) = false := decide_eq_false h1
        have hno := NO.out (by omega)
        have HNO := Lib.hid hno
        clear h1 hno
        repeat gi_step
        exact NOF.out HNO.out
    · go_simp
      refine hK _ _ ?_
      clear hK K
      refine wpAnyIn_take (i := 7) (v := ?vq105) rfl rfl (by kernel_rfl) (by kernel_rfl) (by kernel_rfl) (fun _ _ _ h => h) ⟨Or.inl ⟨by rfl, ?hyq105⟩, fun _ => rfl⟩ ?_
      case hyq105 => intro w; go_simp; try with_reducible rfl
      refine wpAnyIn_ready (rs := [2]) (by kernel_rfl) (by simp) ?_
      refine (AllReadyIn.cons rfl (fun K hK => ?_) AllReadyIn.nil)
      go_simp
      refine hK _ _ ?_
      clear hK K
      refine wpAnyIn_take (i := 3) (v := ?vq106) rfl rfl (by kernel_rfl) (by kernel_rfl) (by kernel_rfl) (fun _ _ _ h => h) ⟨Or.inl ⟨by rfl, ?hyq106⟩, fun _ => rfl⟩ ?_
      case hyq106 => intro w; go_simp; try with_reducible rfl
      refine wpAnyIn_take (i := 8) (v := ?vq107) rfl rfl (by kernel_rfl) (by kernel_rfl) (by kernel_rfl) (fun _ _ _ h => h) ⟨Or.inl ⟨by rfl, ?hyq107⟩, fun _ => rfl⟩ ?_
      case hyq107 => intro w; go_simp; try with_reducible rfl
      refine wpAnyIn_take (i := 9) (v := ?vq108) rfl rfl (by kernel_rfl) (by kernel_rfl) (by kernel_rfl) (fun _ _ _ h => h) ⟨Or.inl ⟨by rfl, ?hyq108⟩, fun _ => rfl⟩ ?_
      case hyq108 => intro w; go_simp; try with_reducible rfl
      refine wpAnyIn_done (by kernel_rfl) ?_ _
      simp only [Exit.then]
      refine hK1 _ _ ?_
      clear hK1 K1
      go_simp
      simp only [HX.out, HY.out]
      by_cases h1 : 0 ≤ X
      · by_cases h2 : X < 8
        · by_cases h3 : 0 ≤ Y
          · by_cases h4 : Y < 8
            · have t1 : decide (0 ≤ X) = true := decide_eq_true h1
              have t2 : decide (X < 8) = true := decide_eq_true h2
              have t3 : decide (0 ≤ Y) = true := decide_eq_true h3
              have t4 : decide (Y < 8) = true := decide_eq_true h4
              have hor := YES.out ⟨h1, h2, h3, h4⟩
              have hto := HTO.out ⟨h1, h2, h3, h4⟩
              clear h1 h2 h3 h4
              repeat gi_step
              refine region_round rfl (by kernel_rfl) (by kernel_rfl) ?_
              refine wpAnyIn_take (i := 1) (v := ?vq307) rfl rfl (by kernel_rfl) (by kernel_rfl) (by kernel_rfl) (fun _ _ _ h => h) ⟨Or.inl ⟨by rfl, ?hyq307⟩, fun _ => rfl⟩ ?_
              case hyq307 => intro w; go_simp; try with_reducible rfl
              refine wpAnyIn_take (i := 2) (v := ?vq308) rfl rfl (by kernel_rfl) (by kernel_rfl) (by kernel_rfl) (fun _ _ _ h => h) ⟨Or.inl ⟨by rfl, ?hyq308⟩, fun _ => rfl⟩ ?_
              case hyq308 => intro w; go_simp; try with_reducible rfl
              refine wpAnyIn_take (i := 3) (v := ?vq309) rfl rfl (by kernel_rfl) (by kernel_rfl) (by kernel_rfl) (fun _ _ _ h => h) ⟨Or.inl ⟨by rfl, ?hyq309⟩, fun _ => rfl⟩ ?_
              case hyq309 => intro w; go_simp; try with_reducible rfl
              refine wpAnyIn_take (i := 4) (v := ?vq310) rfl rfl (by kernel_rfl) (by kernel_rfl) (by kernel_rfl) (fun _ _ _ h => h) ⟨Or.inl ⟨by rfl, ?hyq310⟩, fun _ => rfl⟩ ?_
              case hyq310 => intro w; go_simp; try with_reducible rfl
              refine wpAnyIn_take (i := 5) (v := ?vq311) rfl rfl (by kernel_rfl) (by kernel_rfl) (by kernel_rfl) (fun _ _ _ h => h) ⟨Or.inl ⟨by rfl, ?hyq311⟩, fun _ => rfl⟩ ?_
              case hyq311 => intro w; go_simp; try with_reducible rfl
              refine wpAnyIn_ready (rs := [0]) (by kernel_rfl) (by simp) ?_
              refine (AllReadyIn.cons rfl (fun K hK => ?_) AllReadyIn.nil)
              go_simp
              refine hK _ _ ?_
              clear hK K
              refine wpAnyIn_take (i := 6) (v := ?vq312) rfl rfl (by kernel_rfl) (by kernel_rfl) (by kernel_rfl) (fun _ _ _ h => h) ⟨Or.inl ⟨by rfl, ?hyq312⟩, fun _ => rfl⟩ ?_
              case hyq312 => intro w; go_simp; try with_reducible rfl
              refine wpAnyIn_ready (rs := [7]) (by kernel_rfl) (by simp) ?_
              refine (AllReadyIn.cons rfl (fun K hK => ?_) AllReadyIn.nil)
              go_simp
              refine hK _ _ ?_
              clear hK K
              refine wpAnyIn_done (by kernel_rfl) ?_ _
              exact YESF.out
            · have t4 : decide (Y < 8) = false := decide_eq_false h4
              have t1 : decide (0 ≤ X) = true := decide_eq_true h1
              have t2 : decide (X < 8) = true := decide_eq_true h2
              have t3 : decide (0 ≤ Y) = true := decide_eq_true h3
              have hno := NO.out (by omega)
              have HNO := Lib.hid hno
              clear h1 h2 h3 h4 hno
              repeat gi_step
              exact NOF.out HNO.out
          · have t3 : decide (0 ≤ Y) = false := decide_eq_false h3
            have t1 : decide (0 ≤ X) = true := decide_eq_true h1
            have t2 : decide (X < 8) = true := decide_eq_true h2
            have hno := NO.out (by omega)
            have HNO := Lib.hid hno
            clear h1 h2 h3 hno
            repeat gi_step
            exact NOF.out HNO.out
        · have t2 : decide (X < 8) = false := decide_eq_false h2
          have t1 : decide (0 ≤ X) = true := decide_eq_true h1
          have hno := NO.out (by omega)
          have HNO := Lib.hid hno
          clear h1 h2 hno
          repeat gi_step
          exact NOF.out HNO.out
      · have t1 : decide (0 ≤ X) = false := decide_eq_false h1
        have hno := NO.out (by omega)
        have HNO := Lib.hid hno
        clear h1 hno
        repeat gi_step
        exact NOF.out HNO.out
  case done =>
    intro D ys W hD hys h hK
    have hval : foldS dx dy ys = shiftM b dx dy := by
      have h1 : ys = sq64 b := hys
      rw [h1]
      exact foldS_all b dx dy
    obtain ⟨⟨c0, c1, c2⟩, hB⟩ := h
    rw [hval] at c2
    have e2 := c2.cell
    have CB := Lib.hid hB
    have HKK := Lib.hid hK
    have HDD := Lib.hid hD
    clear c0 c1 c2 hB hK hD hys hval hds
    obtain ⟨G, hG⟩ : ∃ G, shiftM b dx dy = G := ⟨_, rfl⟩
    rw [hG] at e2
    have HG := Lib.hid hG
    clear hG
    gi_wp2
    have hK' := HKK.out
    have hD := HDD.out
    have hds := DS.out
    refine ⟨by simp, .inl ⟨_, _, rfl, run_takeDeferred hK', ?_⟩⟩
    refine ⟨.int .u64 (G : Int), ?_, by rw [HG.out], CB.out.trans (belowK_b (w := w) (Nat.le_refl _) _ D _ _ (by omega) hK' rfl rfl)⟩
    simp [results, Tryd.f12, go_sem]
theorem shift_any (b : Nat) (hb : b < 18446744073709551616) (dx dy : Int) (w : World) (hT : Tab w) : Calls Tryd.prog 12 #[.int .u64 (b : Int), .int .i64 dx, .int .i64 dy] w fun e w' => e = .returned (.int .u64 ((shiftM b dx dy : Nat) : Int)) ∧ Below w.heap.size w w' := by
  by_cases h : dx < -7 ∨ 7 < dx ∨ dy < -7 ∨ 7 < dy
  · exact shift_off b dx dy h w
  · exact shift_in b hb dx dy w hT (by omega) (by omega) (by omega) (by omega)
end Go.Proofs.YtpoepaiaehhloaaDoor
