/- Walks: bits.Parts, some. -/
import Derived.DataShut
import Derived.Test.YtpoepaiaehhloaaDoorMem2
import Derived.Test.YtpoepaiaehhloaaDoorFill
namespace Go.Proofs.YtpoepaiaehhloaaDoor
open Go.RowKit Go.Shelf
set_option linter.unusedVariables false
theorem uInfo : (Tryd.prog.info? 22).map (fun i => (i.zero, i.size, i.bytes)) = some (some (.int .u64 0), 1, 8) := by kernel_rfl
def valsU (l : List Nat) : List Value := l.map fun (x : Nat) => Value.int .u64 (x : Int)
/-- A slice value that owns a row of sets, laid since world w0. -/
def OwnU (w0 w : World) (v : Value) (xs : List Nat) : Prop := ∃ A c, v = .slice A xs.length c ∧ w.ownsRow w0.heap.size 22 1 (.slice A xs.length c) xs.length (valsU xs)
theorem OwnU.nil (w0 w : World) : OwnU w0 w (.slice none 0 0) [] := ⟨none, 0, rfl, World.ownsRow_nil _ _ _ _⟩
theorem OwnU.ext {w0 w w' : World} {v : Value} {xs : List Nat} (h : OwnU w0 w v xs) (he : Ext w w') : OwnU w0 w' v xs := by
  obtain ⟨A, c, e, h⟩ := h
  exact ⟨A, c, e, own_ext h he⟩
theorem wp_append_u {ops : Array Oper} {rest : List Oper} {o : Oper} {a : Act} {Q : Exit → Act → World → Prop} (s x : Operand) (hgd : o.guard = none)
    (ho : o.op = .call { callee := .builtin .append, args := #[s, x], argTypes := #[23, 23] }) (w0 w : World) (v : Value) (xs : List Nat) (z : Nat) (hs : a.eval s = v) (hown : OwnU w0 w v xs) (hx : a.eval x = .slice (some ⟨w.heap.size, 0, none⟩) 1 1)
    (hext : Ext w0 w) (hlen : xs.length ≤ 1000000) (h : ∀ v' w', OwnU w0 w' v' (xs ++ [z]) → Ext w0 w' → wpList Tryd.prog ops Q rest (a.put o.dst v') w') :
    wpList Tryd.prog ops Q (o :: rest) a (w.alloc (.cells #[.int .u64 (z : Int)] 22)) := by
  obtain ⟨A, c, rfl, hown⟩ := hown
  obtain ⟨i0, hi, hz0, hz1, hz2⟩ := info_parts uInfo
  have hsz := hext.size
  refine wpList_append_cells (P := Tryd.prog) _ hgd s x 23 ho w0.heap.size 22 i0 (.int .u64 0) 1 8 Tryd.underlying23 hi hz0 hz1 hz2 rfl (by decide) _ xs.length (valsU xs) hs (own_ext hown (ext_alloc (Below.refl _ _) _)) _ 1 1 [.int .u64 (z : Int)] hx rfl (cellsAt_new w 22 [.int .u64 (z : Int)]) (by simp [Value.oneCell']) (by simp only [maxLen]; omega) (by omega) (by simp; omega) (by simp) ?_
  intro v' w' hown' hgrow
  obtain ⟨A', c', rfl, _, _⟩ := own_shape hown'
  exact h _ w' ⟨A', c', by simp, by simpa [valsU] using hown'⟩ (ext_grown (ext_alloc hext _) hgrow (own_row hown))
set_option maxHeartbeats 4000000 in
set_option maxRecDepth 100000 in
theorem parts_any (b : Nat) (hb : b < 18446744073709551616) (w : World) (hT : Tab w) : Calls Tryd.prog 7 #[.int .u64 (b : Int)] w fun e w' => ∃ v L, e = .returned v ∧ OwnU w w' v L ∧ PartsIs b L ∧ L.length ≤ 64 ∧ Below w.heap.size w w' := by
  have HT := Lib.hid hT
  have HB := Lib.hid hb
  have HP64 := Lib.hid (pop_le b)
  clear hT hb
  go_enter Tryd.func7, Tryd.ntmps7
  go_wp2
  go_loopw [0, 3] (fun r v wr => ∃ (x : Nat) (pre : List Nat), r = .int .u64 (x : Int) ∧ x < 18446744073709551616 ∧ OwnU w wr v pre ∧ pre.length + pop 64 x ≤ 64 ∧ (∀ L, PartsIs x L → PartsIs b (pre ++ L)) ∧ Tab wr ∧ Below w.heap.size w wr) (fun r v wr => (intOf r).toNat)
  case atStart => exact ⟨b, [], rfl, HB.out, OwnU.nil _ _, by simpa using HP64.out, fun L h => h, HT.out, Below.refl _ _⟩
  case round =>
    obtain ⟨x, pre, rfl, hx, hO, hl, hP, hTr, hBr⟩ := hrel
    obtain ⟨A, c, rfl, -⟩ := id hO
    by_cases h0 : x = 0
    · subst h0
      have HO := Lib.hid hO
      have HL : pre.length ≤ 64 := by omega
      have HLL := Lib.hid HL
      have HP := Lib.hid (hP [] rfl)
      have HBR := Lib.hid hBr
      clear hO hl hP hTr hBr hx HL
      go_wp2
      go_ret
      exact ⟨_, pre, rfl, HO.out, by simpa using HP.out, HLL.out, HBR.out⟩
    · have t0 : ((x : Int) != 0) = true := by simp; omega
      obtain ⟨hlow, hk⟩ := Lib.lowest_bit 64 x h0 hx
      have hneg : IntKind.u64.wrap (-(x : Int)) = ((18446744073709551616 - x : Nat) : Int) := by rw [IntKind.wrap_u64]; omega
      have r0 : bits .and .u64 (x : Int) (IntKind.u64.wrap (-(x : Int))) = ((2 ^ Lib.ctz 64 x : Nat) : Int) := by
        rw [hneg, u64_and_nat _ _ hx (by omega)]
        exact congrArg _ hlow
      have e64 : (2 : Nat) ^ 64 = 18446744073709551616 := rfl
      have hsl : 2 ^ Lib.ctz 64 x < 18446744073709551616 := by rw [← e64]; exact Nat.pow_lt_pow_right (by omega) hk
      have HF := Lib.hid (fun W hW => fill_any (2 ^ Lib.ctz 64 x) x hsl hx W hW)
      have HLESS := Lib.hid (fun p hp h => less_lt (p := p) h0 hx hp h)
      have HPP := Lib.hid (fun p (hp : p < 18446744073709551616) (h : FillIs (2 ^ Lib.ctz 64 x) x p) L (hL : PartsIs (lessM x p) L) => hP (p :: L) ⟨h0, hp, h, hL⟩)
      have HX := Lib.hid hx
      have HO := Lib.hid hO
      have HL := Lib.hid hl
      have HTR := Lib.hid hTr
      have HBR := Lib.hid hBr
      clear hlow hk hneg e64 hsl h0 hx hO hl hP hTr hBr
      generalize (2 : Nat) ^ Lib.ctz 64 x = sd at *
      go_wp2_with fail
      refine (HF.out _ HTR.out).mono ?_
      rintro e w1 ⟨p, rfl, hp, hpl, hb1⟩
      obtain ⟨q1, q2⟩ := HLESS.out p hpl hp
      have hll : lessM x p < 18446744073709551616 := Nat.lt_trans q1 HX.out
      have r1 : bits .andNot .u64 (x : Int) (p : Int) = ((lessM x p : Nat) : Int) := u64_andNot_nat _ _ HX.out hpl
      have HQ1 := Lib.hid q1
      have HQ2 := Lib.hid q2
      have HLL := Lib.hid hll
      have HQ := Lib.hid (HPP.out p hpl hp)
      have HT1 := Lib.hid (tab_below HTR.out HTR.out.1 hb1)
      have HB1 := Lib.hid (below_step rfl HBR.out hb1)
      have HO1 := Lib.hid (HO.out.ext hb1)
      clear hb1 hp hpl q1 q2 hll
      generalize lessM x p = y at *
      go_wp2_with (at_builtin; refine wp_append_u (.tmp 13) (.tmp 15) rfl rfl w w1 (.slice A pre.length c) pre p rfl HO1.out rfl HB1.out (by have := HL.out; omega) ?_; intro v4 w4 own4 x4)
      obtain ⟨A4, n4, c4, rfl⟩ : ∃ A n c, v4 = .slice A n c := by obtain ⟨A, c, e, -⟩ := own4; exact ⟨_, _, _, e⟩
      have O4 := Lib.hid own4
      have X4 := Lib.hid x4
      have HT4 := Lib.hid (tab_below HT.out HT.out.1 x4)
      clear own4 x4
      go_wp2
      go_roundw
      case rel => exact ⟨y, pre ++ [p], rfl, HLL.out, O4.out, by have := HL.out; have := HQ2.out; simp; omega, fun L hL => by rw [List.append_assoc]; exact HQ.out L hL, HT4.out, X4.out⟩
      case measure => have := HQ1.out; simp [intOf]; omega
theorem some_idx' {n l : Int} (hl : 1 ≤ l) : -l < n.tmod l ∧ n.tmod l < l ∧ 0 ≤ (n.tmod l + l).tmod l ∧ (n.tmod l + l).tmod l < l := by
  have h1 : -l < n.tmod l ∧ n.tmod l < l := by
    have a := Int.tmod_lt_of_pos n (show 0 < l by omega)
    refine ⟨?_, a⟩
    have b := Int.tmod_lt_of_pos (-n) (show 0 < l by omega)
    rw [Int.neg_tmod] at b
    omega
  refine ⟨h1.1, h1.2, Int.tmod_nonneg _ (by omega), Int.tmod_lt_of_pos _ (by omega)⟩
set_option maxHeartbeats 1000000 in
set_option maxRecDepth 100000 in
theorem some_int (L : List Int) (n : Int) (A : Option Addr) (c : Nat) (w : World) (h : IntsAt w A L) (hl : L.length ≤ 1000000) (h0 : 0 < L.length) :
    Calls Tryd.prog 10 #[.slice A L.length c, .int .i64 n] w fun e w' => ∃ x, x ∈ L ∧ e = .returned (.int .i64 x) ∧ Ext w w' := by
  obtain ⟨q1, q2, q3, q4⟩ := some_idx' (n := n) (l := (L.length : Int)) (by omega)
  obtain ⟨k, hk⟩ := Int.eq_ofNat_of_zero_le q3
  have hk' : (n.tmod (L.length : Int) + (L.length : Int)).tmod (L.length : Int) = (k : Int) := hk
  have hkl : k < L.length := by omega
  obtain ⟨b, o, rfl, c0⟩ := h k hkl
  have HM := hide (show L.getD k 0 ∈ L by rw [List.getD_eq_getElem?_getD, List.getElem?_eq_getElem hkl]; exact List.getElem_mem hkl)
  have HI : (wrap64 (n.tmod (L.length : Int) + (L.length : Int))).tmod (L.length : Int) = (k : Int) := by
    have hw : wrap64 (n.tmod (L.length : Int) + (L.length : Int)) = n.tmod (L.length : Int) + (L.length : Int) := by unfold wrap64; omega
    rw [hw]
    exact hk'
  have z1 : ((L.length : Int) == 0) = false := beq_eq_false_iff_ne.2 (by omega)
  have j0 : (0 : Int) ≤ (k : Int) := by omega
  have j1 : (k : Int) < (L.length : Int) := by omega
  generalize L.getD k 0 = x at *
  clear h h0 hk hk' q1 q2 q3 q4
  go_enter Tryd.func10, Tryd.ntmps10
  go_wp2
  go_ret
  exact ⟨x, HM.out, rfl, Below.refl _ _⟩
end Go.Proofs.YtpoepaiaehhloaaDoor
