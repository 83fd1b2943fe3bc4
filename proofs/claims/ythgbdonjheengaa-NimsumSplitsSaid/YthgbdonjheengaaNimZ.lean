/- Walks: start and Value, over sums of two heaps. -/
import Derived.Test.YthgbdonjheengaaNimVP
namespace Go.Proofs.Ythgbdonjheengaa
open Go.RowKit Go.Maps
set_option linter.unusedVariables false
/-- What start promises. -/
def StartP (m n : Int) (P : Nat × Nat → Prop) (most : Nat) (s : Nat × Nat) (w : World) (e : Ending) (w' : World) : Prop :=
  Ext w w' ∧ ∃ bv : Nat, (∃ B F, e = .returned (.tuple #[.pointer (some ⟨bv, 0, none⟩), .int .i64 (grP m n s : Int), .int .i64 0]) ∧ FoundN keyP (grP m n) (nxP m n) P w' B [] [] F most ∧ s ∈ F ∧ w'.cell? ⟨bv, 2, none⟩ = some (.map (some B))) ∨ (e = .returned (.tuple #[.pointer (some ⟨bv, 0, none⟩), .int .i64 0, .int .i64 17]) ∧ OverN P most)
set_option maxHeartbeats 4000000 in
set_option maxRecDepth 100000 in
theorem startP_any (m n : Int) (most : Nat) (hm1 : 1 ≤ most) (hm2 : most ≤ 20000) (P : Nat × Nat → Prop) (hP : ∀ x, P x → OkP x ∧ ∀ t ∈ nxP m n x, P t) (s : Nat × Nat) (hs : P s) (w : World) :
    Calls Try.prog 21 #[bothG m n, pairV s, .int .i64 (most : Int)] w (StartP m n P most s w) := by
  have x0 : Ext w (w.alloc (.cells #[.int .i64 (s.1 : Int), .int .i64 (s.2 : Int)] 26)) := ext_alloc (Below.refl _ _) _
  have k0 := Blk.new w 26 #[.int .i64 (s.1 : Int), .int .i64 (s.2 : Int)]
  have X0 := Lib.hid x0
  have K0 := Lib.hid k0
  have t1 : decide ((most : Int) < 1) = false := decide_eq_false (by omega)
  have t2 : decide ((20000 : Int) < (most : Int)) = false := decide_eq_false (by omega)
  clear x0 k0
  go_enter Try.func21, Try.ntmps21
  go_upto_region 1 with fail
  generalize (w.alloc (.cells #[.int .i64 (s.1 : Int), .int .i64 (s.2 : Int)] 26)) = wb at *
  generalize w.heap.size = SP at *
  have x1 : Ext wb (wb.alloc (.map #[] 0)) := ext_alloc (Below.refl _ _) _
  have x2 : Ext wb ((wb.alloc (.map #[] 0)).alloc (.cells #[bothG m n, .int .i64 (most : Int), .map (some wb.heap.size)] 80)) := ext_alloc x1 _
  have hsz : (wb.alloc (.map #[] 0)).heap.size = wb.heap.size + 1 := by simp
  have k2 := Blk.new (wb.alloc (.map #[] 0)) 80 #[bothG m n, .int .i64 (most : Int), .map (some wb.heap.size)]
  have m2 := (mapN_made (K := keyP) (g := (grP m n)) wb).ext (ext_alloc (Below.refl _ _) (.cells #[bothG m n, .int .i64 (most : Int), .map (some wb.heap.size)] 80))
  rw [hsz] at k2
  have hv := valueP_any m n most hm2 P hP _ s (Nat.lt_succ_self _) _ (wb.heap.size + 1) wb.heap.size [] [] (k2.cell 0) (k2.cell 1) (k2.cell 2) (by omega) ⟨m2, fun x h => h, fun x h => absurd h List.not_mem_nil, fun x h => absurd h List.not_mem_nil, Nat.zero_le _⟩ (fun u h => absurd h List.not_mem_nil) hs
  have HV := Lib.hid hv
  have X2 := Lib.hid x2
  have K2 := Lib.hid k2
  have hmm := @run_makeMap Try.prog
  clear hv x1 x2 k2 m2 hsz hm1 hm2 hs
  have f0 := (K0.out.ext X2.out).cell
  go_wp2_with fail
  refine HV.out.mono ?_
  rintro e w3 ⟨g3, hpost⟩
  have X3 := Lib.hid (show Ext wb w3 from ⟨g3.os.trans X2.out.os, g3.tape.trans X2.out.tape, g3.output.trans X2.out.output, Nat.le_trans X2.out.size g3.size, fun b hb => (g3.block b (Nat.lt_of_lt_of_le hb X2.out.size) (fun e => by injection e with e; omega)).trans (X2.out.block b hb)⟩)
  have hc2 := g3.cell (K2.out.cell 2) (by simp)
  have HC2 := Lib.hid hc2
  clear hc2 g3 HV X2 K2 hmm
  rcases hpost with ⟨F', rfl, hF, hsF⟩ | ⟨rfl, hover⟩
  · have HF := Lib.hid (And.intro hF hsF)
    clear hF hsF
    go_wp2
    refine bodyPost_ret (v := .tuple #[.pointer (some ⟨wb.heap.size + 1, 0, none⟩), .int .i64 (grP m n s : Int), .int .i64 0]) (by simp [results, Try.results21, go_sem]) rfl ?_
    exact ⟨ext_trans X0.out X3.out, wb.heap.size + 1, .inl ⟨wb.heap.size, F', rfl, HF.out.1, HF.out.2, HC2.out⟩⟩
  · have HO := Lib.hid hover
    clear hover
    go_wp2
    refine bodyPost_ret (v := .tuple #[.pointer (some ⟨wb.heap.size + 1, 0, none⟩), .int .i64 0, .int .i64 17]) (by simp [results, Try.results21, go_sem]) rfl ?_
    exact ⟨ext_trans X0.out X3.out, wb.heap.size + 1, .inr ⟨rfl, HO.out⟩⟩
/-- What Value promises. -/
def ValueP (m n : Int) (P : Nat × Nat → Prop) (most : Nat) (s : Nat × Nat) (w : World) (e : Ending) (w' : World) : Prop :=
  Ext w w' ∧ ((e = .returned (.tuple #[.int .i64 (grP m n s : Int), .int .i64 0]) ∧ ∃ F : List (Nat × Nat), F.Nodup ∧ F.length ≤ most ∧ ClosedN (nxP m n) F ∧ s ∈ F) ∨ (e = .returned (.tuple #[.int .i64 0, .int .i64 17]) ∧ OverN P most))
set_option maxHeartbeats 4000000 in
set_option maxRecDepth 100000 in
theorem valueP_of (m n : Int) (most : Nat) (hm1 : 1 ≤ most) (hm2 : most ≤ 20000) (P : Nat × Nat → Prop) (hP : ∀ x, P x → OkP x ∧ ∀ t ∈ nxP m n x, P t) (s : Nat × Nat) (hs : P s) (w : World) :
    Calls Try.prog 8 #[bothG m n, pairV s, .int .i64 (most : Int)] w (ValueP m n P most s w) := by
  have x0 : Ext w (w.alloc (.cells #[.int .i64 (s.1 : Int), .int .i64 (s.2 : Int)] 26)) := ext_alloc (Below.refl _ _) _
  have k0 := Blk.new w 26 #[.int .i64 (s.1 : Int), .int .i64 (s.2 : Int)]
  have X0 := Lib.hid x0
  have f0 := k0.cell
  have HV := Lib.hid (startP_any m n most hm1 hm2 P hP s hs (w.alloc (.cells #[.int .i64 (s.1 : Int), .int .i64 (s.2 : Int)] 26)))
  clear hm1 hm2 hs x0 k0
  go_enter Try.func8, Try.ntmps8
  go_wp2_with fail
  refine HV.out.mono ?_
  rintro e w3 ⟨x3, bv, ⟨B, F, rfl, hF, hsF, -⟩ | ⟨rfl, ho⟩⟩
  · have HR : Hid (ValueP m n P most s w (.returned (.tuple #[.int .i64 (grP m n s : Int), .int .i64 0])) w3) := hide ⟨ext_trans X0.out x3, .inl ⟨rfl, F, hF.1.nodup, by have := hF.2.2.2.2; simpa using this, hF.2.2.1, hsF⟩⟩
    clear x3 hF hsF
    go_wp2
    go_ret2
    exact HR.out
  · have HR : Hid (ValueP m n P most s w (.returned (.tuple #[.int .i64 0, .int .i64 17])) w3) := hide ⟨ext_trans X0.out x3, .inr ⟨rfl, ho⟩⟩
    clear x3 ho
    go_wp2
    go_ret2
    exact HR.out

end Go.Proofs.Ythgbdonjheengaa
