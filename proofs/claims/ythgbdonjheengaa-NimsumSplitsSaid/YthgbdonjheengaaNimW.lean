/- Walks: start and Value, over heaps and over lists of heaps. -/
import Derived.Test.YthgbdonjheengaaNimV
import Derived.Test.YthgbdonjheengaaNimN
namespace Go.Proofs.Ythgbdonjheengaa
open Go.RowKit Go.Maps
set_option linter.unusedVariables false
/-- What start promises. -/
def StartI (m : Int) (P : Nat → Prop) (most : Nat) (s : Nat) (w : World) (e : Ending) (w' : World) : Prop :=
  Ext w w' ∧ ∃ bv : Nat, (∃ B F, e = .returned (.tuple #[.pointer (some ⟨bv, 0, none⟩), .int .i64 (grH m s : Int), .int .i64 0]) ∧ FoundN keyI (grH m) (nxH m) P w' B [] [] F most ∧ s ∈ F ∧ w'.cell? ⟨bv, 2, none⟩ = some (.map (some B))) ∨ (e = .returned (.tuple #[.pointer (some ⟨bv, 0, none⟩), .int .i64 0, .int .i64 17]) ∧ OverN P most)
set_option maxHeartbeats 4000000 in
set_option maxRecDepth 100000 in
theorem startI_any (m : Int) (most : Nat) (hm1 : 1 ≤ most) (hm2 : most ≤ 20000) (P : Nat → Prop) (hP : ∀ x, P x → x ≤ 20000 ∧ ∀ t ∈ nxH m x, P t) (s : Nat) (hs : P s) (w : World) :
    Calls Try.prog 22 #[heapG m, .int .i64 (s : Int), .int .i64 (most : Int)] w (StartI m P most s w) := by
  have x1 : Ext w (w.alloc (.map #[] 0)) := ext_alloc (Below.refl _ _) _
  have x2 : Ext w ((w.alloc (.map #[] 0)).alloc (.cells #[heapG m, .int .i64 (most : Int), .map (some w.heap.size)] 68)) := ext_alloc x1 _
  have hsz : (w.alloc (.map #[] 0)).heap.size = w.heap.size + 1 := by simp
  have k2 := Blk.new (w.alloc (.map #[] 0)) 68 #[heapG m, .int .i64 (most : Int), .map (some w.heap.size)]
  have m2 := (mapN_made (K := keyI) (g := (grH m)) w).ext (ext_alloc (Below.refl _ _) (.cells #[heapG m, .int .i64 (most : Int), .map (some w.heap.size)] 68))
  rw [hsz] at k2
  have hv := valueI_any m most hm2 P hP _ s (Nat.lt_succ_self _) _ (w.heap.size + 1) w.heap.size [] [] (k2.cell 0) (k2.cell 1) (k2.cell 2) (by omega) ⟨m2, fun x h => h, fun x h => absurd h List.not_mem_nil, fun x h => absurd h List.not_mem_nil, Nat.zero_le _⟩ (fun u h => absurd h List.not_mem_nil) hs
  have HV := Lib.hid hv
  have X2 := Lib.hid x2
  have K2 := Lib.hid k2
  have hmm := @run_makeMap Try.prog
  have t1 : decide ((most : Int) < 1) = false := decide_eq_false (by omega)
  have t2 : decide ((20000 : Int) < (most : Int)) = false := decide_eq_false (by omega)
  clear hv x1 x2 k2 m2 hsz hm1 hm2 hs
  go_enter Try.func22, Try.ntmps22
  go_wp2_with fail
  refine HV.out.mono ?_
  rintro e w3 ⟨g3, hpost⟩
  have X3 := Lib.hid (show Ext w w3 from ⟨g3.os.trans X2.out.os, g3.tape.trans X2.out.tape, g3.output.trans X2.out.output, Nat.le_trans X2.out.size g3.size, fun b hb => (g3.block b (Nat.lt_of_lt_of_le hb X2.out.size) (fun e => by injection e with e; omega)).trans (X2.out.block b hb)⟩)
  have hc2 := g3.cell (K2.out.cell 2) (by simp)
  have HC2 := Lib.hid hc2
  clear hc2 g3 HV X2 K2 hmm
  rcases hpost with ⟨F', rfl, hF, hsF⟩ | ⟨rfl, hover⟩
  · have HF := Lib.hid (And.intro hF hsF)
    clear hF hsF
    go_wp2
    refine bodyPost_ret (v := .tuple #[.pointer (some ⟨w.heap.size + 1, 0, none⟩), .int .i64 (grH m s : Int), .int .i64 0]) (by simp [results, Try.results22, go_sem]) rfl ?_
    exact ⟨X3.out, w.heap.size + 1, .inl ⟨w.heap.size, F', rfl, HF.out.1, HF.out.2, HC2.out⟩⟩
  · have HO := Lib.hid hover
    clear hover
    go_wp2
    refine bodyPost_ret (v := .tuple #[.pointer (some ⟨w.heap.size + 1, 0, none⟩), .int .i64 0, .int .i64 17]) (by simp [results, Try.results22, go_sem]) rfl ?_
    exact ⟨X3.out, w.heap.size + 1, .inr ⟨rfl, HO.out⟩⟩
/-- What Value promises. -/
def ValueI (m : Int) (P : Nat → Prop) (most : Nat) (s : Nat) (w : World) (e : Ending) (w' : World) : Prop :=
  Ext w w' ∧ ((e = .returned (.tuple #[.int .i64 (grH m s : Int), .int .i64 0]) ∧ ∃ F : List Nat, F.Nodup ∧ F.length ≤ most ∧ ClosedN (nxH m) F ∧ s ∈ F) ∨ (e = .returned (.tuple #[.int .i64 0, .int .i64 17]) ∧ OverN P most))
set_option maxHeartbeats 4000000 in
set_option maxRecDepth 100000 in
theorem valueI_of (m : Int) (most : Nat) (hm1 : 1 ≤ most) (hm2 : most ≤ 20000) (P : Nat → Prop) (hP : ∀ x, P x → x ≤ 20000 ∧ ∀ t ∈ nxH m x, P t) (s : Nat) (hs : P s) (w : World) :
    Calls Try.prog 10 #[heapG m, .int .i64 (s : Int), .int .i64 (most : Int)] w (ValueI m P most s w) := by
  have HV := Lib.hid (startI_any m most hm1 hm2 P hP s hs w)
  clear hm1 hm2 hs
  go_enter Try.func10, Try.ntmps10
  go_wp2_with fail
  refine HV.out.mono ?_
  rintro e w3 ⟨x3, bv, ⟨B, F, rfl, hF, hsF, -⟩ | ⟨rfl, ho⟩⟩
  · have HR : Hid (ValueI m P most s w (.returned (.tuple #[.int .i64 (grH m s : Int), .int .i64 0])) w3) := hide ⟨x3, .inl ⟨rfl, F, hF.1.nodup, by have := hF.2.2.2.2; simpa using this, hF.2.2.1, hsF⟩⟩
    clear x3 hF hsF
    go_wp2
    go_ret2
    exact HR.out
  · have HR : Hid (ValueI m P most s w (.returned (.tuple #[.int .i64 0, .int .i64 17])) w3) := hide ⟨x3, .inr ⟨rfl, ho⟩⟩
    clear x3 ho
    go_wp2
    go_ret2
    exact HR.out

/-- What start promises. -/
def StartS (P : List Nat → Prop) (most : Nat) (s : List Nat) (w : World) (e : Ending) (w' : World) : Prop :=
  Ext w w' ∧ ∃ bv : Nat, (∃ B F, e = .returned (.tuple #[.pointer (some ⟨bv, 0, none⟩), .int .i64 (grL s : Int), .int .i64 0]) ∧ FoundN keyS grL nxS P w' B [] [] F most ∧ s ∈ F ∧ w'.cell? ⟨bv, 2, none⟩ = some (.map (some B))) ∨ (e = .returned (.tuple #[.pointer (some ⟨bv, 0, none⟩), .int .i64 0, .int .i64 17]) ∧ OverN P most)
set_option maxHeartbeats 4000000 in
set_option maxRecDepth 100000 in
theorem startS_any (most : Nat) (hm1 : 1 ≤ most) (hm2 : most ≤ 20000) (P : List Nat → Prop) (hP : ∀ x, P x → wtS x ≤ 64 ∧ ∀ t ∈ nxS x, P t) (s : List Nat) (hs : P s) (w : World) :
    Calls Try.prog 28 #[splitG, .string (strV s), .int .i64 (most : Int)] w (StartS P most s w) := by
  have x1 : Ext w (w.alloc (.map #[] 0)) := ext_alloc (Below.refl _ _) _
  have x2 : Ext w ((w.alloc (.map #[] 0)).alloc (.cells #[splitG, .int .i64 (most : Int), .map (some w.heap.size)] 87)) := ext_alloc x1 _
  have hsz : (w.alloc (.map #[] 0)).heap.size = w.heap.size + 1 := by simp
  have k2 := Blk.new (w.alloc (.map #[] 0)) 87 #[splitG, .int .i64 (most : Int), .map (some w.heap.size)]
  have m2 := (mapN_made (K := keyS) (g := grL) w).ext (ext_alloc (Below.refl _ _) (.cells #[splitG, .int .i64 (most : Int), .map (some w.heap.size)] 87))
  rw [hsz] at k2
  have hv := valueS_any most hm2 P hP (fun x hx w => split_next x (hP x hx).1 w) _ s (Nat.lt_succ_self _) _ (w.heap.size + 1) w.heap.size [] [] (k2.cell 0) (k2.cell 1) (k2.cell 2) (by omega) ⟨m2, fun x h => h, fun x h => absurd h List.not_mem_nil, fun x h => absurd h List.not_mem_nil, Nat.zero_le _⟩ (fun u h => absurd h List.not_mem_nil) hs
  have HV := Lib.hid hv
  have X2 := Lib.hid x2
  have K2 := Lib.hid k2
  have hmm := @run_makeMap Try.prog
  have t1 : decide ((most : Int) < 1) = false := decide_eq_false (by omega)
  have t2 : decide ((20000 : Int) < (most : Int)) = false := decide_eq_false (by omega)
  clear hv x1 x2 k2 m2 hsz hm1 hm2 hs
  go_enter Try.func28, Try.ntmps28
  go_wp2_with fail
  refine HV.out.mono ?_
  rintro e w3 ⟨g3, hpost⟩
  have X3 := Lib.hid (show Ext w w3 from ⟨g3.os.trans X2.out.os, g3.tape.trans X2.out.tape, g3.output.trans X2.out.output, Nat.le_trans X2.out.size g3.size, fun b hb => (g3.block b (Nat.lt_of_lt_of_le hb X2.out.size) (fun e => by injection e with e; omega)).trans (X2.out.block b hb)⟩)
  have hc2 := g3.cell (K2.out.cell 2) (by simp)
  have HC2 := Lib.hid hc2
  clear hc2 g3 HV X2 K2 hmm
  rcases hpost with ⟨F', rfl, hF, hsF⟩ | ⟨rfl, hover⟩
  · have HF := Lib.hid (And.intro hF hsF)
    clear hF hsF
    go_wp2
    refine bodyPost_ret (v := .tuple #[.pointer (some ⟨w.heap.size + 1, 0, none⟩), .int .i64 (grL s : Int), .int .i64 0]) (by simp [results, Try.results28, go_sem]) rfl ?_
    exact ⟨X3.out, w.heap.size + 1, .inl ⟨w.heap.size, F', rfl, HF.out.1, HF.out.2, HC2.out⟩⟩
  · have HO := Lib.hid hover
    clear hover
    go_wp2
    refine bodyPost_ret (v := .tuple #[.pointer (some ⟨w.heap.size + 1, 0, none⟩), .int .i64 0, .int .i64 17]) (by simp [results, Try.results28, go_sem]) rfl ?_
    exact ⟨X3.out, w.heap.size + 1, .inr ⟨rfl, HO.out⟩⟩
/-- What Value promises. -/
def ValueS (P : List Nat → Prop) (most : Nat) (s : List Nat) (w : World) (e : Ending) (w' : World) : Prop :=
  Ext w w' ∧ ((e = .returned (.tuple #[.int .i64 (grL s : Int), .int .i64 0]) ∧ ∃ F : List (List Nat), F.Nodup ∧ F.length ≤ most ∧ ClosedN nxS F ∧ s ∈ F) ∨ (e = .returned (.tuple #[.int .i64 0, .int .i64 17]) ∧ OverN P most))
set_option maxHeartbeats 4000000 in
set_option maxRecDepth 100000 in
theorem valueS_of (most : Nat) (hm1 : 1 ≤ most) (hm2 : most ≤ 20000) (P : List Nat → Prop) (hP : ∀ x, P x → wtS x ≤ 64 ∧ ∀ t ∈ nxS x, P t) (s : List Nat) (hs : P s) (w : World) :
    Calls Try.prog 19 #[splitG, .string (strV s), .int .i64 (most : Int)] w (ValueS P most s w) := by
  have HV := Lib.hid (startS_any most hm1 hm2 P hP s hs w)
  clear hm1 hm2 hs
  go_enter Try.func19, Try.ntmps19
  go_wp2_with fail
  refine HV.out.mono ?_
  rintro e w3 ⟨x3, bv, ⟨B, F, rfl, hF, hsF, -⟩ | ⟨rfl, ho⟩⟩
  · have HR : Hid (ValueS P most s w (.returned (.tuple #[.int .i64 (grL s : Int), .int .i64 0])) w3) := hide ⟨x3, .inl ⟨rfl, F, hF.1.nodup, by have := hF.2.2.2.2; simpa using this, hF.2.2.1, hsF⟩⟩
    clear x3 hF hsF
    go_wp2
    go_ret2
    exact HR.out
  · have HR : Hid (ValueS P most s w (.returned (.tuple #[.int .i64 0, .int .i64 17])) w3) := hide ⟨x3, .inr ⟨rfl, ho⟩⟩
    clear x3 ho
    go_wp2
    go_ret2
    exact HR.out

end Go.Proofs.Ythgbdonjheengaa
