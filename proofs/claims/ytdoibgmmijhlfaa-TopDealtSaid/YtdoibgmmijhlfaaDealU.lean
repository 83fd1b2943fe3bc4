/- Walks: the deal's table: New, Commit, Open. -/
import Derived.Test.YtdoibgmmijhlfaaDealT
import Derived.Test.YtdoibgmmijhlfaaDealS
namespace Go.Proofs.Ytdoibgmmijhlfaa
open Go.ChangeShapes Go.WideShapes Go.ChangeAt Go.RowKit Go.Shelf
set_option linter.unusedVariables false
set_option linter.unusedSimpArgs false
theorem plInfo : (Try.prog.info? 113).map (fun i => (i.zero, i.size, i.bytes)) = some (some (.agg #[.bool false, .bool false, .int .u64 0, .slice none 0 0]), 4, 40) := by kernel_rfl
def zeroPl : PlM := ⟨false, false, 0, .slice none 0 0, []⟩
theorem makePl (n : Nat) (h1 : 1 ≤ n) (h4 : n ≤ 4) (w : World) : (Instr.makeSlice 107 (.int .i64 (n : Int)) (.int .i64 (n : Int))).run Try.prog w = .ok (.slice (some ⟨w.heap.size, 0, none⟩) n n) (w.alloc (.cells (plsC (List.replicate n zeroPl)).toArray 113)) := by
  obtain ⟨i, hi, hz, hs, hb⟩ := info_parts plInfo
  have hr := run_make (P := Try.prog) w 107 113 i (.agg #[.bool false, .bool false, .int .u64 0, .slice none 0 0]) Try.underlying107 hi hz .i64 .i64 (n : Int) (n : Int) (by omega) (Int.le_refl _) (by rw [hb]; omega) (by omega)
  rw [hr, hs]
  simp only [Int.toNat_natCast]
  have e : madeCells (Value.agg #[Value.bool false, Value.bool false, Value.int .u64 0, Value.slice none 0 0]).cells (n * 4) = (plsC (List.replicate n zeroPl)).toArray := by
    apply Array.ext
    · simp [madeCells, plsC_len]
    · intro j h1 h2
      have hj : j < n * 4 := by simpa [madeCells] using h1
      have e := plsC_get (List.replicate n zeroPl) (j / 4) (j % 4) zeroPl (by rw [List.getElem?_replicate, if_pos (by omega)]) (by omega)
      rw [show j / 4 * 4 + j % 4 = j by omega] at e
      have e2 : (plsC (List.replicate n zeroPl)).toArray[j]? = (plC zeroPl)[j % 4]? := by rw [List.getElem?_toArray]; exact e
      rw [Array.getElem?_eq_getElem h2] at e2
      have e3 : ∀ r, r < 4 → (plC zeroPl)[r]? = (#[Value.bool false, Value.bool false, Value.int .u64 0, Value.slice none 0 0] : Array Value)[r]? := fun r hr => by
        rcases (by omega : r = 0 ∨ r = 1 ∨ r = 2 ∨ r = 3) with rfl | rfl | rfl | rfl <;> rfl
      rw [e3 (j % 4) (by omega)] at e2
      apply Option.some.inj
      rw [e2]
      simp [madeCells, Value.cells]
      rcases (by omega : j % 4 = 0 ∨ j % 4 = 1 ∨ j % 4 = 2 ∨ j % 4 = 3) with h | h | h | h <;> rw [h] <;> rfl
  rw [e]
set_option maxHeartbeats 1000000 in
set_option maxRecDepth 100000 in
theorem TNew_ok (n : Nat) (h1 : 1 ≤ n) (h4 : n ≤ 4) (w : World) :
    Calls Try.prog 23 #[.int .i64 (n : Int), .int .i64 52] w fun e w' => ∃ BT g, e = .returned (.tuple #[.pointer (some ⟨BT, 0, none⟩), .int .i64 0]) ∧ TabAt w w' BT g (List.replicate n zeroPl) := by
  have hmk := makePl n h1 h4
  obtain ⟨xx, k1, k2⟩ := blks2 w (plsC (List.replicate n zeroPl)).toArray 113 #[.int .i64 52, .slice (some ⟨w.heap.size, 0, none⟩) n n, .int .i64 (-1)] 109
  have K1 := hide k1
  have K2 := hide k2
  have XX := hide xx
  have H14 := hide (And.intro h1 h4)
  have t1 : decide ((n : Int) < 1) = false := by simp; omega
  have t2 : decide ((6 : Int) < (n : Int)) = false := by simp; omega
  clear k1 k2 xx h1 h4
  generalize hps : plsC (List.replicate n zeroPl) = cs at *
  have HPS := hide hps
  clear hps
  go_enter Try.func23, Try.ntmps23
  go_wp2
  go_ret2
  refine ⟨w.heap.size + 1, w.heap.size, rfl, ?_, ?_, ?_, XX.out, by omega, Nat.le_refl _, ?_⟩
  · rw [List.length_replicate]; exact K2.out
  · rw [HPS.out]; exact K1.out
  · intro p hp ho
    rw [List.eq_of_mem_replicate hp] at ho
    cases ho
  · rw [List.length_replicate]; have := H14.out; omega
theorem own_set_pl {w0 w : World} {BT g : Nat} {ps : List PlM} (h : TabAt w0 w BT g ps) (i : Nat) (u : Value) : ∀ p ∈ ps, p.op = true → OwnZ w0 (w.setCell ⟨g, i, none⟩ u) p.dv p.dz := fun p hp ho => (h.2.2.1 p hp ho).setFar h.2.1 (by decide) i u
theorem tab_ne {w0 w : World} {BT g : Nat} {ps : List PlM} (h : TabAt w0 w BT g ps) : BT ≠ g := by
  rintro rfl
  have e := h.1.symm.trans h.2.1
  simp only [Option.some.injEq, Obj.cells.injEq] at e
  exact absurd e.2.1 (by decide)
theorem stage_zero {ps : List PlM} {k : Nat} {p : PlM} (hp : ps[k]? = some p) (ho : p.so = false) : stageM ps = 0 := by
  unfold stageM
  rw [if_pos (List.any_eq_true.2 ⟨p, List.mem_of_getElem? hp, by rw [ho]; rfl⟩)]
set_option maxHeartbeats 2000000 in
set_option maxRecDepth 100000 in
theorem Commit_ok {w0 W : World} {BT g : Nat} {ps : List PlM} (h : TabAt w0 W BT g ps) (k : Nat) (p : PlM) (hp : ps[k]? = some p) (hso : p.so = false) (hop : p.op = false) (s : Int) :
    Calls Try.prog 24 #[.pointer (some ⟨BT, 0, none⟩), .int .i64 (k : Int), .int .u64 s] W fun e w' => e = .returned (.int .i64 0) ∧ TabAt w0 w' BT g (ps.set k { p with so := true, sl := s }) := by
  have hk : k < ps.length := (List.getElem?_eq_some_iff.1 hp).1
  have HCK := hide (tcheck_ok h k hk 0 (stage_zero hp hso))
  have H := hide h
  have HP := hide hp
  have HSO := hide (And.intro hso hop)
  have k0 : (0 : Int) ≤ (k : Int) := by omega
  have k1 : (k : Int) < (ps.length : Int) := by omega
  have h6 := h.2.2.2.2.2.2
  clear h hp hso hop
  go_enter Try.func24, Try.ntmps24
  go_wp2_with fail
  refine HCK.out.mono ?_
  rintro e w1 ⟨rfl, x1⟩
  have H1 := hide (H.out.ext x1)
  have f := H1.out.1.cell
  obtain ⟨c0, c1, c2, c3⟩ := blk_pl H1.out.2.1 HP.out
  rw [HSO.out.1] at c0
  have z := H1.out.2.1.frozen
  have K2 := hide (plsC_set ps k 0 p { p with so := true } (.bool true) HP.out (by omega) rfl)
  have K3 := hide (plsC_set (ps.set k { p with so := true }) k 2 { p with so := true } { p with so := true, sl := s } (.int .u64 s) (by rw [List.getElem?_set]; simp [hk]) (by omega) rfl)
  have B2 := hide (H1.out.2.1.set_ (k * 4 + 0) (.bool true))
  rw [List.setIfInBounds_toArray, K2.out] at B2
  have B3 := hide (B2.out.set_ (k * 4 + 2) (.int .u64 s))
  rw [List.setIfInBounds_toArray, K3.out, List.set_set] at B3
  have X3 := hide (ext_set (ext_set H1.out.2.2.2.1 (p := ⟨g, k * 4 + 0, none⟩) H1.out.2.2.2.2.2.1 (.bool true)) (p := ⟨g, k * 4 + 2, none⟩) H1.out.2.2.2.2.2.1 (.int .u64 s))
  have T3 := hide ((H1.out.1.far (p := ⟨g, k * 4 + 0, none⟩) (tab_ne H1.out) (.bool true)).far (p := ⟨g, k * 4 + 2, none⟩) (tab_ne H1.out) (.int .u64 s))
  have O3 : Hid (∀ q ∈ ps, q.op = true → OwnZ w0 ((w1.setCell ⟨g, k * 4 + 0, none⟩ (.bool true)).setCell ⟨g, k * 4 + 2, none⟩ (.int .u64 s)) q.dv q.dz) := hide (fun q hq ho => (own_set_pl H1.out (k * 4 + 0) (.bool true) q hq ho).setFar B2.out (by decide) (k * 4 + 2) (.int .u64 s))
  rw [Nat.add_zero] at X3 T3 O3 B3
  clear x1 HCK c1 c3 K2 K3 B2
  go_wp2
  go_ret
  refine ⟨rfl, ?_, B3.out, ?_, X3.out, H1.out.2.2.2.2.1, H1.out.2.2.2.2.2.1, by rw [List.length_set]; exact h6⟩
  · rw [List.length_set]; exact T3.out
  · intro q hq ho
    rcases List.mem_or_eq_of_mem_set hq with hm | rfl
    · exact O3.out q hm ho
    · rw [show ({ p with so := true, sl := s } : PlM).op = p.op from rfl, HSO.out.2] at ho
      cases ho
end Go.Proofs.Ytdoibgmmijhlfaa
