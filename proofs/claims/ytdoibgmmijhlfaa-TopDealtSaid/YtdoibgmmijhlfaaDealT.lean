/- Walks: the deal's table: New, Stage, check. -/
import Derived.Test.YtdoibgmmijhlfaaDealE
import Derived.Outline
namespace Go.Proofs.Ytdoibgmmijhlfaa
open Go.ChangeShapes Go.WideShapes Go.ChangeAt Go.RowKit Go.Shelf
set_option linter.unusedVariables false
set_option linter.unusedSimpArgs false
/-- What is known of a player: has he sealed, has he opened; his seal, his draws. -/
structure PlM where
  so : Bool
  op : Bool
  sl : Int
  dv : Value
  dz : List Int
def plC (p : PlM) : List Value := [.bool p.so, .bool p.op, .int .u64 p.sl, p.dv]
def plsC (ps : List PlM) : List Value := ps.flatMap plC
theorem plsC_len (ps : List PlM) : (plsC ps).length = ps.length * 4 := by
  induction ps with
  | nil => rfl
  | cons p ps ih => simp [plsC, plC] at *; omega
theorem plsC_get : ∀ (ps : List PlM) (k j : Nat) (p : PlM), ps[k]? = some p → j < 4 → (plsC ps)[k * 4 + j]? = (plC p)[j]?
  | [], k, j, p, h, _ => by simp at h
  | a :: l, 0, j, p, h, hj => by
    simp only [List.getElem?_cons_zero, Option.some.injEq] at h
    subst h
    show (plC a ++ plsC l)[0 * 4 + j]? = _
    rw [List.getElem?_append_left (by simp [plC]; omega)]
    simp
  | a :: l, k + 1, j, p, h, hj => by
    show (plC a ++ plsC l)[(k + 1) * 4 + j]? = _
    rw [List.getElem?_append_right (by simp [plC]; omega), show (plC a).length = 4 from rfl, show (k + 1) * 4 + j - 4 = k * 4 + j by omega]
    exact plsC_get l k j p (by simpa using h) hj
theorem plsC_set : ∀ (ps : List PlM) (k j : Nat) (p q : PlM) (u : Value), ps[k]? = some p → j < 4 → (plC p).set j u = plC q → (plsC ps).set (k * 4 + j) u = plsC (ps.set k q)
  | [], k, j, p, q, u, h, _, _ => by simp at h
  | a :: l, 0, j, p, q, u, h, hj, hq => by
    simp only [List.getElem?_cons_zero, Option.some.injEq] at h
    subst h
    show (plC a ++ plsC l).set (0 * 4 + j) u = plC q ++ plsC l
    rw [List.set_append_left _ _ (by simp [plC]; omega), Nat.zero_mul, Nat.zero_add, hq]
  | a :: l, k + 1, j, p, q, u, h, hj, hq => by
    show (plC a ++ plsC l).set ((k + 1) * 4 + j) u = plC a ++ plsC (l.set k q)
    rw [List.set_append_right _ _ (by simp [plC]; omega), show (plC a).length = 4 from rfl, show (k + 1) * 4 + j - 4 = k * 4 + j by omega, plsC_set l k j p q u (by simpa using h) hj hq]
/-- A table in memory, newer than world w0: its block BT, its players' block g. -/
def TabAt (w0 W : World) (BT g : Nat) (ps : List PlM) : Prop :=
  Blk W BT 109 #[.int .i64 52, .slice (some ⟨g, 0, none⟩) ps.length ps.length, .int .i64 (-1)] ∧ Blk W g 113 (plsC ps).toArray ∧
  (∀ p ∈ ps, p.op = true → OwnZ w0 W p.dv p.dz) ∧ Ext w0 W ∧ w0.heap.size ≤ BT ∧ w0.heap.size ≤ g ∧ ps.length ≤ 6
theorem TabAt.ext {w0 w W : World} {BT g : Nat} {ps : List PlM} (h : TabAt w0 w BT g ps) (x : Ext w W) : TabAt w0 W BT g ps :=
  ⟨h.1.ext x, h.2.1.ext x, fun p hp ho => (h.2.2.1 p hp ho).ext x, ext_trans h.2.2.2.1 x, h.2.2.2.2⟩
theorem blk_pl {w : World} {g : Nat} {ps : List PlM} {k : Nat} {p : PlM} (h : Blk w g 113 (plsC ps).toArray) (hk : ps[k]? = some p) :
    w.cell? ⟨g, k * 4, none⟩ = some (.bool p.so) ∧ w.cell? ⟨g, k * 4 + 1, none⟩ = some (.bool p.op) ∧ w.cell? ⟨g, k * 4 + 2, none⟩ = some (.int .u64 p.sl) ∧ w.cell? ⟨g, k * 4 + 3, none⟩ = some p.dv := by
  have e : ∀ j, j < 4 → w.cell? ⟨g, k * 4 + j, none⟩ = (plC p)[j]? := fun j hj => by
    rw [h.cell, List.getElem?_toArray]
    exact plsC_get ps k j p hk hj
  exact ⟨e 0 (by omega), e 1 (by omega), e 2 (by omega), e 3 (by omega)⟩
set_option maxHeartbeats 1000000 in
set_option maxRecDepth 100000 in
theorem idx_pl (cl : FuncId) (q : PlM → Bool) (g : Nat) (ps : List PlM) (w : World) (h6 : ps.length ≤ 6) (hb : Blk w g 113 (plsC ps).toArray)
    (eg : ∀ args W, (callFunc cl args).run Try.prog W = .ok (.enter cl args) W) (hcl : ∀ (p : PlM) W, Calls Try.prog cl #[.agg #[.bool p.so, .bool p.op, .int .u64 p.sl, p.dv]] W fun e w' => e = .returned (.bool (q p)) ∧ Ext W w') :
    Calls Try.prog 122 #[.slice (some ⟨g, 0, none⟩) ps.length ps.length, .func (.func cl) #[] #[]] w fun e w' => ∃ r : Int, decide (0 ≤ r) = ps.any q ∧ e = .returned (.int .i64 r) ∧ Ext w w' := by
  have HC := hide hcl
  have HB := hide hb
  clear hcl hb
  go_enter Try.func122, Try.ntmps122
  go_wp2
  go_loopw [5, 8] (fun _ i wr => ∃ k : Nat, k ≤ ps.length ∧ i = .int .i64 k ∧ Hid (∀ j p, j < k → ps[j]? = some p → q p = false) ∧ Ext w wr) (fun _ i _ => ps.length - (intOf i).toNat)
  case atStart => exact ⟨0, Nat.zero_le _, rfl, hide (fun j p hj => by omega), Below.refl _ _⟩
  case round =>
    obtain ⟨k, hk, rfl, hall, hext⟩ := hrel
    by_cases hlt : k < ps.length
    · obtain ⟨p, hp⟩ : ∃ p, ps[k]? = some p := ⟨ps[k], List.getElem?_eq_getElem _⟩
      obtain ⟨c0, c1, c2, c3⟩ := blk_pl (HB.out.ext hext) hp
      have HM := hide (List.mem_of_getElem? hp)
      have HCALL := hide (HC.out p wr)
      have HSTEP : Hid (q p = false → ∀ j p', j < k + 1 → ps[j]? = some p' → q p' = false) := hide (fun h j p' hj hp' => by
        by_cases e : j = k
        · subst e; rw [hp] at hp'; injection hp' with hp'; subst hp'; exact h
        · exact hall.out j p' (by omega) hp')
      have i0 : (0 : Int) ≤ (k : Int) := by omega
      have i1 : (k : Int) < (ps.length : Int) := by omega
      have HK := hide hlt
      clear hall HC hp hlt hk
      generalize hpz : q p = pz at *
      have HPZ := hide hpz
      clear hpz
      go_wp2_with fail
      refine HCALL.out.mono ?_
      rintro e w1 ⟨rfl, y1⟩
      have Y1 := hide (ext_trans hext y1)
      clear c0 c1 c2 c3 y1 hext
      cases pz
      · go_wp2
        go_roundw
        case rel => exact ⟨k + 1, HK.out, by go_num, hide (HSTEP.out (by first | rfl | trivial)), Y1.out⟩
        case measure => have := HK.out; simp only [intOf, wrap64]; omega
      · go_wp2
        go_ret
        exact ⟨k, by
          have : ps.any q = true := List.any_eq_true.2 ⟨p, HM.out, HPZ.out⟩
          rw [this]; simp, rfl, Y1.out⟩
    · obtain rfl : k = ps.length := by omega
      have HB2 : Hid (ps.any q = false) := hide (by
        rw [List.any_eq_false]
        intro p hp
        obtain ⟨j, hj, rfl⟩ := List.mem_iff_getElem.1 hp
        have := hall.out j ps[j] hj (List.getElem?_eq_getElem hj)
        simpa using this)
      clear hall HC
      go_wp2
      go_ret
      exact ⟨-1, by rw [HB2.out]; simp, rfl, hext⟩
theorem has_pl (cl : FuncId) (q : PlM → Bool) (g : Nat) (ps : List PlM) (w : World) (h6 : ps.length ≤ 6) (hb : Blk w g 113 (plsC ps).toArray)
    (eg : ∀ args W, (callFunc cl args).run Try.prog W = .ok (.enter cl args) W) (hcl : ∀ (p : PlM) W, Calls Try.prog cl #[.agg #[.bool p.so, .bool p.op, .int .u64 p.sl, p.dv]] W fun e w' => e = .returned (.bool (q p)) ∧ Ext W w') :
    Calls Try.prog 86 #[.slice (some ⟨g, 0, none⟩) ps.length ps.length, .func (.func cl) #[] #[]] w fun e w' => e = .returned (.bool (ps.any q)) ∧ Ext w w' := by
  have HI := hide (idx_pl cl q g ps w h6 hb eg hcl)
  clear hb hcl eg
  generalize ps.any q = b at *
  go_enter Try.func86, Try.ntmps86
  go_wp2_with fail
  refine HI.out.mono ?_
  rintro e w1 ⟨r, hr, rfl, x1⟩
  have HR := hide hr
  clear hr
  go_wp2
  go_ret
  exact ⟨by rw [← HR.out]; rfl, x1⟩
theorem stage1 (p : PlM) (w : World) : Calls Try.prog 87 #[.agg #[.bool p.so, .bool p.op, .int .u64 p.sl, p.dv]] w fun e w' => e = .returned (.bool (!p.so)) ∧ Ext w w' := by
  obtain ⟨xa, k1⟩ := blks1 w #[.bool p.so, .bool p.op, .int .u64 p.sl, p.dv] 113
  have f := k1.cell
  have X := hide xa
  clear k1 xa
  go_enter Try.func87, Try.ntmps87
  go_wp2
  go_ret
  exact ⟨rfl, X.out⟩
theorem stage2 (p : PlM) (w : World) : Calls Try.prog 88 #[.agg #[.bool p.so, .bool p.op, .int .u64 p.sl, p.dv]] w fun e w' => e = .returned (.bool (!p.op)) ∧ Ext w w' := by
  obtain ⟨xa, k1⟩ := blks1 w #[.bool p.so, .bool p.op, .int .u64 p.sl, p.dv] 113
  have f := k1.cell
  have X := hide xa
  clear k1 xa
  go_enter Try.func88, Try.ntmps88
  go_wp2
  go_ret
  exact ⟨rfl, X.out⟩
def stageM (ps : List PlM) : Int := if ps.any (fun p => !p.so) then 0 else if ps.any (fun p => !p.op) then 1 else 2
set_option maxHeartbeats 1000000 in
set_option maxRecDepth 100000 in
theorem Stage_any {w0 W : World} {BT g : Nat} {ps : List PlM} (h : TabAt w0 W BT g ps) :
    Calls Try.prog 53 #[.pointer (some ⟨BT, 0, none⟩)] W fun e w' => e = .returned (.int .i64 (stageM ps)) ∧ Ext W w' := by
  have f := h.1.cell
  have H1 := hide (fun W' (x : Ext W W') => has_pl 87 (fun p => !p.so) g ps W' h.2.2.2.2.2.2 (h.2.1.ext x) (enters_of Try.func87 (by kernel_rfl) rfl) (fun p W => stage1 p W))
  have H2 := hide (fun W' (x : Ext W W') => has_pl 88 (fun p => !p.op) g ps W' h.2.2.2.2.2.2 (h.2.1.ext x) (enters_of Try.func88 (by kernel_rfl) rfl) (fun p W => stage2 p W))
  have HK := hide h.1
  have HS : Hid (stageM ps = if ps.any (fun p => !p.so) then 0 else if ps.any (fun p => !p.op) then 1 else 2) := hide rfl
  clear h
  generalize stageM ps = st at *
  generalize ps.any (fun p => !p.so) = b1 at *
  generalize ps.any (fun p => !p.op) = b2 at *
  go_enter Try.func53, Try.ntmps53
  go_wp2_with fail
  refine (H1.out _ (Below.refl _ _)).mono ?_
  rintro e w1 ⟨rfl, x1⟩
  cases b1
  · have f2 := (HK.out.ext x1).cell
    clear f
    go_wp2_with fail
    refine (H2.out _ x1).mono ?_
    rintro e w2 ⟨rfl, x2⟩
    cases b2
    · go_wp2
      go_ret
      exact ⟨by rw [HS.out]; rfl, ext_trans x1 x2⟩
    · go_wp2
      go_ret
      exact ⟨by rw [HS.out]; rfl, ext_trans x1 x2⟩
  · go_wp2
    go_ret
    exact ⟨by rw [HS.out]; rfl, x1⟩
theorem tcheck_ok {w0 W : World} {BT g : Nat} {ps : List PlM} (h : TabAt w0 W BT g ps) (k : Nat) (hk : k < ps.length) (s : Int) (hs : stageM ps = s) :
    Calls Try.prog 51 #[.pointer (some ⟨BT, 0, none⟩), .int .i64 (k : Int), .int .i64 s] W fun e w' => e = .returned (.int .i64 0) ∧ Ext W w' := by
  have f := h.1.cell
  have HST := hide (Stage_any h)
  rw [hs] at HST
  have t1 : decide ((ps.length : Int) ≤ (k : Int)) = false := by simp; omega
  have k0 : (0 : Int) ≤ (k : Int) := by omega
  have k1 : (k : Int) < (ps.length : Int) := by omega
  clear h hk hs
  go_enter Try.func51, Try.ntmps51
  go_wp2_with fail
  refine HST.out.mono ?_
  rintro e w1 ⟨rfl, x1⟩
  go_wp2
  go_ret
  exact ⟨rfl, x1⟩
end Go.Proofs.Ytdoibgmmijhlfaa
