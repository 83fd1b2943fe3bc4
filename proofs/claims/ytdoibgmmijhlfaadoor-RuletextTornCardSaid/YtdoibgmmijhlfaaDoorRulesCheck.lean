/- Walk: rules.Check. -/
import Derived.Test.YtdoibgmmijhlfaaDoorRulesW3
import Derived.Test.YtdoibgmmijhlfaaDoorGRules
import Derived.Test.YtdoibgmmijhlfaaDoorRulesW5
import Derived.Test.YtdoibgmmijhlfaaDoorGLibA
import Derived.Shelf.Abstract
namespace Go.Proofs.YtdoibgmmijhlfaaDoor
open Go.ChangeShapes Go.WideShapes Go.ChangeAt Go.RowKit Go.Shelf
set_option linter.unusedVariables false
theorem box11 {w W : World} {T : TypeId} {v0 v1 v2 v3 v4 v5 v6 v7 v8 v9 v10 : Value} (h : Ext (w.alloc (.cells #[v0, v1, v2, v3, v4, v5, v6, v7, v8, v9, v10] T)) W) :
    W.cell? ⟨w.heap.size, 0, none⟩ = some v0 ∧ W.cell? ⟨w.heap.size, 1, none⟩ = some v1 ∧ W.cell? ⟨w.heap.size, 2, none⟩ = some v2 ∧ W.cell? ⟨w.heap.size, 3, none⟩ = some v3 ∧ W.cell? ⟨w.heap.size, 4, none⟩ = some v4 ∧ W.cell? ⟨w.heap.size, 5, none⟩ = some v5 ∧ W.cell? ⟨w.heap.size, 6, none⟩ = some v6 ∧ W.cell? ⟨w.heap.size, 7, none⟩ = some v7 ∧ W.cell? ⟨w.heap.size, 8, none⟩ = some v8 ∧ W.cell? ⟨w.heap.size, 9, none⟩ = some v9 ∧ W.cell? ⟨w.heap.size, 10, none⟩ = some v10 :=
  ⟨Ext.cell h (new_cell w #[v0, v1, v2, v3, v4, v5, v6, v7, v8, v9, v10] T 0), Ext.cell h (new_cell w #[v0, v1, v2, v3, v4, v5, v6, v7, v8, v9, v10] T 1), Ext.cell h (new_cell w #[v0, v1, v2, v3, v4, v5, v6, v7, v8, v9, v10] T 2), Ext.cell h (new_cell w #[v0, v1, v2, v3, v4, v5, v6, v7, v8, v9, v10] T 3), Ext.cell h (new_cell w #[v0, v1, v2, v3, v4, v5, v6, v7, v8, v9, v10] T 4), Ext.cell h (new_cell w #[v0, v1, v2, v3, v4, v5, v6, v7, v8, v9, v10] T 5), Ext.cell h (new_cell w #[v0, v1, v2, v3, v4, v5, v6, v7, v8, v9, v10] T 6), Ext.cell h (new_cell w #[v0, v1, v2, v3, v4, v5, v6, v7, v8, v9, v10] T 7), Ext.cell h (new_cell w #[v0, v1, v2, v3, v4, v5, v6, v7, v8, v9, v10] T 8), Ext.cell h (new_cell w #[v0, v1, v2, v3, v4, v5, v6, v7, v8, v9, v10] T 9), Ext.cell h (new_cell w #[v0, v1, v2, v3, v4, v5, v6, v7, v8, v9, v10] T 10)⟩
/-- The closure in Check: a cell of the start is not in range. -/
theorem Check1_any (z : Int) (m c : Nat) (A : Option Addr) (B : Nat) (w : World) (hm : m ≤ 6) (hc : w.cell? ⟨B, 3, none⟩ = some (.slice A m c)) :
    Calls Tryd.prog 61 #[.int .i64 z, .pointer (some ⟨B, 0, none⟩)] w fun e w' => e = .returned (.bool (!inB z 0 (2 * (m : Int)))) ∧ Ext w w' := by
  go_enter Tryd.func61, Tryd.ntmps61
  go_wp2_with (go_at_call 58; refine (within_any _ _ _ _).mono ?_; rintro e w' ⟨rfl, rfl⟩)
  go_ret
  exact ⟨rfl, Below.refl _ _⟩
set_option maxHeartbeats 4000000 in
theorem Check_any (v : Value) (R : RulesM) (w : World) (hR : RulesAt w v R) : Calls Tryd.prog 23 #[v] w (ECode (rulesE R) w) := by
  obtain ⟨pA, pc, sA, sc, eA, ec, rfl, hp, hs, he, hpc, hsc, hec, hnm⟩ := hR
  have x1 : Ext w (w.alloc (.cells #[.string R.name, .int .i64 R.width, .int .i64 R.height, .slice pA R.pieces.length pc, .slice sA R.start.length sc, .bool R.falls, .bool R.keeps, .slice eA R.ends.length ec, .int .i64 R.blocked, .int .i64 R.quiet, .int .i64 R.rept] 26)) := ext_alloc (Below.refl _ _) _
  cases hn : nameB R.name
  · have HF : Hid (rulesE R = 6) := hide (by simp [rulesE, hn])
    go_enter Tryd.func23, Tryd.ntmps23
    go_wp2_with (go_at_call 57; refine (Name_any _ _ hnm).mono ?_; rintro e w' ⟨rfl, rfl⟩)
    go_ret
    exact ⟨by rw [HF.out]; rfl, x1⟩
  cases hwd : inB R.width 1 8
  · have HF : Hid (rulesE R = 4) := hide (by simp [rulesE, hn, hwd])
    go_enter Tryd.func23, Tryd.ntmps23
    go_wp2_with (first | (go_at_call 57; refine (Name_any _ _ hnm).mono ?_; rintro e w' ⟨rfl, rfl⟩) | (go_at_call 58; refine (within_any _ _ _ _).mono ?_; rintro e w' ⟨rfl, rfl⟩))
    go_ret
    exact ⟨by rw [HF.out]; rfl, x1⟩
  cases hht : inB R.height 1 8
  · have HF : Hid (rulesE R = 4) := hide (by simp [rulesE, hn, hwd, hht])
    go_enter Tryd.func23, Tryd.ntmps23
    go_wp2_with (first | (go_at_call 57; refine (Name_any _ _ hnm).mono ?_; rintro e w' ⟨rfl, rfl⟩) | (go_at_call 58; refine (within_any _ _ _ _).mono ?_; rintro e w' ⟨rfl, rfl⟩))
    go_ret
    exact ⟨by rw [HF.out]; rfl, x1⟩
  have hwb : 1 ≤ R.width ∧ R.width ≤ 8 := by simpa [inB] using hwd
  have hhb : 1 ≤ R.height ∧ R.height ≤ 8 := by simpa [inB] using hht
  have HR : Hid (rulesE R = if piecesE R.pieces ≠ 0 then piecesE R.pieces else if (R.start.length : Int) ≠ R.width * R.height then 3 else if !(R.start.all fun c => inB c 0 (2 * R.pieces.length)) then 4 else if endsE R.pieces.length R.ends ≠ 0 then endsE R.pieces.length R.ends else if lastB R then 0 else 4) := hide (by simp [rulesE, hn, hwd, hht])
  have HPC : Hid (∀ W, Ext w W → Calls Tryd.prog 59 #[.agg #[.string R.name, .int .i64 R.width, .int .i64 R.height, .slice pA R.pieces.length pc, .slice sA R.start.length sc, .bool R.falls, .bool R.keeps, .slice eA R.ends.length ec, .int .i64 R.blocked, .int .i64 R.quiet, .int .i64 R.rept]] W (Code (piecesE R.pieces) W)) := hide (fun W hW => by
    by_cases h0 : R.pieces.length = 0
    · have : piecesE R.pieces = 8 := by simp [piecesE, h0]
      rw [this, h0]
      exact pieces_none _ _ _ _ _ _ _ _ _ _ _ _ _
    · by_cases h6 : 6 < R.pieces.length
      · have : piecesE R.pieces = 2 := by simp [piecesE, h6, h0]
        rw [this]
        exact pieces_many _ _ _ _ _ _ _ _ _ _ _ _ _ _ h6
      · exact pieces_any _ _ _ _ _ _ _ _ _ _ _ _ _ R.pieces _ rfl (by omega) (by omega) hpc (hp.ext hW))
  have hps : piecesE R.pieces = 0 → 1 ≤ R.pieces.length ∧ R.pieces.length ≤ 6 := by
    intro h
    unfold piecesE at h
    by_cases h0 : R.pieces.length = 0
    · rw [if_pos h0] at h; omega
    · by_cases h6 : 6 < R.pieces.length
      · rw [if_neg h0, if_pos h6] at h; omega
      · omega
  by_cases hpe : piecesE R.pieces = 0
  rotate_left
  · have HF : Hid (rulesE R = piecesE R.pieces) := hide (by rw [HR.out, if_pos hpe])
    have hpe' : (piecesE R.pieces != 0) = true := by simpa using hpe
    clear hps HR hpe
    generalize piecesE R.pieces = E at *
    go_enter Tryd.func23, Tryd.ntmps23
    go_wp2_with (first | (go_at_call 57; refine (Name_any _ _ hnm).mono ?_; rintro e w' ⟨rfl, rfl⟩) | (go_at_call 58; refine (within_any _ _ _ _).mono ?_; rintro e w' ⟨rfl, rfl⟩))
    refine (HPC.out _ x1).mono ?_
    rintro e w2 ⟨rfl, x2⟩
    obtain ⟨g0, g1, g2, g3, g4, g5, g6, g7, g8, g9, g10⟩ := box11 x2
    have X2 := ext_trans x1 x2
    go_wp2
    go_ret
    exact ⟨by rw [HF.out]; rfl, X2⟩
  obtain ⟨hp1, hp6⟩ := hps hpe
  have HR2 := HR.out
  rw [if_neg (fun h => h hpe)] at HR2
  rw [hpe] at HPC
  have har : R.width * R.height ≤ 64 := by
    have : R.width * R.height ≤ 8 * 8 := Int.mul_le_mul (by omega) (by omega) (by omega) (by omega)
    omega
  have har0 : 0 ≤ R.width * R.height := Int.mul_nonneg (by omega) (by omega)
  clear hps HR hpe
  by_cases hln : (R.start.length : Int) = R.width * R.height
  rotate_left
  · have HF : Hid (rulesE R = 3) := hide (by rw [HR2, if_pos hln])
    clear HR2
    go_enter Tryd.func23, Tryd.ntmps23
    go_wp2_with (first | (go_at_call 57; refine (Name_any _ _ hnm).mono ?_; rintro e w' ⟨rfl, rfl⟩) | (go_at_call 58; refine (within_any _ _ _ _).mono ?_; rintro e w' ⟨rfl, rfl⟩))
    refine (HPC.out _ x1).mono ?_
    rintro e w2 ⟨rfl, x2⟩
    obtain ⟨g0, g1, g2, g3, g4, g5, g6, g7, g8, g9, g10⟩ := box11 x2
    have X2 := ext_trans x1 x2
    go_wp2
    go_ret
    exact ⟨by rw [HF.out]; rfl, X2⟩
  rw [if_neg (fun h => h hln)] at HR2
  have hln1 : R.start.length ≤ 64 := by omega
  have hln2 : (R.start.length : Int) ≤ R.width * R.height := by omega
  have hln3 : R.width * R.height ≤ R.start.length := by omega
  have HAS : Hid (∀ B W, Ext w W → W.cell? ⟨B, 3, none⟩ = some (.slice pA R.pieces.length pc) → Calls Tryd.prog 60 #[.slice sA R.start.length sc, .func (.func 61) #[] #[.pointer (some ⟨B, 0, none⟩)]] W fun e w' => e = .returned (.bool (!(R.start.all fun c => inB c 0 (2 * R.pieces.length)))) ∧ Ext W w') := hide (fun B W hW hc => by
    have := hasInts_one 61 (.pointer (some ⟨B, 0, none⟩)) (fun z => !inB z 0 (2 * (R.pieces.length : Int))) sA R.start.length sc R.start W rfl (by omega) (hs.ext hW) (enters_of Tryd.func61 (by kernel_rfl) rfl) (fun z W' hW' => Check1_any z _ pc pA B W' hp6 (Ext.cell hW' hc))
    rw [List.not_all_eq_any_not]
    exact this)
  have HEN : Hid (∀ W, Ext w W → Calls Tryd.prog 62 #[.agg #[.string R.name, .int .i64 R.width, .int .i64 R.height, .slice pA R.pieces.length pc, .slice sA R.start.length sc, .bool R.falls, .bool R.keeps, .slice eA R.ends.length ec, .int .i64 R.blocked, .int .i64 R.quiet, .int .i64 R.rept]] W (ECode (endsE R.pieces.length R.ends) W)) := hide (fun W hW => by
    by_cases h6 : 6 < R.ends.length
    · have : endsE R.pieces.length R.ends = 2 := by simp [endsE, h6]
      rw [this]
      exact conds_many _ _ _ _ _ _ _ _ _ _ _ _ _ _ h6
    · exact conds_any _ _ _ _ _ _ _ _ _ _ _ _ _ _ _ R.ends _ rfl (by omega) (by omega) (by omega) (CellsAt.ext he hW))
  clear hln hp hs he
  cases hst : (R.start.all fun c => inB c 0 (2 * R.pieces.length))
  · have HF : Hid (rulesE R = 4) := hide (by rw [HR2, if_pos (by rw [hst]; rfl)])
    rw [hst] at HAS
    clear HR2 hst HEN
    go_enter Tryd.func23, Tryd.ntmps23
    go_wp2_with (first | (go_at_call 57; refine (Name_any _ _ hnm).mono ?_; rintro e w' ⟨rfl, rfl⟩) | (go_at_call 58; refine (within_any _ _ _ _).mono ?_; rintro e w' ⟨rfl, rfl⟩))
    refine (HPC.out _ x1).mono ?_
    rintro e w2 ⟨rfl, x2⟩
    obtain ⟨g0, g1, g2, g3, g4, g5, g6, g7, g8, g9, g10⟩ := box11 x2
    have X2 := ext_trans x1 x2
    go_wp2_with fail
    refine (HAS.out _ _ X2 g3).mono ?_
    rintro e w3 ⟨rfl, x3⟩
    go_wp2
    go_ret
    exact ⟨by rw [HF.out]; rfl, ext_trans X2 x3⟩
  rw [if_neg (by rw [hst]; simp)] at HR2
  rw [hst] at HAS
  clear hst
  by_cases hee : endsE R.pieces.length R.ends = 0
  rotate_left
  · have HF : Hid (rulesE R = endsE R.pieces.length R.ends) := hide (by rw [HR2, if_pos hee])
    have hee' : (endsE R.pieces.length R.ends != 0) = true := by simpa using hee
    clear HR2 hee
    generalize endsE R.pieces.length R.ends = E at *
    go_enter Tryd.func23, Tryd.ntmps23
    go_wp2_with (first | (go_at_call 57; refine (Name_any _ _ hnm).mono ?_; rintro e w' ⟨rfl, rfl⟩) | (go_at_call 58; refine (within_any _ _ _ _).mono ?_; rintro e w' ⟨rfl, rfl⟩))
    refine (HPC.out _ x1).mono ?_
    rintro e w2 ⟨rfl, x2⟩
    obtain ⟨g0, g1, g2, g3, g4, g5, g6, g7, g8, g9, g10⟩ := box11 x2
    have X2 := ext_trans x1 x2
    go_wp2_with fail
    refine (HAS.out _ _ X2 g3).mono ?_
    rintro e w3 ⟨rfl, x3⟩
    clear g0 g1 g2 g3 g4 g5 g6 g7 g8 g9 g10
    obtain ⟨g0, g1, g2, g3, g4, g5, g6, g7, g8, g9, g10⟩ := box11 (ext_trans x2 x3)
    go_wp2_with fail
    refine (HEN.out _ (ext_trans X2 x3)).mono ?_
    rintro e w4 ⟨rfl, x4⟩
    clear g0 g1 g2 g3 g4 g5 g6 g7 g8 g9 g10
    obtain ⟨g0, g1, g2, g3, g4, g5, g6, g7, g8, g9, g10⟩ := box11 (ext_trans (ext_trans x2 x3) x4)
    go_wp2
    go_ret
    exact ⟨by rw [HF.out]; rfl, ext_trans (ext_trans X2 x3) x4⟩
  rw [if_neg (fun h => h hee)] at HR2
  rw [hee] at HEN
  clear hee
  cases hb : inB R.blocked 0 2
  · skip
    have HF : Hid (rulesE R = 4) := hide (by rw [HR2]; simp [lastB, hb])
    clear HR2
    go_enter Tryd.func23, Tryd.ntmps23
    go_wp2_with (first | (go_at_call 57; refine (Name_any _ _ hnm).mono ?_; rintro e w' ⟨rfl, rfl⟩) | (go_at_call 58; refine (within_any _ _ _ _).mono ?_; rintro e w' ⟨rfl, rfl⟩))
    refine (HPC.out _ x1).mono ?_
    rintro e w2 ⟨rfl, x2⟩
    obtain ⟨g0, g1, g2, g3, g4, g5, g6, g7, g8, g9, g10⟩ := box11 x2
    have X2 := ext_trans x1 x2
    go_wp2_with fail
    refine (HAS.out _ _ X2 g3).mono ?_
    rintro e w3 ⟨rfl, x3⟩
    clear g0 g1 g2 g3 g4 g5 g6 g7 g8 g9 g10
    obtain ⟨g0, g1, g2, g3, g4, g5, g6, g7, g8, g9, g10⟩ := box11 (ext_trans x2 x3)
    go_wp2_with fail
    refine (HEN.out _ (ext_trans X2 x3)).mono ?_
    rintro e w4 ⟨rfl, x4⟩
    clear g0 g1 g2 g3 g4 g5 g6 g7 g8 g9 g10
    obtain ⟨g0, g1, g2, g3, g4, g5, g6, g7, g8, g9, g10⟩ := box11 (ext_trans (ext_trans x2 x3) x4)
    go_wp2_with (go_at_call 58; refine (within_any _ _ _ _).mono ?_; rintro e w' ⟨rfl, rfl⟩)
    go_ret
    exact ⟨by rw [HF.out]; rfl, ext_trans (ext_trans X2 x3) x4⟩
  cases hq : inB R.quiet 0 200
  · skip
    have HF : Hid (rulesE R = 4) := hide (by rw [HR2]; simp [lastB, hb, hq])
    clear HR2
    go_enter Tryd.func23, Tryd.ntmps23
    go_wp2_with (first | (go_at_call 57; refine (Name_any _ _ hnm).mono ?_; rintro e w' ⟨rfl, rfl⟩) | (go_at_call 58; refine (within_any _ _ _ _).mono ?_; rintro e w' ⟨rfl, rfl⟩))
    refine (HPC.out _ x1).mono ?_
    rintro e w2 ⟨rfl, x2⟩
    obtain ⟨g0, g1, g2, g3, g4, g5, g6, g7, g8, g9, g10⟩ := box11 x2
    have X2 := ext_trans x1 x2
    go_wp2_with fail
    refine (HAS.out _ _ X2 g3).mono ?_
    rintro e w3 ⟨rfl, x3⟩
    clear g0 g1 g2 g3 g4 g5 g6 g7 g8 g9 g10
    obtain ⟨g0, g1, g2, g3, g4, g5, g6, g7, g8, g9, g10⟩ := box11 (ext_trans x2 x3)
    go_wp2_with fail
    refine (HEN.out _ (ext_trans X2 x3)).mono ?_
    rintro e w4 ⟨rfl, x4⟩
    clear g0 g1 g2 g3 g4 g5 g6 g7 g8 g9 g10
    obtain ⟨g0, g1, g2, g3, g4, g5, g6, g7, g8, g9, g10⟩ := box11 (ext_trans (ext_trans x2 x3) x4)
    go_wp2_with (go_at_call 58; refine (within_any _ _ _ _).mono ?_; rintro e w' ⟨rfl, rfl⟩)
    go_ret
    exact ⟨by rw [HF.out]; rfl, ext_trans (ext_trans X2 x3) x4⟩
  by_cases hr0 : R.rept = 0
  · have t0 : (R.rept == 0) = true := by simpa using hr0
    have t0' : (R.rept != 0) = false := by simpa using hr0
    have HF : Hid (rulesE R = 0) := hide (by rw [HR2]; simp [lastB, hb, hq, hr0])
    clear HR2
    clear hr0
    go_enter Tryd.func23, Tryd.ntmps23
    go_wp2_with (first | (go_at_call 57; refine (Name_any _ _ hnm).mono ?_; rintro e w' ⟨rfl, rfl⟩) | (go_at_call 58; refine (within_any _ _ _ _).mono ?_; rintro e w' ⟨rfl, rfl⟩))
    refine (HPC.out _ x1).mono ?_
    rintro e w2 ⟨rfl, x2⟩
    obtain ⟨g0, g1, g2, g3, g4, g5, g6, g7, g8, g9, g10⟩ := box11 x2
    have X2 := ext_trans x1 x2
    go_wp2_with fail
    refine (HAS.out _ _ X2 g3).mono ?_
    rintro e w3 ⟨rfl, x3⟩
    clear g0 g1 g2 g3 g4 g5 g6 g7 g8 g9 g10
    obtain ⟨g0, g1, g2, g3, g4, g5, g6, g7, g8, g9, g10⟩ := box11 (ext_trans x2 x3)
    go_wp2_with fail
    refine (HEN.out _ (ext_trans X2 x3)).mono ?_
    rintro e w4 ⟨rfl, x4⟩
    clear g0 g1 g2 g3 g4 g5 g6 g7 g8 g9 g10
    obtain ⟨g0, g1, g2, g3, g4, g5, g6, g7, g8, g9, g10⟩ := box11 (ext_trans (ext_trans x2 x3) x4)
    go_wp2_with (go_at_call 58; refine (within_any _ _ _ _).mono ?_; rintro e w' ⟨rfl, rfl⟩)
    go_ret
    exact ⟨by rw [HF.out]; rfl, ext_trans (ext_trans X2 x3) x4⟩
  have t0 : (R.rept == 0) = false := by simpa using hr0
  have t0' : (R.rept != 0) = true := by simpa using hr0
  cases hr : inB R.rept 2 5
  · skip
    have HF : Hid (rulesE R = 4) := hide (by rw [HR2]; simp [lastB, hb, hq, hr0, hr])
    clear HR2
    clear hr0
    go_enter Tryd.func23, Tryd.ntmps23
    go_wp2_with (first | (go_at_call 57; refine (Name_any _ _ hnm).mono ?_; rintro e w' ⟨rfl, rfl⟩) | (go_at_call 58; refine (within_any _ _ _ _).mono ?_; rintro e w' ⟨rfl, rfl⟩))
    refine (HPC.out _ x1).mono ?_
    rintro e w2 ⟨rfl, x2⟩
    obtain ⟨g0, g1, g2, g3, g4, g5, g6, g7, g8, g9, g10⟩ := box11 x2
    have X2 := ext_trans x1 x2
    go_wp2_with fail
    refine (HAS.out _ _ X2 g3).mono ?_
    rintro e w3 ⟨rfl, x3⟩
    clear g0 g1 g2 g3 g4 g5 g6 g7 g8 g9 g10
    obtain ⟨g0, g1, g2, g3, g4, g5, g6, g7, g8, g9, g10⟩ := box11 (ext_trans x2 x3)
    go_wp2_with fail
    refine (HEN.out _ (ext_trans X2 x3)).mono ?_
    rintro e w4 ⟨rfl, x4⟩
    clear g0 g1 g2 g3 g4 g5 g6 g7 g8 g9 g10
    obtain ⟨g0, g1, g2, g3, g4, g5, g6, g7, g8, g9, g10⟩ := box11 (ext_trans (ext_trans x2 x3) x4)
    go_wp2_with (go_at_call 58; refine (within_any _ _ _ _).mono ?_; rintro e w' ⟨rfl, rfl⟩)
    go_ret
    exact ⟨by rw [HF.out]; rfl, ext_trans (ext_trans X2 x3) x4⟩
  · skip
    have HF : Hid (rulesE R = 0) := hide (by rw [HR2]; simp [lastB, hb, hq, hr0, hr])
    clear HR2
    clear hr0
    go_enter Tryd.func23, Tryd.ntmps23
    go_wp2_with (first | (go_at_call 57; refine (Name_any _ _ hnm).mono ?_; rintro e w' ⟨rfl, rfl⟩) | (go_at_call 58; refine (within_any _ _ _ _).mono ?_; rintro e w' ⟨rfl, rfl⟩))
    refine (HPC.out _ x1).mono ?_
    rintro e w2 ⟨rfl, x2⟩
    obtain ⟨g0, g1, g2, g3, g4, g5, g6, g7, g8, g9, g10⟩ := box11 x2
    have X2 := ext_trans x1 x2
    go_wp2_with fail
    refine (HAS.out _ _ X2 g3).mono ?_
    rintro e w3 ⟨rfl, x3⟩
    clear g0 g1 g2 g3 g4 g5 g6 g7 g8 g9 g10
    obtain ⟨g0, g1, g2, g3, g4, g5, g6, g7, g8, g9, g10⟩ := box11 (ext_trans x2 x3)
    go_wp2_with fail
    refine (HEN.out _ (ext_trans X2 x3)).mono ?_
    rintro e w4 ⟨rfl, x4⟩
    clear g0 g1 g2 g3 g4 g5 g6 g7 g8 g9 g10
    obtain ⟨g0, g1, g2, g3, g4, g5, g6, g7, g8, g9, g10⟩ := box11 (ext_trans (ext_trans x2 x3) x4)
    go_wp2_with (go_at_call 58; refine (within_any _ _ _ _).mono ?_; rintro e w' ⟨rfl, rfl⟩)
    go_ret
    exact ⟨by rw [HF.out]; rfl, ext_trans (ext_trans X2 x3) x4⟩
end Go.Proofs.YtdoibgmmijhlfaaDoor
