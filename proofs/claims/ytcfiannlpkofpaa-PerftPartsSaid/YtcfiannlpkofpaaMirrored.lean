/- RulesMirrored: rules that are mirrored twice are the rules, and mirrored rules are valid. Holds for every input; no condition. -/
import Derived.Test.YtcfiannlpkofpaaMirror
import Derived.Test.YtcfiannlpkofpaaGThree
import Derived.Test.YtcfiannlpkofpaaGLibB
namespace Go.Proofs.Ytcfiannlpkofpaa
open Go.ChangeShapes Go.WideShapes Go.ChangeAt Go.RowKit
set_option linter.unusedVariables false
theorem movedL_map {a b s : Int} (f : Int → Int) (cells : List Int) (h : okSide a b) (hs : okSym a b s) (hl : (cells.length : Int) = a * b) : movedL a b s (cells.map f) = (movedL a b s cells).map f := by
  apply List.ext_getElem
  · simp [movedL_length]
  · intro j h1 h2
    have hj : j < cells.length := by simpa [movedL_length] using h1
    have hb := toL_bd (q := (j : Int)) h (inv_ok hs) (by omega) (by omega)
    obtain ⟨i, hi⟩ := Int.eq_ofNat_of_zero_le hb.1
    have hij : i < cells.length := by omega
    have e1 := movedL_getD a b s (cells.map f) (j := j) (by rw [List.length_map]; exact hj)
    have e2 := movedL_getD a b s cells hj
    rw [hi, Int.toNat_natCast] at e1 e2
    have g1 : (movedL a b s (cells.map f)).getD j 0 = (movedL a b s (cells.map f))[j] := by simp [h1]
    have g2 : (movedL a b s cells).getD j 0 = (movedL a b s cells)[j]'(by rw [movedL_length]; exact hj) := by simp [movedL_length, hj]
    rw [g1] at e1
    rw [g2] at e2
    rw [e1, List.getElem_map, e2]
    simp [hij]
theorem movedL_mem {a b s : Int} {cells : List Int} {c : Int} (h : okSide a b) (hs : okSym a b s) (hl : (cells.length : Int) = a * b) (hc : c ∈ movedL a b s cells) : c ∈ cells := by
  obtain ⟨j, hj, rfl⟩ := List.mem_iff_getElem.1 hc
  have hj' : j < cells.length := by rw [movedL_length] at hj; exact hj
  have hb := toL_bd (q := (j : Int)) h (inv_ok hs) (by omega) (by omega)
  obtain ⟨i, hi⟩ := Int.eq_ofNat_of_zero_le hb.1
  have hij : i < cells.length := by omega
  have e2 := movedL_getD a b s cells hj'
  rw [hi, Int.toNat_natCast] at e2
  have g2 : (movedL a b s cells).getD j 0 = (movedL a b s cells)[j] := by simp [hj]
  rw [g2] at e2
  rw [e2]
  have : cells.getD i 0 = cells[i] := by simp [hij]
  rw [this]
  exact List.getElem_mem _
theorem turn_turn {a b : Int} {cells : List Int} (h : okSide a b) (hl : (cells.length : Int) = a * b) (h0 : ∀ c ∈ cells, 0 ≤ c) : turnCells a b (turnCells a b cells) = cells := by
  unfold turnCells
  have hm : ((cells.map flipC).length : Int) = a * b := by rw [List.length_map]; exact hl
  rw [← movedL_map flipC _ h okSym_two hm, movedL_comp h okSym_two okSym_two (by rw [List.length_map]; exact hm)]
  rw [show compL 2 2 = 0 from by decide +kernel, movedL_zero, List.map_map]
  have : ∀ c ∈ cells, (flipC ∘ flipC) c = id c := fun c hc => flipC_flipC c (h0 c hc)
  rw [List.map_congr_left this, List.map_id]
theorem turn_bd {a b m : Int} {cells : List Int} {c : Int} (h : okSide a b) (hl : (cells.length : Int) = a * b) (h0 : ∀ c ∈ cells, 0 ≤ c ∧ c ≤ 2 * m) (hc : c ∈ turnCells a b cells) : 0 ≤ c ∧ c ≤ 2 * m := by
  unfold turnCells at hc
  have := movedL_mem h okSym_two (by rw [List.length_map]; exact hl) hc
  obtain ⟨d, hd, rfl⟩ := List.mem_map.1 this
  exact flipC_bd d m (h0 d hd).1 (h0 d hd).2
theorem valid_mirror {R : RulesM} (h : Valid R) : Valid (mirrorR R) :=
  ⟨h.name, h.side, h.pieces0, h.pieces6, h.piece, by show ((turnCells R.width R.height R.start).length : Int) = _; rw [turnCells_length]; exact h.area, fun c hc => turn_bd h.side h.area h.start hc, h.ends6, h.ende, h.last⟩
theorem mirror_mirror {R : RulesM} (h : Valid R) : mirrorR (mirrorR R) = R := by
  unfold mirrorR
  rw [turn_turn h.side h.area (fun c hc => (h.start c hc).1)]
def tryR : RulesM := { threeR with start := [1, 0, 0, 0, 0, 0, 0, 0, 2] }
theorem valid_try : Valid tryR := valid_of (by decide +kernel)
theorem turn_try : turnCells 3 3 [1, 0, 0, 0, 0, 0, 0, 0, 2] = [0, 0, 1, 0, 0, 0, 2, 0, 0] := by decide +kernel
set_option maxHeartbeats 2000000 in
set_option maxRecDepth 100000 in
theorem mirrored_walk (v : Value) (R : RulesM) (w : World) (hR : RulesAt w v R) :
    Calls Try.prog 3 #[v] w fun e w' => e = .returned (.bool true) ∧ Ext w w' := by
  have HR := hide hR
  obtain ⟨pA, pc, sA, sc, eA, ec, rfl, -⟩ := hR
  go_enter Try.func3, Try.ntmps3
  go_wp2_with fail
  refine (three_any _).mono ?_
  rintro e w2 ⟨v3, rfl, ⟨pA3, pc3, sA3, sc3, eA3, ec3, hv3, hp3, hs3, he3, hpc3, hsc3, hec3, hnm3⟩, x2⟩
  have hv3' : v3 = .agg #[.string ⟨#[84, 73, 67]⟩, .int .i64 3, .int .i64 3, .slice pA3 1 pc3, .slice sA3 9 sc3, .bool false, .bool false, .slice eA3 1 ec3, .int .i64 2, .int .i64 0, .int .i64 0] := hv3
  subst hv3'
  clear hv3
  have x2' := ext_trans (ext_alloc (Below.refl w.heap.size w) (.cells #[.string R.name, .int .i64 R.width, .int .i64 R.height, .slice pA R.pieces.length pc, .slice sA R.start.length sc, .bool R.falls, .bool R.keeps, .slice eA R.ends.length ec, .int .i64 R.blocked, .int .i64 R.quiet, .int .i64 R.rept] 26)) x2
  have k1 := (Blk.new w 26 #[.string R.name, .int .i64 R.width, .int .i64 R.height, .slice pA R.pieces.length pc, .slice sA R.start.length sc, .bool R.falls, .bool R.keeps, .slice eA R.ends.length ec, .int .i64 R.blocked, .int .i64 R.quiet, .int .i64 R.rept]).ext x2
  clear x2
  generalize hB1 : w.heap.size = B1 at *
  have HB1 := hide hB1
  clear hB1
  have cS := cellsAt_new (w2.alloc (.cells #[.string ⟨#[84, 73, 67]⟩, .int .i64 3, .int .i64 3, .slice pA3 1 pc3, .slice (some ⟨w2.heap.size + 1, 0, none⟩) 9 9, .bool false, .bool false, .slice eA3 1 ec3, .int .i64 2, .int .i64 0, .int .i64 0] 26)) 3 [.int .i64 1, .int .i64 0, .int .i64 0, .int .i64 0, .int .i64 0, .int .i64 0, .int .i64 0, .int .i64 0, .int .i64 2]
  have sS : (w2.alloc (.cells #[.string ⟨#[84, 73, 67]⟩, .int .i64 3, .int .i64 3, .slice pA3 1 pc3, .slice (some ⟨w2.heap.size + 1, 0, none⟩) 9 9, .bool false, .bool false, .slice eA3 1 ec3, .int .i64 2, .int .i64 0, .int .i64 0] 26)).heap.size = w2.heap.size + 1 := by simp
  rw [sS] at cS
  have y3 : Ext w2 ((w2.alloc (.cells #[.string ⟨#[84, 73, 67]⟩, .int .i64 3, .int .i64 3, .slice pA3 1 pc3, .slice (some ⟨w2.heap.size + 1, 0, none⟩) 9 9, .bool false, .bool false, .slice eA3 1 ec3, .int .i64 2, .int .i64 0, .int .i64 0] 26)).alloc (.cells #[.int .i64 1, .int .i64 0, .int .i64 0, .int .i64 0, .int .i64 0, .int .i64 0, .int .i64 0, .int .i64 0, .int .i64 2] 3)) := ext_alloc (ext_alloc (Below.refl _ _) _) _
  have kx := (Blk.new w2 26 #[.string ⟨#[84, 73, 67]⟩, .int .i64 3, .int .i64 3, .slice pA3 1 pc3, .slice (some ⟨w2.heap.size + 1, 0, none⟩) 9 9, .bool false, .bool false, .slice eA3 1 ec3, .int .i64 2, .int .i64 0, .int .i64 0]).alloc (.cells #[.int .i64 1, .int .i64 0, .int .i64 0, .int .i64 0, .int .i64 0, .int .i64 0, .int .i64 0, .int .i64 0, .int .i64 2] 3)
  have HRX : Hid (RulesAt ((w2.alloc (.cells #[.string ⟨#[84, 73, 67]⟩, .int .i64 3, .int .i64 3, .slice pA3 1 pc3, .slice (some ⟨w2.heap.size + 1, 0, none⟩) 9 9, .bool false, .bool false, .slice eA3 1 ec3, .int .i64 2, .int .i64 0, .int .i64 0] 26)).alloc (.cells #[.int .i64 1, .int .i64 0, .int .i64 0, .int .i64 0, .int .i64 0, .int .i64 0, .int .i64 0, .int .i64 0, .int .i64 2] 3)) (.agg #[.string ⟨#[84, 73, 67]⟩, .int .i64 3, .int .i64 3, .slice pA3 1 pc3, .slice (some ⟨w2.heap.size + 1, 0, none⟩) 9 9, .bool false, .bool false, .slice eA3 1 ec3, .int .i64 2, .int .i64 0, .int .i64 0]) tryR) := hide ⟨pA3, pc3, some ⟨w2.heap.size + 1, 0, none⟩, 9, eA3, ec3, rfl, hp3.ext y3, cells_ints cS, CellsAt.ext he3 y3, hpc3, by decide, hec3, hnm3⟩
  have k1b := k1.ext y3
  have x3' := ext_trans x2' y3
  clear cS sS y3 k1 x2' hp3 hs3 he3 hpc3 hsc3 hec3 hnm3
  go_wp2_with fail
  generalize (w2.alloc (.cells #[.string ⟨#[84, 73, 67]⟩, .int .i64 3, .int .i64 3, .slice pA3 1 pc3, .slice (some ⟨w2.heap.size + 1, 0, none⟩) 9 9, .bool false, .bool false, .slice eA3 1 ec3, .int .i64 2, .int .i64 0, .int .i64 0] 26)).alloc (.cells #[.int .i64 1, .int .i64 0, .int .i64 0, .int .i64 0, .int .i64 0, .int .i64 0, .int .i64 0, .int .i64 0, .int .i64 2] 3) = w3 at *
  generalize w2.heap.size + 1 = B3 at *
  generalize w2.heap.size = B2 at *
  refine (Mirror_yes _ tryR _ HRX.out valid_try).mono ?_
  rintro e w4 ⟨v4, rfl, ⟨pA4, pc4, sA4, sc4, eA4, ec4, hv4, hp4, hs4, he4, -⟩, x4⟩
  have hv4' : v4 = .agg #[.string ⟨#[84, 73, 67]⟩, .int .i64 3, .int .i64 3, .slice pA4 1 pc4, .slice sA4 9 sc4, .bool false, .bool false, .slice eA4 1 ec4, .int .i64 2, .int .i64 0, .int .i64 0] := hv4
  subst hv4'
  have hs4' : IntsAt w4 sA4 [0, 0, 1, 0, 0, 0, 2, 0, 0] := by
    have h := hs4
    rw [show (mirrorR tryR).start = [0, 0, 1, 0, 0, 0, 2, 0, 0] from turn_try] at h
    exact h
  have HRX4 := hide (HRX.out.ext x4)
  have k1c := k1b.ext x4
  have kx4 := kx.ext x4
  have x4' := ext_trans x3' x4
  clear hv4 hs4 hp4 he4 x4 k1b kx x3' HRX
  go_wp2_with fail
  have y4 : Ext w4 ((w4.alloc (.cells #[.string ⟨#[84, 73, 67]⟩, .int .i64 3, .int .i64 3, .slice pA4 1 pc4, .slice sA4 9 sc4, .bool false, .bool false, .slice eA4 1 ec4, .int .i64 2, .int .i64 0, .int .i64 0] 26)).alloc (.cells #[.int .i64 0, .int .i64 0, .int .i64 1, .int .i64 0, .int .i64 0, .int .i64 0, .int .i64 2, .int .i64 0, .int .i64 0] 3)) := ext_alloc (ext_alloc (Below.refl _ _) _) _
  have iM := intsAt_new (w4.alloc (.cells #[.string ⟨#[84, 73, 67]⟩, .int .i64 3, .int .i64 3, .slice pA4 1 pc4, .slice sA4 9 sc4, .bool false, .bool false, .slice eA4 1 ec4, .int .i64 2, .int .i64 0, .int .i64 0] 26)) 3 [0, 0, 1, 0, 0, 0, 2, 0, 0]
  rw [show (w4.alloc (.cells #[.string ⟨#[84, 73, 67]⟩, .int .i64 3, .int .i64 3, .slice pA4 1 pc4, .slice sA4 9 sc4, .bool false, .bool false, .slice eA4 1 ec4, .int .i64 2, .int .i64 0, .int .i64 0] 26)).heap.size = w4.heap.size + 1 from by simp] at iM
  refine (EqInts_any _ _ 9 9 _ _ [0, 0, 1, 0, 0, 0, 2, 0, 0] [0, 0, 1, 0, 0, 0, 2, 0, 0] _ rfl rfl (by omega) (by omega) (hs4'.ext y4) iM).mono ?_
  rintro e w5 ⟨rfl, q5, rfl⟩
  rw [decide_eq_true rfl]
  have HRX5 := hide (HRX4.out.ext (ext_drewN y4 q5))
  have k1d := k1c.ext (ext_drewN y4 q5)
  have kx5 := kx4.ext (ext_drewN y4 q5)
  have x5' := ext_trans x4' (ext_drewN y4 q5)
  clear y4 iM hs4' HRX4 k1c kx4 x4'
  generalize ((w4.alloc (.cells #[.string ⟨#[84, 73, 67]⟩, .int .i64 3, .int .i64 3, .slice pA4 1 pc4, .slice sA4 9 sc4, .bool false, .bool false, .slice eA4 1 ec4, .int .i64 2, .int .i64 0, .int .i64 0] 26)).alloc (.cells #[.int .i64 0, .int .i64 0, .int .i64 1, .int .i64 0, .int .i64 0, .int .i64 0, .int .i64 2, .int .i64 0, .int .i64 0] 3)).drewN q5 = w5 at *
  have fx := kx5.cell
  go_wp2_with fail
  have hC := Check_any _ tryR _ HRX5.out
  rw [of_valid valid_try] at hC
  refine hC.mono ?_
  rintro e w6 ⟨rfl, x6⟩
  have k1e := k1d.ext x6
  have x6' := ext_trans x5' x6
  have f1 := k1e.cell
  have HR6 := hide (HR.out.ext x6')
  clear hC fx kx5 HRX5 k1d x5' x6
  go_wp2_with fail
  by_cases hE : rulesE R = 0
  · have hV := valid_of hE
    have HV := hide hV
    clear hE hV
    refine (Mirror_yes _ R _ HR6.out HV.out).mono ?_
    rintro e w7 ⟨v7, rfl, hr7, x7⟩
    have HR7 := hide hr7
    obtain ⟨pA7, pc7, sA7, sc7, eA7, ec7, hv7, -⟩ := hr7
    have hv7' : v7 = .agg #[.string R.name, .int .i64 R.width, .int .i64 R.height, .slice pA7 R.pieces.length pc7, .slice sA7 (turnCells R.width R.height R.start).length sc7, .bool R.falls, .bool R.keeps, .slice eA7 R.ends.length ec7, .int .i64 R.blocked, .int .i64 R.quiet, .int .i64 R.rept] := hv7
    rw [turnCells_length] at hv7'
    subst hv7'
    have k1f := (k1e.ext x7).alloc (.cells #[.string R.name, .int .i64 R.width, .int .i64 R.height, .slice pA7 R.pieces.length pc7, .slice sA7 R.start.length sc7, .bool R.falls, .bool R.keeps, .slice eA7 R.ends.length ec7, .int .i64 R.blocked, .int .i64 R.quiet, .int .i64 R.rept] 26)
    have km := Blk.new w7 26 #[.string R.name, .int .i64 R.width, .int .i64 R.height, .slice pA7 R.pieces.length pc7, .slice sA7 R.start.length sc7, .bool R.falls, .bool R.keeps, .slice eA7 R.ends.length ec7, .int .i64 R.blocked, .int .i64 R.quiet, .int .i64 R.rept]
    have x7' := ext_alloc (ext_trans x6' x7) (.cells #[.string R.name, .int .i64 R.width, .int .i64 R.height, .slice pA7 R.pieces.length pc7, .slice sA7 R.start.length sc7, .bool R.falls, .bool R.keeps, .slice eA7 R.ends.length ec7, .int .i64 R.blocked, .int .i64 R.quiet, .int .i64 R.rept] 26)
    have HR7b := hide (HR7.out.ext (ext_alloc (Below.refl w7.heap.size w7) (.cells #[.string R.name, .int .i64 R.width, .int .i64 R.height, .slice pA7 R.pieces.length pc7, .slice sA7 R.start.length sc7, .bool R.falls, .bool R.keeps, .slice eA7 R.ends.length ec7, .int .i64 R.blocked, .int .i64 R.quiet, .int .i64 R.rept] 26)))
    clear hv7 HR7 k1e x6' x7 f1 HR6
    go_wp2_with fail
    generalize w7.alloc (.cells #[.string R.name, .int .i64 R.width, .int .i64 R.height, .slice pA7 R.pieces.length pc7, .slice sA7 R.start.length sc7, .bool R.falls, .bool R.keeps, .slice eA7 R.ends.length ec7, .int .i64 R.blocked, .int .i64 R.quiet, .int .i64 R.rept] 26) = w8 at *
    generalize w7.heap.size = B7 at *
    refine (Mirror_yes _ (mirrorR R) _ HR7b.out (valid_mirror HV.out)).mono ?_
    rintro e w9 ⟨v9, rfl, hr9, x9⟩
    rw [mirror_mirror HV.out] at hr9
    obtain ⟨pA9, pc9, sA9, sc9, eA9, ec9, rfl, -, hs9, -⟩ := hr9
    have k1g := (k1f.ext x9).alloc (.cells #[.string R.name, .int .i64 R.width, .int .i64 R.height, .slice pA9 R.pieces.length pc9, .slice sA9 R.start.length sc9, .bool R.falls, .bool R.keeps, .slice eA9 R.ends.length ec9, .int .i64 R.blocked, .int .i64 R.quiet, .int .i64 R.rept] 26)
    have km9 := (km.ext x9).alloc (.cells #[.string R.name, .int .i64 R.width, .int .i64 R.height, .slice pA9 R.pieces.length pc9, .slice sA9 R.start.length sc9, .bool R.falls, .bool R.keeps, .slice eA9 R.ends.length ec9, .int .i64 R.blocked, .int .i64 R.quiet, .int .i64 R.rept] 26)
    have kb := Blk.new w9 26 #[.string R.name, .int .i64 R.width, .int .i64 R.height, .slice pA9 R.pieces.length pc9, .slice sA9 R.start.length sc9, .bool R.falls, .bool R.keeps, .slice eA9 R.ends.length ec9, .int .i64 R.blocked, .int .i64 R.quiet, .int .i64 R.rept]
    have x9' := ext_alloc (ext_trans x7' x9) (.cells #[.string R.name, .int .i64 R.width, .int .i64 R.height, .slice pA9 R.pieces.length pc9, .slice sA9 R.start.length sc9, .bool R.falls, .bool R.keeps, .slice eA9 R.ends.length ec9, .int .i64 R.blocked, .int .i64 R.quiet, .int .i64 R.rept] 26)
    have y9 : Ext w9 (w9.alloc (.cells #[.string R.name, .int .i64 R.width, .int .i64 R.height, .slice pA9 R.pieces.length pc9, .slice sA9 R.start.length sc9, .bool R.falls, .bool R.keeps, .slice eA9 R.ends.length ec9, .int .i64 R.blocked, .int .i64 R.quiet, .int .i64 R.rept] 26)) := ext_alloc (Below.refl _ _) _
    have HR9 := hide (HR7b.out.ext (ext_trans x9 y9))
    have hs9' := hs9.ext y9
    have fm := km9.cell
    clear k1f km x7' x9 y9 HR7b hs9
    go_wp2_with fail
    have hC := Check_any _ (mirrorR R) _ HR9.out
    rw [of_valid (valid_mirror HV.out)] at hC
    generalize w9.alloc (.cells #[.string R.name, .int .i64 R.width, .int .i64 R.height, .slice pA9 R.pieces.length pc9, .slice sA9 R.start.length sc9, .bool R.falls, .bool R.keeps, .slice eA9 R.ends.length ec9, .int .i64 R.blocked, .int .i64 R.quiet, .int .i64 R.rept] 26) = wa at *
    generalize w9.heap.size = B9 at *
    refine hC.mono ?_
    rintro e wb ⟨rfl, xb⟩
    have k1h := (k1g.ext xb)
    have kbb := kb.ext xb
    have xb' := ext_trans x9' xb
    have hsb := hs9'.ext xb
    have fr := k1h.cell
    have fb := kbb.cell
    have har := (HV.out).area
    have hab := area_bd _ _ (HV.out).side
    have hl64 : R.start.length ≤ 64 := by omega
    clear hC fm km9 k1g kb x9' hs9' xb har hab HR9
    go_wp2_with fail
    have hsr : IntsAt wb sA R.start := by
      obtain ⟨pA', pc', sA', sc', eA', ec', e, _, h, _⟩ := HR.out
      injection e with e
      simp at e
      rw [e.2.1.1]
      exact h.ext xb'
    refine (EqInts_any sA9 sA R.start.length R.start.length _ _ R.start R.start _ rfl rfl (by omega) (by omega) hsb hsr).mono ?_
    rintro e wc ⟨rfl, q, rfl⟩
    rw [decide_eq_true rfl]
    go_wp2
    go_ret
    exact ⟨by simp, ext_drewN xb' _⟩
  · have hE' : (rulesE R != 0) = true := by simpa using hE
    refine (Mirror_no _ R _ HR6.out hE).mono ?_
    rintro e w7 ⟨rfl, x7⟩
    have k1f := (k1e.ext x7).alloc (.cells #[.string ⟨#[]⟩, .int .i64 0, .int .i64 0, .slice none 0 0, .slice none 0 0, .bool false, .bool false, .slice none 0 0, .int .i64 0, .int .i64 0, .int .i64 0] 26)
    have km := Blk.new w7 26 #[.string ⟨#[]⟩, .int .i64 0, .int .i64 0, .slice none 0 0, .slice none 0 0, .bool false, .bool false, .slice none 0 0, .int .i64 0, .int .i64 0, .int .i64 0]
    have x7' := ext_alloc (ext_trans x6' x7) (.cells #[.string ⟨#[]⟩, .int .i64 0, .int .i64 0, .slice none 0 0, .slice none 0 0, .bool false, .bool false, .slice none 0 0, .int .i64 0, .int .i64 0, .int .i64 0] 26)
    have f1' := k1f.cell
    clear k1e x6' x7 f1 HR6 hE
    go_wp2_with fail
    have hC := Check_any _ R _ (HR.out.ext x7')
    refine hC.mono ?_
    rintro e w8 ⟨rfl, x8⟩
    have km8 := km.ext x8
    have fm := km8.cell
    have x8' := ext_trans x7' x8
    clear hC f1' km k1f x7' x8
    go_wp2
    go_ret
    exact ⟨rfl, x8'⟩
theorem mirrored_any (v : Value) (R : RulesM) (w : World) (hR : RulesAt w v R) :
    Calls Try.prog 3 #[v] w fun e w' => e = .returned (.bool true) ∧ Ext w w' := mirrored_walk v R w hR
end Go.Proofs.Ytcfiannlpkofpaa
