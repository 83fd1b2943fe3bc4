/- Walk: rules.Mirror. -/
import Derived.Test.YtcfiannlpkofpaaRulesCopy
import Derived.Test.YtcfiannlpkofpaaRulesCheck
import Derived.Test.YtcfiannlpkofpaaTurned
import Derived.Laws.ResultCell
namespace Go.Proofs.Ytcfiannlpkofpaa
open Go.ChangeShapes Go.WideShapes Go.ChangeAt Go.RowKit
set_option linter.unusedVariables false
/-- What valid rules are. -/
structure Valid (R : RulesM) : Prop where
  name : nameB R.name = true
  side : okSide R.width R.height
  pieces0 : 1 ≤ R.pieces.length
  pieces6 : R.pieces.length ≤ 6
  piece : ∀ j, j < R.pieces.length → pieceE R.pieces j = 0
  area : (R.start.length : Int) = R.width * R.height
  start : ∀ c ∈ R.start, 0 ≤ c ∧ c ≤ 2 * (R.pieces.length : Int)
  ends6 : R.ends.length ≤ 6
  ende : endsE R.pieces.length R.ends = 0
  last : lastB R = true
theorem inB_iff {n lo hi : Int} : inB n lo hi = true ↔ lo ≤ n ∧ n ≤ hi := by simp [inB]
theorem piecesE_zero {ps : List PieceM} : piecesE ps = 0 ↔ 1 ≤ ps.length ∧ ps.length ≤ 6 ∧ ∀ j, j < ps.length → pieceE ps j = 0 := by
  unfold piecesE
  by_cases h0 : ps.length = 0
  · rw [if_pos h0]; constructor
    · intro h; omega
    · intro h; omega
  · rw [if_neg h0]
    by_cases h6 : 6 < ps.length
    · rw [if_pos h6]; constructor
      · intro h; omega
      · intro h; omega
    · rw [if_neg h6, firstE_zero]
      constructor
      · intro h; exact ⟨by omega, by omega, fun j hj => h j (Nat.zero_le _) (by omega)⟩
      · intro h j _ hj; exact h.2.2 j (by omega)
theorem valid_of {R : RulesM} (h : rulesE R = 0) : Valid R := by
  unfold rulesE at h
  cases h1 : nameB R.name
  · rw [h1] at h; simp at h
  rw [h1] at h
  cases h2 : inB R.width 1 8 && inB R.height 1 8
  · rw [h2] at h; simp at h
  rw [h2] at h
  simp only [Bool.not_true, Bool.false_eq_true, if_false] at h
  by_cases h3 : piecesE R.pieces = 0
  case neg => rw [if_pos h3] at h; exact absurd h h3
  rw [if_neg (fun k => k h3)] at h
  by_cases h4 : (R.start.length : Int) = R.width * R.height
  case neg => rw [if_pos h4] at h; omega
  rw [if_neg (fun k => k h4)] at h
  cases h5 : R.start.all fun c => inB c 0 (2 * (R.pieces.length : Int))
  · rw [h5] at h; simp at h
  rw [h5] at h
  simp only [Bool.not_true, Bool.false_eq_true, if_false] at h
  by_cases h6 : endsE R.pieces.length R.ends = 0
  case neg => rw [if_pos h6] at h; exact absurd h h6
  rw [if_neg (fun k => k h6)] at h
  cases h7 : lastB R
  · rw [h7] at h; simp at h
  obtain ⟨a1, a2⟩ := Bool.and_eq_true_iff.1 h2
  rw [inB_iff] at a1 a2
  obtain ⟨p1, p2, p3⟩ := piecesE_zero.1 h3
  refine ⟨h1, ⟨a1.1, a1.2, a2.1, a2.2⟩, p1, p2, p3, h4, fun c hc => ?_, ?_, h6, h7⟩
  · rw [List.all_eq_true] at h5
    exact inB_iff.1 (h5 c hc)
  · unfold endsE at h6
    by_cases h8 : 6 < R.ends.length
    · rw [if_pos h8] at h6; omega
    · omega
theorem of_valid {R : RulesM} (h : Valid R) : rulesE R = 0 := by
  unfold rulesE
  have h3 := piecesE_zero.2 ⟨h.pieces0, h.pieces6, h.piece⟩
  have a1 : inB R.width 1 8 = true := inB_iff.2 ⟨h.side.1, h.side.2.1⟩
  have a2 : inB R.height 1 8 = true := inB_iff.2 ⟨h.side.2.2.1, h.side.2.2.2⟩
  have h5 : (R.start.all fun c => inB c 0 (2 * (R.pieces.length : Int))) = true := by
    rw [List.all_eq_true]
    intro c hc
    exact inB_iff.2 (h.start c hc)
  rw [h.name, a1, a2, h3, h5, h.ende, h.last, h.area]
  simp
theorem piece_facts {ps : List PieceM} {p : PieceM} (h : ∀ j, j < ps.length → pieceE ps j = 0) (hp : p ∈ ps) : (65 ≤ p.letter ∧ p.letter ≤ 90) ∧ (0 ≤ p.hand ∧ p.hand ≤ 64) ∧ (0 ≤ p.promote ∧ p.promote ≤ ps.length) ∧ p.ways.length ≤ 16 ∧ ∀ x ∈ p.ways, wayB x = true := by
  obtain ⟨k, hk, rfl⟩ := List.mem_iff_getElem.1 hp
  have := h k hk
  rw [pieceE_get (List.getElem?_eq_getElem hk)] at this
  generalize ps[k] = p at *
  cases h1 : inB p.letter 65 90
  · rw [h1] at this; simp at this
  cases h2 : (ps.take k).any (fun q => decide (q.letter = p.letter))
  · cases h3 : inB p.hand 0 64 && inB p.promote 0 ps.length
    · rw [h1, h2, h3] at this; simp at this
    · obtain ⟨a, b⟩ := Bool.and_eq_true_iff.1 h3
      rw [h1, h2, h3] at this
      simp only [Bool.not_true, Bool.false_eq_true, if_false] at this
      by_cases h4 : 16 < p.ways.length
      · rw [if_pos h4] at this; omega
      · rw [if_neg h4] at this
        cases h5 : p.ways.all wayB
        · rw [h5] at this; simp at this
        · rw [List.all_eq_true] at h5
          exact ⟨inB_iff.1 h1, inB_iff.1 a, inB_iff.1 b, by omega, h5⟩
  · rw [h1, h2] at this; simp at this
theorem Copy_any (v : Value) (R : RulesM) (w : World) (hR : RulesAt w v R) (hV : Valid R) :
    Calls Try.prog 55 #[v] w fun e w' => ∃ v' base, e = .returned v' ∧ w.heap.size ≤ base ∧ RulesOwn w' base v' R ∧ Ext w w' := by
  obtain ⟨pA, pc, sA, sc, eA, ec, rfl, hp, hs, he, hpc, hsc, hec, hnm⟩ := hR
  have har := area_bd _ _ hV.side
  have ha := hV.area
  refine (copy_core R.name R.width R.height R.blocked R.quiet R.rept R.falls R.keeps pA sA eA R.pieces.length pc sc ec R.pieces R.start R.ends w rfl hV.pieces6 (fun p hp => (piece_facts hV.piece hp).2.2.2.1) (by omega) hV.ends6 hp hs he).mono ?_
  rintro e w' ⟨pA', pc', sA', sc', eA', ec', vss, base, rfl, hb, h1, h2, h3, h4, h7⟩
  exact ⟨_, base, rfl, hb, ⟨pA', pc', sA', sc', eA', ec', vss, rfl, h1, h2, h3, h4, hnm⟩, h7⟩
def mirrorR (R : RulesM) : RulesM := { R with start := turnCells R.width R.height R.start }
abbrev zeroRules : Value := .agg #[.string ⟨#[]⟩, .int .i64 0, .int .i64 0, .slice none 0 0, .slice none 0 0, .bool false, .bool false, .slice none 0 0, .int .i64 0, .int .i64 0, .int .i64 0]
theorem Mirror_no (v : Value) (R : RulesM) (w : World) (hR : RulesAt w v R) (hE : rulesE R ≠ 0) :
    Calls Try.prog 16 #[v] w fun e w' => e = .returned (.tuple #[zeroRules, .int .i64 (rulesE R)]) ∧ Ext w w' := by
  have hC := fun W (hW : Ext w W) => Check_any v R W (hR.ext hW)
  obtain ⟨pA, pc, sA, sc, eA, ec, rfl, -⟩ := hR
  have hE' : (rulesE R != 0) = true := by simpa using hE
  clear hE
  generalize rulesE R = E at *
  have HC := hide hC
  clear hC
  go_enter Try.func16, Try.ntmps16
  go_wp2_with fail
  refine (HC.out _ (ext_alloc (ext_alloc (Below.refl _ _) _) _)).mono ?_
  rintro e w2 ⟨rfl, x2⟩
  have x2' := ext_trans (ext_alloc (ext_alloc (Below.refl w.heap.size w) (.cells #[.string R.name, .int .i64 R.width, .int .i64 R.height, .slice pA R.pieces.length pc, .slice sA R.start.length sc, .bool R.falls, .bool R.keeps, .slice eA R.ends.length ec, .int .i64 R.blocked, .int .i64 R.quiet, .int .i64 R.rept] 26)) (.cells #[.string ⟨#[]⟩, .int .i64 0, .int .i64 0, .slice none 0 0, .slice none 0 0, .bool false, .bool false, .slice none 0 0, .int .i64 0, .int .i64 0, .int .i64 0] 26)) x2
  have k2 := (Blk.new (w.alloc (.cells #[.string R.name, .int .i64 R.width, .int .i64 R.height, .slice pA R.pieces.length pc, .slice sA R.start.length sc, .bool R.falls, .bool R.keeps, .slice eA R.ends.length ec, .int .i64 R.blocked, .int .i64 R.quiet, .int .i64 R.rept] 26)) 26 #[.string ⟨#[]⟩, .int .i64 0, .int .i64 0, .slice none 0 0, .slice none 0 0, .bool false, .bool false, .slice none 0 0, .int .i64 0, .int .i64 0, .int .i64 0]).ext x2
  have hS : (w.alloc (.cells #[.string R.name, .int .i64 R.width, .int .i64 R.height, .slice pA R.pieces.length pc, .slice sA R.start.length sc, .bool R.falls, .bool R.keeps, .slice eA R.ends.length ec, .int .i64 R.blocked, .int .i64 R.quiet, .int .i64 R.rept] 26)).heap.size = w.heap.size + 1 := by simp
  rw [hS] at k2
  clear hS x2
  have hlt : w.heap.size ≤ w.heap.size + 1 := by omega
  generalize w.heap.size + 1 = B2 at *
  have z0 : w2.cell? ⟨B2, 0, none⟩ = some (.string ⟨#[]⟩) := k2.cell 0
  have z1 : w2.cell? ⟨B2, 1, none⟩ = some (.int .i64 0) := k2.cell 1
  have z2 : w2.cell? ⟨B2, 2, none⟩ = some (.int .i64 0) := k2.cell 2
  have z3 : w2.cell? ⟨B2, 3, none⟩ = some (.slice none 0 0) := k2.cell 3
  have z4 : w2.cell? ⟨B2, 4, none⟩ = some (.slice none 0 0) := k2.cell 4
  have z5 : w2.cell? ⟨B2, 5, none⟩ = some (.bool false) := k2.cell 5
  have z6 : w2.cell? ⟨B2, 6, none⟩ = some (.bool false) := k2.cell 6
  have z7 : w2.cell? ⟨B2, 7, none⟩ = some (.slice none 0 0) := k2.cell 7
  have z8 : w2.cell? ⟨B2, 8, none⟩ = some (.int .i64 0) := k2.cell 8
  have z9 : w2.cell? ⟨B2, 9, none⟩ = some (.int .i64 0) := k2.cell 9
  have z10 : w2.cell? ⟨B2, 10, none⟩ = some (.int .i64 0) := k2.cell 10
  have zf := k2.frozen
  go_wp2
  have kf := blk_set11 k2 (u0 := (.string ⟨#[]⟩)) (u1 := (.int .i64 0)) (u2 := (.int .i64 0)) (u3 := (.slice none 0 0)) (u4 := (.slice none 0 0)) (u5 := (.bool false)) (u6 := (.bool false)) (u7 := (.slice none 0 0)) (u8 := (.int .i64 0)) (u9 := (.int .i64 0)) (u10 := (.int .i64 0))
  have xf := (ext_set (ext_set (ext_set (ext_set (ext_set (ext_set (ext_set (ext_set (ext_set (ext_set (ext_set x2' (p := ⟨B2, 0, none⟩) hlt (.string ⟨#[]⟩)) (p := ⟨B2, 1, none⟩) hlt (.int .i64 0)) (p := ⟨B2, 2, none⟩) hlt (.int .i64 0)) (p := ⟨B2, 3, none⟩) hlt (.slice none 0 0)) (p := ⟨B2, 4, none⟩) hlt (.slice none 0 0)) (p := ⟨B2, 5, none⟩) hlt (.bool false)) (p := ⟨B2, 6, none⟩) hlt (.bool false)) (p := ⟨B2, 7, none⟩) hlt (.slice none 0 0)) (p := ⟨B2, 8, none⟩) hlt (.int .i64 0)) (p := ⟨B2, 9, none⟩) hlt (.int .i64 0)) (p := ⟨B2, 10, none⟩) hlt (.int .i64 0))
  generalize (((((((((((w2.setCell ⟨B2, 0, none⟩ (.string ⟨#[]⟩)).setCell ⟨B2, 1, none⟩ (.int .i64 0)).setCell ⟨B2, 2, none⟩ (.int .i64 0)).setCell ⟨B2, 3, none⟩ (.slice none 0 0)).setCell ⟨B2, 4, none⟩ (.slice none 0 0)).setCell ⟨B2, 5, none⟩ (.bool false)).setCell ⟨B2, 6, none⟩ (.bool false)).setCell ⟨B2, 7, none⟩ (.slice none 0 0)).setCell ⟨B2, 8, none⟩ (.int .i64 0)).setCell ⟨B2, 9, none⟩ (.int .i64 0)).setCell ⟨B2, 10, none⟩ (.int .i64 0)) = Wf at *
  have rr0 : Wf.cell? ⟨B2, 0, none⟩ = some (.string ⟨#[]⟩) := kf.cell 0
  have rr1 : Wf.cell? ⟨B2, 1, none⟩ = some (.int .i64 0) := kf.cell 1
  have rr2 : Wf.cell? ⟨B2, 2, none⟩ = some (.int .i64 0) := kf.cell 2
  have rr3 : Wf.cell? ⟨B2, 3, none⟩ = some (.slice none 0 0) := kf.cell 3
  have rr4 : Wf.cell? ⟨B2, 4, none⟩ = some (.slice none 0 0) := kf.cell 4
  have rr5 : Wf.cell? ⟨B2, 5, none⟩ = some (.bool false) := kf.cell 5
  have rr6 : Wf.cell? ⟨B2, 6, none⟩ = some (.bool false) := kf.cell 6
  have rr7 : Wf.cell? ⟨B2, 7, none⟩ = some (.slice none 0 0) := kf.cell 7
  have rr8 : Wf.cell? ⟨B2, 8, none⟩ = some (.int .i64 0) := kf.cell 8
  have rr9 : Wf.cell? ⟨B2, 9, none⟩ = some (.int .i64 0) := kf.cell 9
  have rr10 : Wf.cell? ⟨B2, 10, none⟩ = some (.int .i64 0) := kf.cell 10
  refine bodyPost_ret (v := .tuple #[.agg #[.string ⟨#[]⟩, .int .i64 0, .int .i64 0, .slice none 0 0, .slice none 0 0, .bool false, .bool false, .slice none 0 0, .int .i64 0, .int .i64 0, .int .i64 0], .int .i64 E]) ?_ rfl ?_
  · simp [results, Try.results16, go_sem, rr0, rr1, rr2, rr3, rr4, rr5, rr6, rr7, rr8, rr9, rr10]
  · exact ⟨rfl, xf⟩
set_option maxHeartbeats 1000000 in
set_option maxRecDepth 100000 in
theorem Mirror_yes (v : Value) (R : RulesM) (w : World) (hR : RulesAt w v R) (hV : Valid R) :
    Calls Try.prog 16 #[v] w fun e w' => ∃ v', e = .returned (.tuple #[v', .int .i64 0]) ∧ RulesAt w' v' (mirrorR R) ∧ Ext w w' := by
  have hE := of_valid hV
  have HC := hide (fun W (hW : Ext w W) => hE ▸ Check_any v R W (hR.ext hW))
  have HCP := hide (fun W (hW : Ext w W) => Copy_any v R W (hR.ext hW) hV)
  obtain ⟨pA, pc, sA, sc, eA, ec, rfl, hp, hs, he, hpc, hsc, hec, hnm⟩ := hR
  have HT := hide (fun W (hW : Ext w W) => Turned_any (.string R.name) (.slice pA R.pieces.length pc) (.slice sA R.start.length sc) (.bool R.falls) (.bool R.keeps) (.slice eA R.ends.length ec) (.int .i64 R.blocked) (.int .i64 R.quiet) (.int .i64 R.rept) R.width R.height sA R.start.length sc R.start W hV.side rfl hV.area (hs.ext hW) (fun c hc => ⟨(hV.start c hc).1, by have := (hV.start c hc).2; have := hV.pieces6; omega⟩))
  have HV := hide hV
  clear hE hp hs he hV
  go_enter Try.func16, Try.ntmps16
  go_wp2_with fail
  refine (HC.out _ (ext_alloc (ext_alloc (Below.refl _ _) _) _)).mono ?_
  rintro e w2 ⟨rfl, x2⟩
  have x2' := ext_trans (ext_alloc (ext_alloc (Below.refl w.heap.size w) (.cells #[.string R.name, .int .i64 R.width, .int .i64 R.height, .slice pA R.pieces.length pc, .slice sA R.start.length sc, .bool R.falls, .bool R.keeps, .slice eA R.ends.length ec, .int .i64 R.blocked, .int .i64 R.quiet, .int .i64 R.rept] 26)) (.cells #[.string ⟨#[]⟩, .int .i64 0, .int .i64 0, .slice none 0 0, .slice none 0 0, .bool false, .bool false, .slice none 0 0, .int .i64 0, .int .i64 0, .int .i64 0] 26)) x2
  have k1 := ((Blk.new w 26 #[.string R.name, .int .i64 R.width, .int .i64 R.height, .slice pA R.pieces.length pc, .slice sA R.start.length sc, .bool R.falls, .bool R.keeps, .slice eA R.ends.length ec, .int .i64 R.blocked, .int .i64 R.quiet, .int .i64 R.rept]).alloc (.cells #[.string ⟨#[]⟩, .int .i64 0, .int .i64 0, .slice none 0 0, .slice none 0 0, .bool false, .bool false, .slice none 0 0, .int .i64 0, .int .i64 0, .int .i64 0] 26)).ext x2
  have k2 := (Blk.new (w.alloc (.cells #[.string R.name, .int .i64 R.width, .int .i64 R.height, .slice pA R.pieces.length pc, .slice sA R.start.length sc, .bool R.falls, .bool R.keeps, .slice eA R.ends.length ec, .int .i64 R.blocked, .int .i64 R.quiet, .int .i64 R.rept] 26)) 26 #[.string ⟨#[]⟩, .int .i64 0, .int .i64 0, .slice none 0 0, .slice none 0 0, .bool false, .bool false, .slice none 0 0, .int .i64 0, .int .i64 0, .int .i64 0]).ext x2
  have hS : (w.alloc (.cells #[.string R.name, .int .i64 R.width, .int .i64 R.height, .slice pA R.pieces.length pc, .slice sA R.start.length sc, .bool R.falls, .bool R.keeps, .slice eA R.ends.length ec, .int .i64 R.blocked, .int .i64 R.quiet, .int .i64 R.rept] 26)).heap.size = w.heap.size + 1 := by simp
  rw [hS] at k2
  clear hS x2
  have hlt : w.heap.size ≤ w.heap.size + 1 := by omega
  have hneq : ¬ w.heap.size = w.heap.size + 1 := by omega
  have HL := hide hlt
  have HQ := hide hneq
  clear hlt hneq
  generalize w.heap.size + 1 = B2 at *
  generalize hB1 : w.heap.size = B1 at *
  have HB1 := hide hB1
  clear hB1
  clear HC
  have f0 : w2.cell? ⟨B1, 0, none⟩ = some (.string R.name) := k1.cell 0
  have f1 : w2.cell? ⟨B1, 1, none⟩ = some (.int .i64 R.width) := k1.cell 1
  have f2 : w2.cell? ⟨B1, 2, none⟩ = some (.int .i64 R.height) := k1.cell 2
  have f3 : w2.cell? ⟨B1, 3, none⟩ = some (.slice pA R.pieces.length pc) := k1.cell 3
  have f4 : w2.cell? ⟨B1, 4, none⟩ = some (.slice sA R.start.length sc) := k1.cell 4
  have f5 : w2.cell? ⟨B1, 5, none⟩ = some (.bool R.falls) := k1.cell 5
  have f6 : w2.cell? ⟨B1, 6, none⟩ = some (.bool R.keeps) := k1.cell 6
  have f7 : w2.cell? ⟨B1, 7, none⟩ = some (.slice eA R.ends.length ec) := k1.cell 7
  have f8 : w2.cell? ⟨B1, 8, none⟩ = some (.int .i64 R.blocked) := k1.cell 8
  have f9 : w2.cell? ⟨B1, 9, none⟩ = some (.int .i64 R.quiet) := k1.cell 9
  have f10 : w2.cell? ⟨B1, 10, none⟩ = some (.int .i64 R.rept) := k1.cell 10
  go_wp2_with fail
  refine (HCP.out _ x2').mono ?_
  rintro e w3 ⟨v3, base, rfl, hbase, hr3, x3⟩
  obtain ⟨pA2, pc2, sA2, sc2, eA2, ec2, vss, rfl, hp2, hpt2, hs2, he2, _⟩ := hr3
  have hB2b : Hid (B2 < base) := hide (Nat.lt_of_lt_of_le k2.lt hbase)
  have k1b := k1.ext x3
  have k2b := k2.ext x3
  have x3' := ext_trans x2' x3
  have k5 := Blk.new w3 26 #[.string R.name, .int .i64 R.width, .int .i64 R.height, .slice pA2 R.pieces.length pc2, .slice sA2 R.start.length sc2, .bool R.falls, .bool R.keeps, .slice eA2 R.ends.length ec2, .int .i64 R.blocked, .int .i64 R.quiet, .int .i64 R.rept]
  have k1c := k1b.alloc (.cells #[.string R.name, .int .i64 R.width, .int .i64 R.height, .slice pA2 R.pieces.length pc2, .slice sA2 R.start.length sc2, .bool R.falls, .bool R.keeps, .slice eA2 R.ends.length ec2, .int .i64 R.blocked, .int .i64 R.quiet, .int .i64 R.rept] 26)
  have k2c := k2b.alloc (.cells #[.string R.name, .int .i64 R.width, .int .i64 R.height, .slice pA2 R.pieces.length pc2, .slice sA2 R.start.length sc2, .bool R.falls, .bool R.keeps, .slice eA2 R.ends.length ec2, .int .i64 R.blocked, .int .i64 R.quiet, .int .i64 R.rept] 26)
  have x3a := ext_alloc x3' (.cells #[.string R.name, .int .i64 R.width, .int .i64 R.height, .slice pA2 R.pieces.length pc2, .slice sA2 R.start.length sc2, .bool R.falls, .bool R.keeps, .slice eA2 R.ends.length ec2, .int .i64 R.blocked, .int .i64 R.quiet, .int .i64 R.rept] 26)
  have hP := hide (hp2.alloc (.cells #[.string R.name, .int .i64 R.width, .int .i64 R.height, .slice pA2 R.pieces.length pc2, .slice sA2 R.start.length sc2, .bool R.falls, .bool R.keeps, .slice eA2 R.ends.length ec2, .int .i64 R.blocked, .int .i64 R.quiet, .int .i64 R.rept] 26))
  have hE2 := hide (he2.alloc (.cells #[.string R.name, .int .i64 R.width, .int .i64 R.height, .slice pA2 R.pieces.length pc2, .slice sA2 R.start.length sc2, .bool R.falls, .bool R.keeps, .slice eA2 R.ends.length ec2, .int .i64 R.blocked, .int .i64 R.quiet, .int .i64 R.rept] 26))
  have hPT := hide (hpt2.keep (fun v n xs h => h.alloc (.cells #[.string R.name, .int .i64 R.width, .int .i64 R.height, .slice pA2 R.pieces.length pc2, .slice sA2 R.start.length sc2, .bool R.falls, .bool R.keeps, .slice eA2 R.ends.length ec2, .int .i64 R.blocked, .int .i64 R.quiet, .int .i64 R.rept] 26)))
  clear x2' k1 k2 x3 hp2 hpt2 hs2 he2 HCP hbase f0 f1 f2 f3 f4 f5 f6 f7 f8 f9 f10
  have hB25 : Hid (B2 < w3.heap.size) := hide k2b.lt
  have hB15 : Hid (B1 < w3.heap.size) := hide k1b.lt
  have hw5 : Hid (B1 ≤ w3.heap.size) := hide (by rw [← HB1.out]; exact x3'.size)
  have f0 : (w3.alloc (.cells #[.string R.name, .int .i64 R.width, .int .i64 R.height, .slice pA2 R.pieces.length pc2, .slice sA2 R.start.length sc2, .bool R.falls, .bool R.keeps, .slice eA2 R.ends.length ec2, .int .i64 R.blocked, .int .i64 R.quiet, .int .i64 R.rept] 26)).cell? ⟨B1, 0, none⟩ = some (.string R.name) := k1c.cell 0
  have f1 : (w3.alloc (.cells #[.string R.name, .int .i64 R.width, .int .i64 R.height, .slice pA2 R.pieces.length pc2, .slice sA2 R.start.length sc2, .bool R.falls, .bool R.keeps, .slice eA2 R.ends.length ec2, .int .i64 R.blocked, .int .i64 R.quiet, .int .i64 R.rept] 26)).cell? ⟨B1, 1, none⟩ = some (.int .i64 R.width) := k1c.cell 1
  have f2 : (w3.alloc (.cells #[.string R.name, .int .i64 R.width, .int .i64 R.height, .slice pA2 R.pieces.length pc2, .slice sA2 R.start.length sc2, .bool R.falls, .bool R.keeps, .slice eA2 R.ends.length ec2, .int .i64 R.blocked, .int .i64 R.quiet, .int .i64 R.rept] 26)).cell? ⟨B1, 2, none⟩ = some (.int .i64 R.height) := k1c.cell 2
  have f3 : (w3.alloc (.cells #[.string R.name, .int .i64 R.width, .int .i64 R.height, .slice pA2 R.pieces.length pc2, .slice sA2 R.start.length sc2, .bool R.falls, .bool R.keeps, .slice eA2 R.ends.length ec2, .int .i64 R.blocked, .int .i64 R.quiet, .int .i64 R.rept] 26)).cell? ⟨B1, 3, none⟩ = some (.slice pA R.pieces.length pc) := k1c.cell 3
  have f4 : (w3.alloc (.cells #[.string R.name, .int .i64 R.width, .int .i64 R.height, .slice pA2 R.pieces.length pc2, .slice sA2 R.start.length sc2, .bool R.falls, .bool R.keeps, .slice eA2 R.ends.length ec2, .int .i64 R.blocked, .int .i64 R.quiet, .int .i64 R.rept] 26)).cell? ⟨B1, 4, none⟩ = some (.slice sA R.start.length sc) := k1c.cell 4
  have f5 : (w3.alloc (.cells #[.string R.name, .int .i64 R.width, .int .i64 R.height, .slice pA2 R.pieces.length pc2, .slice sA2 R.start.length sc2, .bool R.falls, .bool R.keeps, .slice eA2 R.ends.length ec2, .int .i64 R.blocked, .int .i64 R.quiet, .int .i64 R.rept] 26)).cell? ⟨B1, 5, none⟩ = some (.bool R.falls) := k1c.cell 5
  have f6 : (w3.alloc (.cells #[.string R.name, .int .i64 R.width, .int .i64 R.height, .slice pA2 R.pieces.length pc2, .slice sA2 R.start.length sc2, .bool R.falls, .bool R.keeps, .slice eA2 R.ends.length ec2, .int .i64 R.blocked, .int .i64 R.quiet, .int .i64 R.rept] 26)).cell? ⟨B1, 6, none⟩ = some (.bool R.keeps) := k1c.cell 6
  have f7 : (w3.alloc (.cells #[.string R.name, .int .i64 R.width, .int .i64 R.height, .slice pA2 R.pieces.length pc2, .slice sA2 R.start.length sc2, .bool R.falls, .bool R.keeps, .slice eA2 R.ends.length ec2, .int .i64 R.blocked, .int .i64 R.quiet, .int .i64 R.rept] 26)).cell? ⟨B1, 7, none⟩ = some (.slice eA R.ends.length ec) := k1c.cell 7
  have f8 : (w3.alloc (.cells #[.string R.name, .int .i64 R.width, .int .i64 R.height, .slice pA2 R.pieces.length pc2, .slice sA2 R.start.length sc2, .bool R.falls, .bool R.keeps, .slice eA2 R.ends.length ec2, .int .i64 R.blocked, .int .i64 R.quiet, .int .i64 R.rept] 26)).cell? ⟨B1, 8, none⟩ = some (.int .i64 R.blocked) := k1c.cell 8
  have f9 : (w3.alloc (.cells #[.string R.name, .int .i64 R.width, .int .i64 R.height, .slice pA2 R.pieces.length pc2, .slice sA2 R.start.length sc2, .bool R.falls, .bool R.keeps, .slice eA2 R.ends.length ec2, .int .i64 R.blocked, .int .i64 R.quiet, .int .i64 R.rept] 26)).cell? ⟨B1, 9, none⟩ = some (.int .i64 R.quiet) := k1c.cell 9
  have f10 : (w3.alloc (.cells #[.string R.name, .int .i64 R.width, .int .i64 R.height, .slice pA2 R.pieces.length pc2, .slice sA2 R.start.length sc2, .bool R.falls, .bool R.keeps, .slice eA2 R.ends.length ec2, .int .i64 R.blocked, .int .i64 R.quiet, .int .i64 R.rept] 26)).cell? ⟨B1, 10, none⟩ = some (.int .i64 R.rept) := k1c.cell 10
  clear k1b k2b x3'
  go_wp2_with fail
  refine (HT.out _ x3a).mono ?_
  rintro e w4 ⟨g4, rfl, hrow, hg, x4⟩
  have k5d := k5.ext x4
  have k2d := k2c.ext x4
  have hP4 := hide (own_ext hP.out x4)
  have hE4 := hide (own_ext hE2.out x4)
  have hPT4 := hide (hPT.out.keep (fun v n xs h => own_ext h x4))
  have x4' := ext_trans x3a x4
  have HROW := hide hrow
  have HG := hide hg
  clear k5 k1c k2c x3a x4 hP hE2 hPT hrow hg HT f0 f1 f2 f3 f4 f5 f6 f7 f8 f9 f10
  generalize hB5 : w3.heap.size = B5 at *
  have HB5 := hide hB5
  clear hB5
  have hB25' := hB25.out
  have a0 : w4.cell? ⟨B5, 0, none⟩ = some (.string R.name) := k5d.cell 0
  have a1 : w4.cell? ⟨B5, 1, none⟩ = some (.int .i64 R.width) := k5d.cell 1
  have a2 : w4.cell? ⟨B5, 2, none⟩ = some (.int .i64 R.height) := k5d.cell 2
  have a3 : w4.cell? ⟨B5, 3, none⟩ = some (.slice pA2 R.pieces.length pc2) := k5d.cell 3
  have a4 : w4.cell? ⟨B5, 4, none⟩ = some (.slice sA2 R.start.length sc2) := k5d.cell 4
  have a5 : w4.cell? ⟨B5, 5, none⟩ = some (.bool R.falls) := k5d.cell 5
  have a6 : w4.cell? ⟨B5, 6, none⟩ = some (.bool R.keeps) := k5d.cell 6
  have a7 : w4.cell? ⟨B5, 7, none⟩ = some (.slice eA2 R.ends.length ec2) := k5d.cell 7
  have a8 : w4.cell? ⟨B5, 8, none⟩ = some (.int .i64 R.blocked) := k5d.cell 8
  have a9 : w4.cell? ⟨B5, 9, none⟩ = some (.int .i64 R.quiet) := k5d.cell 9
  have a10 : w4.cell? ⟨B5, 10, none⟩ = some (.int .i64 R.rept) := k5d.cell 10
  have b0 : w4.cell? ⟨B2, 0, none⟩ = some (.string ⟨#[]⟩) := k2d.cell 0
  have b1 : w4.cell? ⟨B2, 1, none⟩ = some (.int .i64 0) := k2d.cell 1
  have b2 : w4.cell? ⟨B2, 2, none⟩ = some (.int .i64 0) := k2d.cell 2
  have b3 : w4.cell? ⟨B2, 3, none⟩ = some (.slice none 0 0) := k2d.cell 3
  have b4 : w4.cell? ⟨B2, 4, none⟩ = some (.slice none 0 0) := k2d.cell 4
  have b5 : w4.cell? ⟨B2, 5, none⟩ = some (.bool false) := k2d.cell 5
  have b6 : w4.cell? ⟨B2, 6, none⟩ = some (.bool false) := k2d.cell 6
  have b7 : w4.cell? ⟨B2, 7, none⟩ = some (.slice none 0 0) := k2d.cell 7
  have b8 : w4.cell? ⟨B2, 8, none⟩ = some (.int .i64 0) := k2d.cell 8
  have b9 : w4.cell? ⟨B2, 9, none⟩ = some (.int .i64 0) := k2d.cell 9
  have b10 : w4.cell? ⟨B2, 10, none⟩ = some (.int .i64 0) := k2d.cell 10
  have zf5 := k5d.frozen
  have zf2 := k2d.frozen
  have hne25 : ¬ B2 = B5 := by omega
  have hne52 : ¬ B5 = B2 := by omega
  have HNE := hide hne25
  go_wp2
  have kf := blk_set11 (k2d.far (p := ⟨B5, 4, none⟩) HNE.out (.slice (some ⟨g4, 0, none⟩) R.start.length R.start.length)) (u0 := (.string R.name)) (u1 := (.int .i64 R.width)) (u2 := (.int .i64 R.height)) (u3 := (.slice pA2 R.pieces.length pc2)) (u4 := (.slice (some ⟨g4, 0, none⟩) R.start.length R.start.length)) (u5 := (.bool R.falls)) (u6 := (.bool R.keeps)) (u7 := (.slice eA2 R.ends.length ec2)) (u8 := (.int .i64 R.blocked)) (u9 := (.int .i64 R.quiet)) (u10 := (.int .i64 R.rept))
  have xf := (ext_set (ext_set (ext_set (ext_set (ext_set (ext_set (ext_set (ext_set (ext_set (ext_set (ext_set (ext_set x4' (p := ⟨B5, 4, none⟩) (by rw [HB1.out]; show B1 ≤ B5; have := hw5.out; omega) (.slice (some ⟨g4, 0, none⟩) R.start.length R.start.length)) (p := ⟨B2, 0, none⟩) (by rw [HB1.out]; exact HL.out) (.string R.name)) (p := ⟨B2, 1, none⟩) (by rw [HB1.out]; exact HL.out) (.int .i64 R.width)) (p := ⟨B2, 2, none⟩) (by rw [HB1.out]; exact HL.out) (.int .i64 R.height)) (p := ⟨B2, 3, none⟩) (by rw [HB1.out]; exact HL.out) (.slice pA2 R.pieces.length pc2)) (p := ⟨B2, 4, none⟩) (by rw [HB1.out]; exact HL.out) (.slice (some ⟨g4, 0, none⟩) R.start.length R.start.length)) (p := ⟨B2, 5, none⟩) (by rw [HB1.out]; exact HL.out) (.bool R.falls)) (p := ⟨B2, 6, none⟩) (by rw [HB1.out]; exact HL.out) (.bool R.keeps)) (p := ⟨B2, 7, none⟩) (by rw [HB1.out]; exact HL.out) (.slice eA2 R.ends.length ec2)) (p := ⟨B2, 8, none⟩) (by rw [HB1.out]; exact HL.out) (.int .i64 R.blocked)) (p := ⟨B2, 9, none⟩) (by rw [HB1.out]; exact HL.out) (.int .i64 R.quiet)) (p := ⟨B2, 10, none⟩) (by rw [HB1.out]; exact HL.out) (.int .i64 R.rept))
  have hb2b := hB2b.out
  have hk := (heap_set_from (heap_set_from (heap_set_from (heap_set_from (heap_set_from (heap_set_from (heap_set_from (heap_set_from (heap_set_from (heap_set_from (heap_set_from (w0 := (w4.setCell ⟨B5, 4, none⟩ (.slice (some ⟨g4, 0, none⟩) R.start.length R.start.length))) (fun _ _ => rfl) (p := ⟨B2, 0, none⟩) (Nat.lt_succ_self B2) (.string R.name)) (p := ⟨B2, 1, none⟩) (Nat.lt_succ_self B2) (.int .i64 R.width)) (p := ⟨B2, 2, none⟩) (Nat.lt_succ_self B2) (.int .i64 R.height)) (p := ⟨B2, 3, none⟩) (Nat.lt_succ_self B2) (.slice pA2 R.pieces.length pc2)) (p := ⟨B2, 4, none⟩) (Nat.lt_succ_self B2) (.slice (some ⟨g4, 0, none⟩) R.start.length R.start.length)) (p := ⟨B2, 5, none⟩) (Nat.lt_succ_self B2) (.bool R.falls)) (p := ⟨B2, 6, none⟩) (Nat.lt_succ_self B2) (.bool R.keeps)) (p := ⟨B2, 7, none⟩) (Nat.lt_succ_self B2) (.slice eA2 R.ends.length ec2)) (p := ⟨B2, 8, none⟩) (Nat.lt_succ_self B2) (.int .i64 R.blocked)) (p := ⟨B2, 9, none⟩) (Nat.lt_succ_self B2) (.int .i64 R.quiet)) (p := ⟨B2, 10, none⟩) (Nat.lt_succ_self B2) (.int .i64 R.rept))
  have o3 := own_from (own_set hP4.out (p := ⟨B5, 4, none⟩) (own_blk_ne hP4.out k5d (by decide)) (.slice (some ⟨g4, 0, none⟩) R.start.length R.start.length)) (Nat.succ_le_of_lt hb2b) (fun k hk' => hk k hk')
  have o7 := own_from (own_set hE4.out (p := ⟨B5, 4, none⟩) (own_blk_ne hE4.out k5d (by decide)) (.slice (some ⟨g4, 0, none⟩) R.start.length R.start.length)) (Nat.succ_le_of_lt hb2b) (fun k hk' => hk k hk')
  have p3 := hPT4.out.keep (fun v n xs h => own_from (own_set h (p := ⟨B5, 4, none⟩) (own_blk_ne h k5d (by decide)) (.slice (some ⟨g4, 0, none⟩) R.start.length R.start.length)) (Nat.succ_le_of_lt hb2b) (fun k hk' => hk k hk'))
  have hg4 : B5 < g4 := by have := HG.out; simp at this; rw [HB5.out] at this; omega
  have rw4 := Row.far HROW.out (p := ⟨B5, 4, none⟩) (by show g4 ≠ B5; omega) (.slice (some ⟨g4, 0, none⟩) R.start.length R.start.length)
  have rwF := (Row.far (Row.far (Row.far (Row.far (Row.far (Row.far (Row.far (Row.far (Row.far (Row.far (Row.far rw4 (p := ⟨B2, 0, none⟩) (by show g4 ≠ B2; omega) (.string R.name)) (p := ⟨B2, 1, none⟩) (by show g4 ≠ B2; omega) (.int .i64 R.width)) (p := ⟨B2, 2, none⟩) (by show g4 ≠ B2; omega) (.int .i64 R.height)) (p := ⟨B2, 3, none⟩) (by show g4 ≠ B2; omega) (.slice pA2 R.pieces.length pc2)) (p := ⟨B2, 4, none⟩) (by show g4 ≠ B2; omega) (.slice (some ⟨g4, 0, none⟩) R.start.length R.start.length)) (p := ⟨B2, 5, none⟩) (by show g4 ≠ B2; omega) (.bool R.falls)) (p := ⟨B2, 6, none⟩) (by show g4 ≠ B2; omega) (.bool R.keeps)) (p := ⟨B2, 7, none⟩) (by show g4 ≠ B2; omega) (.slice eA2 R.ends.length ec2)) (p := ⟨B2, 8, none⟩) (by show g4 ≠ B2; omega) (.int .i64 R.blocked)) (p := ⟨B2, 9, none⟩) (by show g4 ≠ B2; omega) (.int .i64 R.quiet)) (p := ⟨B2, 10, none⟩) (by show g4 ≠ B2; omega) (.int .i64 R.rept))
  clear hk rw4
  generalize ((((((((((((w4.setCell ⟨B5, 4, none⟩ (.slice (some ⟨g4, 0, none⟩) R.start.length R.start.length)).setCell ⟨B2, 0, none⟩ (.string R.name)).setCell ⟨B2, 1, none⟩ (.int .i64 R.width)).setCell ⟨B2, 2, none⟩ (.int .i64 R.height)).setCell ⟨B2, 3, none⟩ (.slice pA2 R.pieces.length pc2)).setCell ⟨B2, 4, none⟩ (.slice (some ⟨g4, 0, none⟩) R.start.length R.start.length)).setCell ⟨B2, 5, none⟩ (.bool R.falls)).setCell ⟨B2, 6, none⟩ (.bool R.keeps)).setCell ⟨B2, 7, none⟩ (.slice eA2 R.ends.length ec2)).setCell ⟨B2, 8, none⟩ (.int .i64 R.blocked)).setCell ⟨B2, 9, none⟩ (.int .i64 R.quiet)).setCell ⟨B2, 10, none⟩ (.int .i64 R.rept)) = Wf at *
  have rr0 : Wf.cell? ⟨B2, 0, none⟩ = some (.string R.name) := kf.cell 0
  have rr1 : Wf.cell? ⟨B2, 1, none⟩ = some (.int .i64 R.width) := kf.cell 1
  have rr2 : Wf.cell? ⟨B2, 2, none⟩ = some (.int .i64 R.height) := kf.cell 2
  have rr3 : Wf.cell? ⟨B2, 3, none⟩ = some (.slice pA2 R.pieces.length pc2) := kf.cell 3
  have rr4 : Wf.cell? ⟨B2, 4, none⟩ = some (.slice (some ⟨g4, 0, none⟩) R.start.length R.start.length) := kf.cell 4
  have rr5 : Wf.cell? ⟨B2, 5, none⟩ = some (.bool R.falls) := kf.cell 5
  have rr6 : Wf.cell? ⟨B2, 6, none⟩ = some (.bool R.keeps) := kf.cell 6
  have rr7 : Wf.cell? ⟨B2, 7, none⟩ = some (.slice eA2 R.ends.length ec2) := kf.cell 7
  have rr8 : Wf.cell? ⟨B2, 8, none⟩ = some (.int .i64 R.blocked) := kf.cell 8
  have rr9 : Wf.cell? ⟨B2, 9, none⟩ = some (.int .i64 R.quiet) := kf.cell 9
  have rr10 : Wf.cell? ⟨B2, 10, none⟩ = some (.int .i64 R.rept) := kf.cell 10
  refine bodyPost_ret (v := .tuple #[.agg #[.string R.name, .int .i64 R.width, .int .i64 R.height, .slice pA2 R.pieces.length pc2, .slice (some ⟨g4, 0, none⟩) R.start.length R.start.length, .bool R.falls, .bool R.keeps, .slice eA2 R.ends.length ec2, .int .i64 R.blocked, .int .i64 R.quiet, .int .i64 R.rept], .int .i64 0]) ?_ rfl ?_
  · simp [results, Try.results16, go_sem, rr0, rr1, rr2, rr3, rr4, rr5, rr6, rr7, rr8, rr9, rr10]
  · refine ⟨_, rfl, ⟨pA2, pc2, some ⟨g4, 0, none⟩, R.start.length, eA2, ec2, ?_, p3.done rfl o3, rwF.ints, (own_cells o7).1, own_cap o3, ?_, own_cap o7, hnm⟩, xf⟩
    · show _ = Value.agg #[.string R.name, .int .i64 R.width, .int .i64 R.height, .slice pA2 R.pieces.length pc2, .slice (some ⟨g4, 0, none⟩) (turnCells R.width R.height R.start).length R.start.length, .bool R.falls, .bool R.keeps, .slice eA2 R.ends.length ec2, .int .i64 R.blocked, .int .i64 R.quiet, .int .i64 R.rept]
      rw [turnCells_length]
    · show (turnCells R.width R.height R.start).length ≤ R.start.length
      rw [turnCells_length]
      exact Nat.le_refl _
end Go.Proofs.Ytcfiannlpkofpaa
