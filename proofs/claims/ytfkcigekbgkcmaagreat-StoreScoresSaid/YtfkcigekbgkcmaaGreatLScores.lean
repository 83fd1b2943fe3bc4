/- Walk: the law StoreScores. -/
import Derived.Test.YtfkcigekbgkcmaaGreatStoreD
import Derived.Test.YtfkcigekbgkcmaaGreatGPlays
import Derived.Test.YtfkcigekbgkcmaaGreatGSmall
import Derived.Test.YtfkcigekbgkcmaaGreatGPerft
namespace Go.Proofs.YtfkcigekbgkcmaaGreat
open Go.ChangeShapes Go.WideShapes Go.ChangeAt Go.RowKit Go.Shelf
set_option linter.unusedVariables false
set_option linter.unusedSimpArgs false
theorem slot_mod (n : Int) (hn : 1 ≤ n) (hb : n ≤ 1000) (a K : Int) (h : (wrap64 (a.tmod n + n)).tmod n = K) : 0 ≤ K ∧ K < n := by
  obtain ⟨h1, h2, h3, h4⟩ := some_idx (n := a) (l := n) hn
  have e : wrap64 (a.tmod n + n) = a.tmod n + n := by unfold wrap64; omega
  rw [e] at h
  omega
theorem run_minS (W : World) (ats : Array TypeId) (ty : TypeId) (n k : Nat) : (Builtin.min_ ats ty #[.int .i64 (n : Int), .int .i64 (k : Int)]).run Tryz.prog W = .ok (.int .i64 ((min n k : Nat) : Int)) W := by
  have e : ((min n k : Nat) : Int) = if (k : Int) < (n : Int) then (k : Int) else (n : Int) := by split <;> omega
  rw [e]
  simp [Builtin.min_, Builtin.min2]
def AboveS (w : World) (b : Nat) : Prop := w.heap.size ≤ b
theorem StoreAt.base {w1 w0 w : World} {BS g : Nat} {R : RulesM} {f : Int} {L : List (Option SlotM)} (h : StoreAt w0 w BS g R f L) (x : Ext w1 w0) : StoreAt w1 w BS g R f L := by
  obtain ⟨pA, pc, sA, sc, eA, ec, base, cs, h1, h2, h3, h4, h5, h6, h7, h8⟩ := h
  exact ⟨pA, pc, sA, sc, eA, ec, base, cs, h1, h2, h3, h4, h5, Nat.le_trans x.size h6, Nat.le_trans x.size h7, ext_trans x h8⟩
/-- A store whose scores are right. -/
def SInv (w W : World) (BS g n : Nat) (R : RulesM) : Prop := ∃ f L, StoreAt w W BS g R f L ∧ L.length = n ∧ RightS R L ∧ SoundS R L
theorem SInv.ext {w W V : World} {BS g n : Nat} {R : RulesM} (h : SInv w W BS g n R) (x : Ext W V) : SInv w V BS g n R := by
  obtain ⟨f, L, h1, h2⟩ := h
  exact ⟨f, L, h1.ext x, h2⟩
/-- A box of a position. -/
def PBox (w0 W : World) (B : Nat) (Q : PosM) : Prop := ∃ q0 e0 q1 e1 q2 e2, Blk W B 29 #[.slice q0 Q.cells.length e0, .slice q1 Q.hand0.length e1, .slice q2 Q.hand1.length e2, .int .i64 Q.turn, .int .i64 Q.quiet] ∧ PosS w0 W (.agg #[.slice q0 Q.cells.length e0, .slice q1 Q.hand0.length e1, .slice q2 Q.hand1.length e2, .int .i64 Q.turn, .int .i64 Q.quiet]) Q
theorem PBox.ext {w0 W V : World} {B : Nat} {Q : PosM} (h : PBox w0 W B Q) (x : Ext W V) : PBox w0 V B Q := by
  obtain ⟨q0, e0, q1, e1, q2, e2, k, p⟩ := h
  exact ⟨q0, e0, q1, e1, q2, e2, k.ext x, p.tfr (ts := []) (by simp) (TFr.of_ext x)⟩
theorem PBox.put {w0 W : World} {B : Nat} {Q : PosM} {g0 d0 g1 d1 g2 d2 : Nat} {o0 o1 o2 o3 o4 : Value} (k : Blk W B 29 #[o0, o1, o2, o3, o4]) (p : PosI W (.agg #[.slice (some ⟨g0, 0, none⟩) Q.cells.length d0, .slice (some ⟨g1, 0, none⟩) Q.hand0.length d1, .slice (some ⟨g2, 0, none⟩) Q.hand1.length d2, .int .i64 Q.turn, .int .i64 Q.quiet]) Q) :
    PBox w0 (((((W.setCell ⟨B, 0, none⟩ (.slice (some ⟨g0, 0, none⟩) Q.cells.length d0)).setCell ⟨B, 1, none⟩ (.slice (some ⟨g1, 0, none⟩) Q.hand0.length d1)).setCell ⟨B, 2, none⟩ (.slice (some ⟨g2, 0, none⟩) Q.hand1.length d2)).setCell ⟨B, 3, none⟩ (.int .i64 Q.turn)).setCell ⟨B, 4, none⟩ (.int .i64 Q.quiet)) B Q :=
  ⟨_, _, _, _, _, _, blk_set5 k, .inr (p.far5 k)⟩
theorem tfr_box {W : World} {B : Nat} {o0 o1 o2 o3 o4 u0 u1 u2 u3 u4 : Value} (k : Blk W B 29 #[o0, o1, o2, o3, o4]) : TFr [29] W (((((W.setCell ⟨B, 0, none⟩ u0).setCell ⟨B, 1, none⟩ u1).setCell ⟨B, 2, none⟩ u2).setCell ⟨B, 3, none⟩ u3).setCell ⟨B, 4, none⟩ u4) := by
  have h : 29 ∈ [29] := by simp
  have k1 := k.set_ 0 u0
  have k2 := k1.set_ 1 u1
  have k3 := k2.set_ 2 u2
  have k4 := k3.set_ 3 u3
  exact (TFr.set k h 0 u0).trans ((TFr.set k1 h 1 u1).trans ((TFr.set k2 h 2 u2).trans ((TFr.set k3 h 3 u3).trans (TFr.set k4 h 4 u4))))
theorem blk_box {W : World} {B G : Nat} {T : TypeId} {cs : Array Value} {o0 o1 o2 o3 o4 u0 u1 u2 u3 u4 : Value} (h : Blk W G T cs) (k : Blk W B 29 #[o0, o1, o2, o3, o4]) (hT : T ≠ 29) : Blk (((((W.setCell ⟨B, 0, none⟩ u0).setCell ⟨B, 1, none⟩ u1).setCell ⟨B, 2, none⟩ u2).setCell ⟨B, 3, none⟩ u3).setCell ⟨B, 4, none⟩ u4) G T cs :=
  tfr_box k G T cs h (by simpa using hT)
theorem SInv.box {w W : World} {BS g n B : Nat} {R : RulesM} {o0 o1 o2 o3 o4 u0 u1 u2 u3 u4 : Value} (h : SInv w W BS g n R) (k : Blk W B 29 #[o0, o1, o2, o3, o4]) (hb : AboveS w B) : SInv w (((((W.setCell ⟨B, 0, none⟩ u0).setCell ⟨B, 1, none⟩ u1).setCell ⟨B, 2, none⟩ u2).setCell ⟨B, 3, none⟩ u3).setCell ⟨B, 4, none⟩ u4) BS g n R := by
  obtain ⟨f, L, h0, hl, hr, hs⟩ := h
  obtain ⟨pA, pc, sA, sc, eA, ec, base, cs, h1, h2, h3, h4, h5, h6, h7, h8⟩ := h0
  have F := tfr_box (u0 := u0) (u1 := u1) (u2 := u2) (u3 := u3) (u4 := u4) k
  have hg := blk_box (u0 := u0) (u1 := u1) (u2 := u2) (u3 := u3) (u4 := u4) h3 k (by decide)
  refine ⟨f, L, ⟨pA, pc, sA, sc, eA, ec, base, cs, blk_box h1 k (by decide), h2.tfr ⟨by decide, by decide, by decide, by decide⟩ F, hg, h4, fun i x hi => ?_, h6, h7, ?_⟩, hl, hr, hs⟩
  · obtain ⟨b, A0, n0, k0, A1, n1, k1, A2, n2, k2, t, q, d, s, c0, c1, c2, c3, c4, c5, c6, c7, c8⟩ := h5 i x hi
    have hc : ∀ j v, W.cell? ⟨g, j, none⟩ = some v → (((((W.setCell ⟨B, 0, none⟩ u0).setCell ⟨B, 1, none⟩ u1).setCell ⟨B, 2, none⟩ u2).setCell ⟨B, 3, none⟩ u3).setCell ⟨B, 4, none⟩ u4).cell? ⟨g, j, none⟩ = some v := fun j v hv => by
      rw [hg.cell, ← h3.cell]; exact hv
    exact ⟨b, A0, n0, k0, A1, n1, k1, A2, n2, k2, t, q, d, s, hc _ _ c0, hc _ _ c1, hc _ _ c2, hc _ _ c3, hc _ _ c4, hc _ _ c5, hc _ _ c6, hc _ _ c7, c8.tfr (by decide) F⟩
  · exact ext_set (ext_set (ext_set (ext_set (ext_set h8 (p := ⟨B, 0, none⟩) hb _) (p := ⟨B, 1, none⟩) hb _) (p := ⟨B, 2, none⟩) hb _) (p := ⟨B, 3, none⟩) hb _) (p := ⟨B, 4, none⟩) hb _
set_option maxHeartbeats 8000000 in
set_option maxRecDepth 100000 in
theorem storeScores_no (R : RulesM) (P : PosM) (v u : Value) (D s : Int) (A : Option Addr) (n c : Nat) (ps : List Int) (w : World) (hR : RulesAt w v R) (hP : PosAt w u P) (hz : IntsAt w A ps) (hpl : ps.length = n) (hnm : n ≤ 9223372036854775807) (k : Nat) (hK : (wrap64 (s.tmod 64 + 64)).tmod 64 = (k : Int)) (k1 : k < 64) (he : rulesE R ≠ 0) :
    Calls Tryz.prog 3 #[v, u, .int .i64 D, .int .i64 s, .slice A n c] w fun e w' => e = .returned (.bool true) ∧ Ext w w' := by
  have HN := hide (fun W (v1 : Value) (h1 : RulesAt W v1 R) => sNew_no R v1 ((k : Int) + 1) W h1 he)
  have hwk : IntKind.i64.wrap ((k : Int) + 1) = (k : Int) + 1 := by rw [IntKind.wrap_i64]; omega
  have k0 : (0 : Int) ≤ (k : Int) := by omega
  have k2 : (k : Int) < 64 := by omega
  have t0 : (rulesE R != 0) = true := by simpa using he
  clear he
  generalize rulesE R = E at *
  have HR0 := hide hR
  have HP0 := hide hP
  have HZ0 := hide hz
  have hR0 := hR
  have hP0 := hP
  obtain ⟨pA, pc, sA, sc, eA, ec, rfl, -⟩ := hR0
  obtain ⟨cA, cc, aA, ac, bA, bc, rfl, -⟩ := hP0
  clear hP hz
  have HAB : Hid (AboveS w w.heap.size ∧ AboveS w (w.heap.size + 1)) := hide ⟨Nat.le_refl _, Nat.le_succ _⟩
  go_enter Tryz.func3, Tryz.ntmps3
  go_wp2_with fail
  obtain ⟨xa, kR, kP⟩ := blks2 w #[.string R.name, .int .i64 R.width, .int .i64 R.height, .slice pA R.pieces.length pc, .slice sA R.start.length sc, .bool R.falls, .bool R.keeps, .slice eA R.ends.length ec, .int .i64 R.blocked, .int .i64 R.quiet, .int .i64 R.rept] 26 #[.slice cA P.cells.length cc, .slice aA P.hand0.length ac, .slice bA P.hand1.length bc, .int .i64 P.turn, .int .i64 P.quiet] 29
  replace hR := hR.ext xa
  have X := xa
  clear xa
  generalize ((w.alloc (.cells #[.string R.name, .int .i64 R.width, .int .i64 R.height, .slice pA R.pieces.length pc, .slice sA R.start.length sc, .bool R.falls, .bool R.keeps, .slice eA R.ends.length ec, .int .i64 R.blocked, .int .i64 R.quiet, .int .i64 R.rept] 26)).alloc (.cells #[.slice cA P.cells.length cc, .slice aA P.hand0.length ac, .slice bA P.hand1.length bc, .int .i64 P.turn, .int .i64 P.quiet] 29)) = w2 at *
  generalize w.heap.size + 1 = BP at *
  generalize w.heap.size = BR at *
  refine (stored_any _).mono ?_
  rintro e w3 ⟨rfl, x⟩
  replace hR := hR.ext x
  replace kR := kR.ext x
  replace kP := kP.ext x
  replace X := ext_trans X x
  clear x
  go_wp2_with fail
  refine (scored_any _).mono ?_
  rintro e w4 ⟨rfl, x⟩
  replace hR := hR.ext x
  replace kR := kR.ext x
  replace kP := kP.ext x
  replace X := ext_trans X x
  clear x
  go_wp2_with fail
  refine (plays_any _).mono ?_
  rintro e w5 ⟨rfl, x⟩
  replace hR := hR.ext x
  replace kR := kR.ext x
  replace kP := kP.ext x
  replace X := ext_trans X x
  clear x
  have fR := kR.cell
  go_wp2_with fail
  refine (HN.out _ _ hR).mono ?_
  rintro e w6 ⟨rfl, x⟩
  replace hR := hR.ext x
  replace kR := kR.ext x
  replace kP := kP.ext x
  replace X := ext_trans X x
  replace fR := kR.cell
  clear x
  clear fR
  go_wp2
  all_goals go_ret
  all_goals exact ⟨by first | rfl | simp, X⟩
set_option maxHeartbeats 8000000 in
set_option maxRecDepth 100000 in
theorem storeScores_heavy (R : RulesM) (P : PosM) (v u : Value) (D s : Int) (A : Option Addr) (n c : Nat) (ps : List Int) (w : World) (hR : RulesAt w v R) (hP : PosAt w u P) (hz : IntsAt w A ps) (hpl : ps.length = n) (hnm : n ≤ 9223372036854775807) (k : Nat) (hK : (wrap64 (s.tmod 64 + 64)).tmod 64 = (k : Int)) (k1 : k < 64) (hV : Valid R) (hh : heavyB R P D = true) :
    Calls Tryz.prog 3 #[v, u, .int .i64 D, .int .i64 s, .slice A n c] w fun e w' => e = .returned (.bool true) ∧ Ext w w' := by
  have HN := hide (fun W (v1 : Value) (h1 : RulesAt W v1 R) => sNew_yes R v1 (k + 1) W h1 hV (by omega) (by omega))
  rw [show ((k + 1 : Nat) : Int) = (k : Int) + 1 from by omega] at HN
  unfold SNewPost at HN
  have hwk : IntKind.i64.wrap ((k : Int) + 1) = (k : Int) + 1 := by rw [IntKind.wrap_i64]; omega
  have k0 : (0 : Int) ≤ (k : Int) := by omega
  have k2 : (k : Int) < 64 := by omega
  have HV := hide hV
  clear hV
  have HHV := hide (fun (Q : PosM) W (v1 v2 : Value) (h1 : RulesAt W v1 R) (h2 : PosAt W v2 Q) => heavy_any R Q v1 v2 D W h1 h2)
  have HR0 := hide hR
  have HP0 := hide hP
  have HZ0 := hide hz
  have hR0 := hR
  have hP0 := hP
  obtain ⟨pA, pc, sA, sc, eA, ec, rfl, -⟩ := hR0
  obtain ⟨cA, cc, aA, ac, bA, bc, rfl, -⟩ := hP0
  clear hP hz
  have HAB : Hid (AboveS w w.heap.size ∧ AboveS w (w.heap.size + 1)) := hide ⟨Nat.le_refl _, Nat.le_succ _⟩
  go_enter Tryz.func3, Tryz.ntmps3
  go_wp2_with fail
  obtain ⟨xa, kR, kP⟩ := blks2 w #[.string R.name, .int .i64 R.width, .int .i64 R.height, .slice pA R.pieces.length pc, .slice sA R.start.length sc, .bool R.falls, .bool R.keeps, .slice eA R.ends.length ec, .int .i64 R.blocked, .int .i64 R.quiet, .int .i64 R.rept] 26 #[.slice cA P.cells.length cc, .slice aA P.hand0.length ac, .slice bA P.hand1.length bc, .int .i64 P.turn, .int .i64 P.quiet] 29
  replace hR := hR.ext xa
  have X := xa
  clear xa
  generalize ((w.alloc (.cells #[.string R.name, .int .i64 R.width, .int .i64 R.height, .slice pA R.pieces.length pc, .slice sA R.start.length sc, .bool R.falls, .bool R.keeps, .slice eA R.ends.length ec, .int .i64 R.blocked, .int .i64 R.quiet, .int .i64 R.rept] 26)).alloc (.cells #[.slice cA P.cells.length cc, .slice aA P.hand0.length ac, .slice bA P.hand1.length bc, .int .i64 P.turn, .int .i64 P.quiet] 29)) = w2 at *
  generalize w.heap.size + 1 = BP at *
  generalize w.heap.size = BR at *
  refine (stored_any _).mono ?_
  rintro e w3 ⟨rfl, x⟩
  replace hR := hR.ext x
  replace kR := kR.ext x
  replace kP := kP.ext x
  replace X := ext_trans X x
  clear x
  go_wp2_with fail
  refine (scored_any _).mono ?_
  rintro e w4 ⟨rfl, x⟩
  replace hR := hR.ext x
  replace kR := kR.ext x
  replace kP := kP.ext x
  replace X := ext_trans X x
  clear x
  go_wp2_with fail
  refine (plays_any _).mono ?_
  rintro e w5 ⟨rfl, x⟩
  replace hR := hR.ext x
  replace kR := kR.ext x
  replace kP := kP.ext x
  replace X := ext_trans X x
  clear x
  have fR := kR.cell
  go_wp2_with fail
  refine (HN.out _ _ hR).mono ?_
  rintro e wS ⟨BS, g, rfl, st⟩
  have xs := st.old
  have S0 : Hid (SInv w wS BS g (k + 1) R) := hide ⟨0, _, st.base X, by rw [List.length_replicate], rightS_new _ _, soundS_new _ _⟩
  have KR := hide (kR.ext xs)
  have KP := hide (kP.ext xs)
  have X0 := hide (ext_trans X xs)
  clear st xs HN hR kR kP X fR
  have fR := KR.out.cell
  have fP := KP.out.cell
  have HH0 := hide (HHV.out P _ _ _ (HR0.out.ext X0.out) (HP0.out.ext X0.out))
  rw [hh] at HH0
  clear hh
  go_wp2_with fail
  refine HH0.out.mono ?_
  rintro e wh ⟨rfl, xh⟩
  have X1 := hide (ext_trans X0.out xh)
  clear fR fP xh HH0
  go_wp2
  go_ret
  exact ⟨by first | rfl | simp, X1.out⟩
set_option maxHeartbeats 8000000 in
set_option maxRecDepth 100000 in
theorem storeScores_yes (R : RulesM) (P : PosM) (v u : Value) (D s : Int) (A : Option Addr) (n c : Nat) (ps : List Int) (w : World) (hR : RulesAt w v R) (hP : PosAt w u P) (hz : IntsAt w A ps) (hpl : ps.length = n) (hnm : n ≤ 9223372036854775807) (k : Nat) (hK : (wrap64 (s.tmod 64 + 64)).tmod 64 = (k : Int)) (k1 : k < 64) (hV : Valid R) (hh : heavyB R P D = false) :
    Calls Tryz.prog 3 #[v, u, .int .i64 D, .int .i64 s, .slice A n c] w fun e w' => e = .returned (.bool true) ∧ Ext w w' := by
  have HN := hide (fun W (v1 : Value) (h1 : RulesAt W v1 R) => sNew_yes R v1 (k + 1) W h1 hV (by omega) (by omega))
  rw [show ((k + 1 : Nat) : Int) = (k : Int) + 1 from by omega] at HN
  unfold SNewPost at HN
  have hwk : IntKind.i64.wrap ((k : Int) + 1) = (k : Int) + 1 := by rw [IntKind.wrap_i64]; omega
  have k0 : (0 : Int) ≤ (k : Int) := by omega
  have k2 : (k : Int) < 64 := by omega
  have HV := hide hV
  clear hV
  have HHV := hide (fun (Q : PosM) W (v1 v2 : Value) (h1 : RulesAt W v1 R) (h2 : PosAt W v2 Q) => heavy_any R Q v1 v2 D W h1 h2)
  have HNM := hide hnm
  have HHP := hide hh
  obtain ⟨M, hM⟩ : ∃ M : Nat, M = min n 3 := ⟨_, rfl⟩
  have hmin : ∀ W ats ty, (Builtin.min_ ats ty #[.int .i64 (n : Int), .int .i64 3]).run Tryz.prog W = .ok (.int .i64 (M : Int)) W := fun W ats ty => by rw [hM]; exact run_minS W ats ty n 3
  have hM3 : M ≤ 3 ∧ M ≤ n := by omega
  obtain ⟨m3, mn⟩ := hM3
  have HPL := hide hpl
  clear hM hpl hnm
  have HR0 := hide hR
  have HP0 := hide hP
  have HZ0 := hide hz
  have hR0 := hR
  have hP0 := hP
  obtain ⟨pA, pc, sA, sc, eA, ec, rfl, -⟩ := hR0
  obtain ⟨cA, cc, aA, ac, bA, bc, rfl, -⟩ := hP0
  clear hP hz
  have HAB : Hid (AboveS w w.heap.size ∧ AboveS w (w.heap.size + 1)) := hide ⟨Nat.le_refl _, Nat.le_succ _⟩
  go_enter Tryz.func3, Tryz.ntmps3
  go_wp2_with fail
  obtain ⟨xa, kR, kP⟩ := blks2 w #[.string R.name, .int .i64 R.width, .int .i64 R.height, .slice pA R.pieces.length pc, .slice sA R.start.length sc, .bool R.falls, .bool R.keeps, .slice eA R.ends.length ec, .int .i64 R.blocked, .int .i64 R.quiet, .int .i64 R.rept] 26 #[.slice cA P.cells.length cc, .slice aA P.hand0.length ac, .slice bA P.hand1.length bc, .int .i64 P.turn, .int .i64 P.quiet] 29
  replace hR := hR.ext xa
  have X := xa
  clear xa
  generalize ((w.alloc (.cells #[.string R.name, .int .i64 R.width, .int .i64 R.height, .slice pA R.pieces.length pc, .slice sA R.start.length sc, .bool R.falls, .bool R.keeps, .slice eA R.ends.length ec, .int .i64 R.blocked, .int .i64 R.quiet, .int .i64 R.rept] 26)).alloc (.cells #[.slice cA P.cells.length cc, .slice aA P.hand0.length ac, .slice bA P.hand1.length bc, .int .i64 P.turn, .int .i64 P.quiet] 29)) = w2 at *
  generalize w.heap.size + 1 = BP at *
  generalize w.heap.size = BR at *
  refine (stored_any _).mono ?_
  rintro e w3 ⟨rfl, x⟩
  replace hR := hR.ext x
  replace kR := kR.ext x
  replace kP := kP.ext x
  replace X := ext_trans X x
  clear x
  go_wp2_with fail
  refine (scored_any _).mono ?_
  rintro e w4 ⟨rfl, x⟩
  replace hR := hR.ext x
  replace kR := kR.ext x
  replace kP := kP.ext x
  replace X := ext_trans X x
  clear x
  go_wp2_with fail
  refine (plays_any _).mono ?_
  rintro e w5 ⟨rfl, x⟩
  replace hR := hR.ext x
  replace kR := kR.ext x
  replace kP := kP.ext x
  replace X := ext_trans X x
  clear x
  have fR := kR.cell
  go_wp2_with fail
  refine (HN.out _ _ hR).mono ?_
  rintro e wS ⟨BS, g, rfl, st⟩
  have xs := st.old
  have S0 : Hid (SInv w wS BS g (k + 1) R) := hide ⟨0, _, st.base X, by rw [List.length_replicate], rightS_new _ _, soundS_new _ _⟩
  have KR := hide (kR.ext xs)
  have KP := hide (kP.ext xs)
  have X0 := hide (ext_trans X xs)
  clear st xs HN hR kR kP X fR
  have fR := KR.out.cell
  have fP := KP.out.cell
  have HH0 := hide (HHV.out P _ _ _ (HR0.out.ext X0.out) (HP0.out.ext X0.out))
  rw [hh] at HH0
  clear hh
  go_wp2_with fail
  refine HH0.out.mono ?_
  rintro e wh ⟨rfl, xh⟩
  
  have S1 : Hid (SInv w wh BS g (k + 1) R) := hide (S0.out.ext xh)
  have KR1 := hide (KR.out.ext xh)
  have KP1 := hide (KP.out.ext xh)
  have X1 := hide (ext_trans X0.out xh)
  clear fR fP xh S0 KR KP X0 HH0
  have hwm : IntKind.i64.wrap ((M : Int) + 1) = (M : Int) + 1 := by rw [IntKind.wrap_i64]; omega
  go_wp2
  clear hmin
  go_loopw [57] (fun i wr => ∃ j : Nat, j ≤ M + 1 ∧ i = .int .i64 j ∧ Ext w wr ∧ Blk wr BR 26 #[.string R.name, .int .i64 R.width, .int .i64 R.height, .slice pA R.pieces.length pc, .slice sA R.start.length sc, .bool R.falls, .bool R.keeps, .slice eA R.ends.length ec, .int .i64 R.blocked, .int .i64 R.quiet, .int .i64 R.rept] ∧ SInv w wr BS g (k + 1) R ∧ ∃ Q, PBox w wr BP Q ∧ Hid (heavyB R Q D = false)) (fun i _ => M + 1 - (intOf i).toNat)
  case atStart => exact ⟨0, by omega, rfl, X1.out, KR1.out, S1.out, P, ⟨_, _, _, _, _, _, KP1.out, .inl HP0.out⟩, HHP⟩
  case round =>
    obtain ⟨j, hj, rfl, xr, kr, si, Q, ⟨q0, e0, q1, e1, q2, e2, kq, pq⟩, HHQ⟩ := hrel
    have XR := hide xr
    have KR2 := hide kr
    have KQ2 := hide kq
    have PQ := hide pq
    obtain ⟨f, L, st, hl, hr, hs⟩ := si
    have ST := hide st
    have HL := hide hl
    have HRt := hide hr
    have HSo := hide hs
    have HL0 : Hid (0 < L.length ∧ L.length ≤ 4096) := hide (by omega)
    clear xr kr kq pq st hl hr hs
    by_cases hjl : j < M + 1
    · have tj : decide ((j : Int) < (M : Int) + 1) = true := decide_eq_true (by omega)
      have fR := KR2.out.cell
      have fP := KQ2.out.cell
      by_cases hp : perftE R Q D = 0
      · obtain ⟨hVQ, hSQ, -⟩ := perft_zero hp
        have HSQ := hide hSQ
        have HSC := hide (sScore_yes (D := D) ST.out HL0.out.1 HL0.out.2 HRt.out HSo.out PQ.out hp)
        have HMS := hide (fun W (v1 v2 : Value) (h1 : RulesAt W v1 R) (h2 : PosAt W v2 Q) => MScore_any R Q v1 v2 D W h1 h2)
        rw [hp, show scoreM R Q D = ofM R D.toNat Q from if_pos hp] at HMS
        clear hp hVQ hSQ
        generalize ofM R D.toNat Q = z at *
        unfold SScorePost SLoop at HSC
        go_wp2_with fail
        refine HSC.out.mono ?_
        rintro e wa ⟨rfl, ⟨f3, L3, st3, hl3, hr3, hs3⟩, fr3⟩
        have ST3 := hide st3
        have HL3 := hide (hl3.trans HL.out)
        have HR3 := hide hr3
        have HS3 := hide hs3
        have KR3 := hide (fr3.blk (by decide) KR2.out)
        have KQ3 := hide (fr3.blk (by decide) KQ2.out)
        have PQ3 := hide (PQ.out.tfr int_tsS fr3.1)
        have XA := hide st3.old
        clear st3 hl3 hr3 hs3 fr3 fR fP HSC ST HRt HSo KR2 KQ2 PQ XR HL HL0
        have fR := KR3.out.cell
        have fP := KQ3.out.cell
        have hwz : (z != z) = false := by simp
        go_wp2_with fail
        refine (HMS.out _ _ _ (HR0.out.ext XA.out) (PQ3.out.at_ XA.out)).mono ?_
        rintro e wb ⟨rfl, xb⟩
        have ST4 := hide (ST3.out.ext xb)
        have KR4 := hide (KR3.out.ext xb)
        have KQ4 := hide (KQ3.out.ext xb)
        have PQ4 := hide (PQ3.out.tfr (ts := []) (by simp) (TFr.of_ext xb))
        have HLN := hide (sLen_any ST4.out (by have := HL3.out; omega))
        have hu := usedN_le L3
        have tu : decide ((k : Int) + 1 < (usedN L3 : Int)) = false := decide_eq_false (by have := HL3.out; omega)
        clear xb fR fP HMS ST3 KR3 KQ3 PQ3 XA hu
        generalize usedN L3 = un at *
        go_wp2_with fail
        refine HLN.out.mono ?_
        rintro e wc ⟨rfl, xc⟩
        have ST5 := hide (ST4.out.ext xc)
        have KR5 := hide (KR4.out.ext xc)
        have KQ5 := hide (KQ4.out.ext xc)
        have PQ5 := hide (PQ4.out.tfr (ts := []) (by simp) (TFr.of_ext xc))
        have HAL := hide (All_yes R Q _ _ wc (HR0.out.ext ST5.out.old) (PQ5.out.at_ ST5.out.old) HV.out HSQ.out)
        have HLL := hide (listM_len HV.out HSQ.out)
        have HAF := hide (fun (m : MoveM) (hm : m ∈ listM R Q) W (v1 v2 : Value) (h1 : RulesAt W v1 R) (h2 : PosAt W v2 Q) => After_yes R Q m v1 v2 W h1 h2 HV.out HSQ.out hm)
        unfold AllPost at HAL
        have fR := KR5.out.cell
        have fP := KQ5.out.cell
        clear xc HLN ST4 KR4 KQ4 PQ4
        go_wp2_with fail
        refine HAL.out.mono ?_
        rintro e wd ⟨vl, rfl, own, xd⟩
        have ST6 := hide (ST5.out.ext xd)
        have KR6 := hide (KR5.out.ext xd)
        have KQ6 := hide (KQ5.out.ext xd)
        have PQ6 := hide (PQ5.out.tfr (ts := []) (by simp) (TFr.of_ext xd))
        have ML := hide own.at_
        have hml := own.at_
        obtain ⟨AL, cL, rfl, -⟩ := hml
        clear xd own HAL ST5 KR5 KQ5 PQ5 fR fP
        have hll := HLL.out
        by_cases hle : listM R Q = []
        · rw [hle]
          clear HAF hle hll
          go_wp2
          go_ret
          exact ⟨by first | rfl | simp, ST6.out.old⟩
        · have tl : (((listM R Q).length : Int) == 0) = false := by
            have : (listM R Q).length ≠ 0 := fun h => hle (List.eq_nil_of_length_eq_zero h)
            simp; omega
          by_cases hjn : j = n
          · have tn : ((j : Int) == (n : Int)) = true := by simp; omega
            clear HAF
            generalize listM R Q = L1 at *
            clear hle hjn
            go_wp2
            go_ret
            exact ⟨by first | rfl | simp, ST6.out.old⟩
          · have tn : ((j : Int) == (n : Int)) = false := by simp; omega
            have hjn2 : j < n := by omega
            have HSM := hide (fun (W : World) (pk : Int) (h : MovesAt W (.slice AL (listM R Q).length cL) (listM R Q)) => some_move (listM R Q) pk _ W h hll hle)
            unfold SomePost at HSM
            obtain ⟨pb, po, hpa, hpc⟩ := HZ0.out j (by have := HPL.out; omega)
            have PC := hide hpc
            generalize ps.getD j 0 = pk at *
            subst hpa
            have i0 : (0 : Int) ≤ (j : Int) := by omega
            have i1 : (j : Int) < (n : Int) := by omega
            generalize hL1 : listM R Q = L1 at *
            have HMK := hide (fun (m : MoveM) (hm : m ∈ L1) => sound_make HV.out HSQ.out (mem_listM.1 (hL1 ▸ hm)))
            clear hL1 hle hjn hpc
            have HB2 := hide HAB.out.2
            go_upto_region 19 with fail
            have ss := KQ6.out.drew
  
            have keepK := hide (fun W (h : (Ext w W ∧ Blk W BR 26 #[.string R.name, .int .i64 R.width, .int .i64 R.height, .slice pA R.pieces.length pc, .slice sA R.start.length sc, .bool R.falls, .bool R.keeps, .slice eA R.ends.length ec, .int .i64 R.blocked, .int .i64 R.quiet, .int .i64 R.rept])) => (show (fun W => W.cell? ⟨BR, 0, none⟩ = some (.string R.name) ∧ W.cell? ⟨BR, 1, none⟩ = some (.int .i64 R.width) ∧ W.cell? ⟨BR, 2, none⟩ = some (.int .i64 R.height) ∧ W.cell? ⟨BR, 3, none⟩ = some (.slice pA R.pieces.length pc) ∧ W.cell? ⟨BR, 4, none⟩ = some (.slice sA R.start.length sc) ∧ W.cell? ⟨BR, 5, none⟩ = some (.bool R.falls) ∧ W.cell? ⟨BR, 6, none⟩ = some (.bool R.keeps) ∧ W.cell? ⟨BR, 7, none⟩ = some (.slice eA R.ends.length ec) ∧ W.cell? ⟨BR, 8, none⟩ = some (.int .i64 R.blocked) ∧ W.cell? ⟨BR, 9, none⟩ = some (.int .i64 R.quiet) ∧ W.cell? ⟨BR, 10, none⟩ = some (.int .i64 R.rept) ∧ W.cell? ⟨pb, po + j, none⟩ = some (.int .i64 pk) ∧ (Ext w W ∧ Blk W BR 26 #[.string R.name, .int .i64 R.width, .int .i64 R.height, .slice pA R.pieces.length pc, .slice sA R.start.length sc, .bool R.falls, .bool R.keeps, .slice eA R.ends.length ec, .int .i64 R.blocked, .int .i64 R.quiet, .int .i64 R.rept])) W from ⟨h.2.cell 0, h.2.cell 1, h.2.cell 2, h.2.cell 3, h.2.cell 4, h.2.cell 5, h.2.cell 6, h.2.cell 7, h.2.cell 8, h.2.cell 9, h.2.cell 10, h.1.cell PC.out, h⟩))
            have yy := (show Ext w wd.drew ∧ Blk wd.drew BR 26 #[.string R.name, .int .i64 R.width, .int .i64 R.height, .slice pA R.pieces.length pc, .slice sA R.start.length sc, .bool R.falls, .bool R.keeps, .slice eA R.ends.length ec, .int .i64 R.blocked, .int .i64 R.quiet, .int .i64 R.rept] from ⟨Below.drew ST6.out.old, KR6.out.drew⟩)
            refine region_K (fun W => W.cell? ⟨BR, 0, none⟩ = some (.string R.name) ∧ W.cell? ⟨BR, 1, none⟩ = some (.int .i64 R.width) ∧ W.cell? ⟨BR, 2, none⟩ = some (.int .i64 R.height) ∧ W.cell? ⟨BR, 3, none⟩ = some (.slice pA R.pieces.length pc) ∧ W.cell? ⟨BR, 4, none⟩ = some (.slice sA R.start.length sc) ∧ W.cell? ⟨BR, 5, none⟩ = some (.bool R.falls) ∧ W.cell? ⟨BR, 6, none⟩ = some (.bool R.keeps) ∧ W.cell? ⟨BR, 7, none⟩ = some (.slice eA R.ends.length ec) ∧ W.cell? ⟨BR, 8, none⟩ = some (.int .i64 R.blocked) ∧ W.cell? ⟨BR, 9, none⟩ = some (.int .i64 R.quiet) ∧ W.cell? ⟨BR, 10, none⟩ = some (.int .i64 R.rept) ∧ W.cell? ⟨pb, po + j, none⟩ = some (.int .i64 pk) ∧ (Ext w W ∧ Blk W BR 26 #[.string R.name, .int .i64 R.width, .int .i64 R.height, .slice pA R.pieces.length pc, .slice sA R.start.length sc, .bool R.falls, .bool R.keeps, .slice eA R.ends.length ec, .int .i64 R.blocked, .int .i64 R.quiet, .int .i64 R.rept])) (fun W => W.cell? ⟨BP, 0, none⟩ = some (.slice q0 Q.cells.length e0) ∧ W.cell? ⟨BP, 1, none⟩ = some (.slice q1 Q.hand0.length e1) ∧ W.cell? ⟨BP, 2, none⟩ = some (.slice q2 Q.hand1.length e2) ∧ W.cell? ⟨BP, 3, none⟩ = some (.int .i64 Q.turn) ∧ W.cell? ⟨BP, 4, none⟩ = some (.int .i64 Q.quiet)) [12] (by kernel_rfl) ?_
            have hS0 := And.intro (ss.cell 0) (And.intro (ss.cell 1) (And.intro (ss.cell 2) (And.intro (ss.cell 3) (ss.cell 4))))
            have hT0 := keepK.out _ yy
            refine anyK_take 0 (oi := ?oo1) ?ho1 (by kernel_rfl) (by kernel_rfl) (by kernel_rfl) (by kernel_rfl) ?hq1 ?hw1 hT0 (fun _ => hS0) (v := ?vv1) ?hy1 ?hk1
            case ho1 => (simp only [List.getElem?_toArray, List.getElem?_cons_succ, List.getElem?_cons_zero]; rfl)
            case hq1 => exact fun _ _ _ h => h
            case hw1 => rfl
            case hy1 =>
              intro W hW
              obtain ⟨z0, z1, z2, z3, z4, z5, z6, z7, z8, z9, z10, z11, z12⟩ := hW
              go_simp
              first | done | with_reducible rfl
            case hk1 =>
            try simp only [Act.put, List.setIfInBounds_toArray, List.set_cons_zero, List.set_cons_succ]
            refine anyK_load 1 (oi := ?oo2) ?ho2 (by kernel_rfl) (by kernel_rfl) (by kernel_rfl) (by kernel_rfl) (by kernel_rfl) (by kernel_rfl) ?hq2 ?hw2 hT0 hS0 (v := ?vv2) ?hy2 ?hk2
            case ho2 => (simp only [List.getElem?_toArray, List.getElem?_cons_succ, List.getElem?_cons_zero]; rfl)
            case hq2 => exact fun _ _ _ h => h
            case hw2 => rfl
            case hy2 =>
              intro W hW1 hW
              obtain ⟨y0, y1, y2, y3, y4⟩ := hW
              go_simp
              first | done | with_reducible rfl
            case hk2 =>
            try simp only [Act.put, List.setIfInBounds_toArray, List.set_cons_zero, List.set_cons_succ]
            refine anyK_take 2 (oi := ?oo3) ?ho3 (by kernel_rfl) (by kernel_rfl) (by kernel_rfl) (by kernel_rfl) ?hq3 ?hw3 hT0 (fun _ => hS0) (v := ?vv3) ?hy3 ?hk3
            case ho3 => (simp only [List.getElem?_toArray, List.getElem?_cons_succ, List.getElem?_cons_zero]; rfl)
            case hq3 => exact fun _ _ _ h => h
            case hw3 => rfl
            case hy3 =>
              intro W hW
              go_simp
              first | done | with_reducible rfl
            case hk3 =>
            try simp only [Act.put, List.setIfInBounds_toArray, List.set_cons_zero, List.set_cons_succ]
            refine anyK_take 3 (oi := ?oo4) ?ho4 (by kernel_rfl) (by kernel_rfl) (by kernel_rfl) (by kernel_rfl) ?hq4 ?hw4 hT0 (fun _ => hS0) (v := ?vv4) ?hy4 ?hk4
            case ho4 => (simp only [List.getElem?_toArray, List.getElem?_cons_succ, List.getElem?_cons_zero]; rfl)
            case hq4 => exact fun _ _ _ h => h
            case hw4 => rfl
            case hy4 =>
              intro W hW
              go_simp
              first | done | with_reducible rfl
            case hk4 =>
            try simp only [Act.put, List.setIfInBounds_toArray, List.set_cons_zero, List.set_cons_succ]
            refine anyK_take 4 (oi := ?oo5) ?ho5 (by kernel_rfl) (by kernel_rfl) (by kernel_rfl) (by kernel_rfl) ?hq5 ?hw5 hT0 (fun _ => hS0) (v := ?vv5) ?hy5 ?hk5
            case ho5 => (simp only [List.getElem?_toArray, List.getElem?_cons_succ, List.getElem?_cons_zero]; rfl)
            case hq5 => exact fun _ _ _ h => h
            case hw5 => rfl
            case hy5 =>
              intro W hW
              go_simp
              first | done | with_reducible rfl
            case hk5 =>
            try simp only [Act.put, List.setIfInBounds_toArray, List.set_cons_zero, List.set_cons_succ]
            refine anyK_take 5 (oi := ?oo6) ?ho6 (by kernel_rfl) (by kernel_rfl) (by kernel_rfl) (by kernel_rfl) ?hq6 ?hw6 hT0 (fun _ => hS0) (v := ?vv6) ?hy6 ?hk6
            case ho6 => (simp only [List.getElem?_toArray, List.getElem?_cons_succ, List.getElem?_cons_zero]; rfl)
            case hq6 => exact fun _ _ _ h => h
            case hw6 => rfl
            case hy6 =>
              intro W hW
              go_simp
              first | done | with_reducible rfl
            case hk6 =>
            try simp only [Act.put, List.setIfInBounds_toArray, List.set_cons_zero, List.set_cons_succ]
            refine anyK_take 6 (oi := ?oo7) ?ho7 (by kernel_rfl) (by kernel_rfl) (by kernel_rfl) (by kernel_rfl) ?hq7 ?hw7 hT0 (fun _ => hS0) (v := ?vv7) ?hy7 ?hk7
            case ho7 => (simp only [List.getElem?_toArray, List.getElem?_cons_succ, List.getElem?_cons_zero]; rfl)
            case hq7 => exact fun _ _ _ h => h
            case hw7 => rfl
            case hy7 =>
              intro W hW
              obtain ⟨z0, z1, z2, z3, z4, z5, z6, z7, z8, z9, z10, z11, z12⟩ := hW
              go_simp
              first | done | with_reducible rfl
            case hk7 =>
            try simp only [Act.put, List.setIfInBounds_toArray, List.set_cons_zero, List.set_cons_succ]
            refine anyK_on1 7 (by kernel_rfl) ?_
            refine anyK_one 7 (o := ?oo8) ?ho8 ?hk8
            case ho8 => (simp only [List.getElem?_toArray, List.getElem?_cons_succ, List.getElem?_cons_zero]; rfl)
            case hk8 =>
            intro K hK
            go_simp
            refine (HSM.out _ _ (ML.out.ext (Below.drew (Below.refl _ _)))).mono ?_
            rintro e wk ⟨m, hm, rfl, xx⟩
            try go_wp2_with fail
            replace yy := (And.intro (ext_trans yy.1 xx) (yy.2.ext xx))
            have HMM := hide hm
            clear hm
            replace ss := ss.ext xx
            have E1 := hide (show Ext wd wk from ext_trans (Below.drew (Below.refl _ _)) xx)
            have hT1 := keepK.out _ yy
            have hS1 := And.intro (ss.cell 0) (And.intro (ss.cell 1) (And.intro (ss.cell 2) (And.intro (ss.cell 3) (ss.cell 4))))
            refine hK.out _ _ hT1 (fun _ => hS1) ?_
            clear hK K
            try simp only [Act.put, List.setIfInBounds_toArray, List.set_cons_zero, List.set_cons_succ]
            refine anyK_on1 8 (by kernel_rfl) ?_
            refine anyK_one 8 (o := ?oo9) ?ho9 ?hk9
            case ho9 => (simp only [List.getElem?_toArray, List.getElem?_cons_succ, List.getElem?_cons_zero]; rfl)
            case hk9 =>
            intro K hK
            go_simp
            refine (HAF.out m HMM.out _ _ _ (HR0.out.ext yy.1) ((PQ6.out.tfr (ts := []) (by simp) (TFr.of_ext E1.out)).at_ yy.1)).mono ?_
            rintro e wm ⟨v9, rfl, own9, xx⟩
            try go_wp2_with fail
            replace yy := (And.intro (ext_trans yy.1 xx) (yy.2.ext xx))
            replace ss := ss.ext xx
            have E2 := hide (ext_trans E1.out xx)
            generalize makeM R Q m = Q2 at *
            have hpi := own9.toI
            obtain ⟨g0, d0, g1, d1, g2, d2, rfl, -⟩ := id hpi
            have HPI := hide hpi
            clear own9 hpi
            have hT2 := keepK.out _ yy
            have hS2 := And.intro (ss.cell 0) (And.intro (ss.cell 1) (And.intro (ss.cell 2) (And.intro (ss.cell 3) (ss.cell 4))))
            refine hK.out _ _ hT2 (fun _ => hS2) ?_
            clear hK K
            try simp only [Act.put, List.setIfInBounds_toArray, List.set_cons_zero, List.set_cons_succ]
            refine anyK_take 9 (oi := ?oo10) ?ho10 (by kernel_rfl) (by kernel_rfl) (by kernel_rfl) (by kernel_rfl) ?hq10 ?hw10 hT2 (fun _ => hS2) (v := ?vv10) ?hy10 ?hk10
            case ho10 => (simp only [List.getElem?_toArray, List.getElem?_cons_succ, List.getElem?_cons_zero]; rfl)
            case hq10 => exact fun _ _ _ h => h
            case hw10 => rfl
            case hy10 =>
              intro W hW
              go_simp
              first | done | with_reducible rfl
            case hk10 =>
            try simp only [Act.put, List.setIfInBounds_toArray, List.set_cons_zero, List.set_cons_succ]
            refine anyK_take 10 (oi := ?oo11) ?ho11 (by kernel_rfl) (by kernel_rfl) (by kernel_rfl) (by kernel_rfl) ?hq11 ?hw11 hT2 (fun _ => hS2) (v := ?vv11) ?hy11 ?hk11
            case ho11 => (simp only [List.getElem?_toArray, List.getElem?_cons_succ, List.getElem?_cons_zero]; rfl)
            case hq11 => exact fun _ _ _ h => h
            case hw11 => rfl
            case hy11 =>
              intro W hW
              go_simp
              first | done | with_reducible rfl
            case hk11 =>
            try simp only [Act.put, List.setIfInBounds_toArray, List.set_cons_zero, List.set_cons_succ]
            refine anyK_take 11 (oi := ?oo12) ?ho12 (by kernel_rfl) (by kernel_rfl) (by kernel_rfl) (by kernel_rfl) ?hq12 ?hw12 hT2 (fun _ => hS2) (v := ?vv12) ?hy12 ?hk12
            case ho12 => (simp only [List.getElem?_toArray, List.getElem?_cons_succ, List.getElem?_cons_zero]; rfl)
            case hq12 => exact fun _ _ _ h => h
            case hw12 => rfl
            case hy12 =>
              intro W hW
              go_simp
              first | done | with_reducible rfl
            case hk12 =>
            try simp only [Act.put, List.setIfInBounds_toArray, List.set_cons_zero, List.set_cons_succ]
            refine anyK_on1 12 (by kernel_rfl) ?_
            refine anyK_one 12 (o := ?oo13) ?ho13 ?hk13
            case ho13 => (simp only [List.getElem?_toArray, List.getElem?_cons_succ, List.getElem?_cons_zero]; rfl)
            case hk13 =>
            intro K hK
            have fz9 := (KQ6.out.ext E2.out).frozen
            have fc9 := (KQ6.out.ext E2.out).cell
            have PB9 := hide (PBox.put (w0 := w) (KQ6.out.ext E2.out) HPI.out)
            have SX9 := hide (SInv.box ⟨f3, L3, ST6.out.ext E2.out, HL3.out, HR3.out, HS3.out⟩ (KQ6.out.ext E2.out) HB2.out (u0 := .slice (some ⟨g0, 0, none⟩) Q2.cells.length d0) (u1 := .slice (some ⟨g1, 0, none⟩) Q2.hand0.length d1) (u2 := .slice (some ⟨g2, 0, none⟩) Q2.hand1.length d2) (u3 := .int .i64 Q2.turn) (u4 := .int .i64 Q2.quiet))
            have KX9 := hide (blk_box (yy.2) (KQ6.out.ext E2.out) (by decide) (u0 := .slice (some ⟨g0, 0, none⟩) Q2.cells.length d0) (u1 := .slice (some ⟨g1, 0, none⟩) Q2.hand0.length d1) (u2 := .slice (some ⟨g2, 0, none⟩) Q2.hand1.length d2) (u3 := .int .i64 Q2.turn) (u4 := .int .i64 Q2.quiet))
            go_simp
            clear fz9 fc9
            replace yy := And.intro (ext_set (ext_set (ext_set (ext_set (ext_set yy.1 (p := ⟨BP, 0, none⟩) HB2.out (.slice (some ⟨g0, 0, none⟩) Q2.cells.length d0)) (p := ⟨BP, 1, none⟩) HB2.out (.slice (some ⟨g1, 0, none⟩) Q2.hand0.length d1)) (p := ⟨BP, 2, none⟩) HB2.out (.slice (some ⟨g2, 0, none⟩) Q2.hand1.length d2)) (p := ⟨BP, 3, none⟩) HB2.out (.int .i64 Q2.turn)) (p := ⟨BP, 4, none⟩) HB2.out (.int .i64 Q2.quiet)) KX9.out
            have hT3 := keepK.out _ yy
            refine hK.out _ _ hT3 (fun h => by cases h) ?_
            clear hK K
            try simp only [Act.put, List.setIfInBounds_toArray, List.set_cons_zero, List.set_cons_succ]
            refine anyK_take 13 (oi := ?oo14) ?ho14 (by kernel_rfl) (by kernel_rfl) (by kernel_rfl) (by kernel_rfl) ?hq14 ?hw14 hT3 (fun h => by cases h) (v := ?vv14) ?hy14 ?hk14
            case ho14 => (simp only [List.getElem?_toArray, List.getElem?_cons_succ, List.getElem?_cons_zero]; rfl)
            case hq14 => exact fun _ _ _ h => h
            case hw14 => rfl
            case hy14 =>
              intro W hW
              go_simp
              first | done | with_reducible rfl
            case hk14 =>
            try simp only [Act.put, List.setIfInBounds_toArray, List.set_cons_zero, List.set_cons_succ]
            refine anyK_done (by kernel_rfl) ?_ _
            clear keepK hT0 hT1 hT2 hT3
            try clear keepS hS0 hS1 hS2
            have EY := hide yy.1
            clear ss yy xx HAF HSM ML KR6 KQ6 PQ6 ST6 E1 E2 HPI
            generalize (((((wm.setCell ⟨BP, 0, none⟩ (.slice (some ⟨g0, 0, none⟩) Q2.cells.length d0)).setCell ⟨BP, 1, none⟩ (.slice (some ⟨g1, 0, none⟩) Q2.hand0.length d1)).setCell ⟨BP, 2, none⟩ (.slice (some ⟨g2, 0, none⟩) Q2.hand1.length d2)).setCell ⟨BP, 3, none⟩ (.int .i64 Q2.turn)).setCell ⟨BP, 4, none⟩ (.int .i64 Q2.quiet)) = wn at *
            obtain ⟨r0, t0, r1, t1, r2, t2, kq9, pq9⟩ := id PB9.out
            have fR := KX9.out.cell
            have fP := kq9.cell
            have HHN := hide (HHV.out Q2 wn _ _ (HR0.out.ext EY.out) (pq9.at_ EY.out))
            clear kq9 pq9
            cases hb : heavyB R Q2 D
            · rw [hb] at HHN
              have HBN := hide hb
              clear hb
              go_wp2_with fail
              refine HHN.out.mono ?_
              rintro e wo ⟨rfl, xo⟩
              have XO := hide xo
              clear xo HHN fR fP
              go_wp2
              go_roundw
              case rel => exact ⟨j + 1, by omega, by go_num, ext_trans EY.out XO.out, KX9.out.ext XO.out, SX9.out.ext XO.out, Q2, PB9.out.ext XO.out, HBN⟩
              case measure => simp [intOf]; omega
            · rw [hb] at HHN
              clear hb
              go_wp2_with fail
              refine HHN.out.mono ?_
              rintro e wo ⟨rfl, xo⟩
              have XO := hide (ext_trans EY.out xo)
              clear xo HHN fR fP
              go_wp2
              go_ret
              exact ⟨by first | rfl | simp, XO.out⟩
      · have HSC := hide (sScore_no (D := D) ST.out HL0.out.1 HL0.out.2 HRt.out HSo.out PQ.out hp)
        have HMS := hide (fun W (v1 v2 : Value) (h1 : RulesAt W v1 R) (h2 : PosAt W v2 Q) => MScore_any R Q v1 v2 D W h1 h2)
        rw [show scoreM R Q D = 0 from if_neg hp] at HMS
        have t0 : (perftE R Q D != 0) = true := by simpa using hp
        clear hp
        generalize perftE R Q D = E at *
        have t1 : (E != E) = false := by simp
        go_wp2_with fail
        refine HSC.out.mono ?_
        rintro e wa ⟨rfl, xa⟩
        have ST3 := hide (ST.out.ext xa)
        have KR3 := hide (KR2.out.ext xa)
        have KQ3 := hide (KQ2.out.ext xa)
        have PQ3 := hide (PQ.out.tfr (ts := []) (by simp) (TFr.of_ext xa))
        clear xa fR fP HSC ST KR2 KQ2 PQ XR
        have fR := KR3.out.cell
        have fP := KQ3.out.cell
        go_wp2_with fail
        refine (HMS.out _ _ _ (HR0.out.ext ST3.out.old) (PQ3.out.at_ ST3.out.old)).mono ?_
        rintro e wb ⟨rfl, xb⟩
        have ST4 := hide (ST3.out.ext xb)
        have KR4 := hide (KR3.out.ext xb)
        have KQ4 := hide (KQ3.out.ext xb)
        have PQ4 := hide (PQ3.out.tfr (ts := []) (by simp) (TFr.of_ext xb))
        have HLN := hide (sLen_any ST4.out HL0.out.2)
        have hu := usedN_le L
        have tu : decide ((k : Int) + 1 < (usedN L : Int)) = false := decide_eq_false (by have := HL.out; omega)
        clear xb fR fP HMS ST3 KR3 KQ3 PQ3 hu
        generalize usedN L = un at *
        go_wp2_with fail
        refine HLN.out.mono ?_
        rintro e wc ⟨rfl, xc⟩
        have ST5 := hide (ST4.out.ext xc)
        have KR5 := hide (KR4.out.ext xc)
        have KQ5 := hide (KQ4.out.ext xc)
        have PQ5 := hide (PQ4.out.tfr (ts := []) (by simp) (TFr.of_ext xc))
        clear xc HLN ST4 KR4 KQ4 PQ4
        have fR := KR5.out.cell
        have fP := KQ5.out.cell
        by_cases hc : checkE R Q = 0
        · have HAL := hide (All_yes R Q _ _ wc (HR0.out.ext ST5.out.old) (PQ5.out.at_ ST5.out.old) (check_iff.1 hc).1 (check_iff.1 hc).2)
          unfold AllPost at HAL
          clear hc
          go_wp2_with fail
          refine HAL.out.mono ?_
          rintro e wd ⟨vl, rfl, own, xd⟩
          have XD := hide (ext_trans ST5.out.old xd)
          obtain ⟨AL, cL, rfl, -⟩ := own
          clear xd HAL fR fP
          go_wp2
          go_ret
          exact ⟨by first | rfl | simp, XD.out⟩
        · have HAL := hide (All_no R Q _ _ wc (HR0.out.ext ST5.out.old) (PQ5.out.at_ ST5.out.old) hc)
          clear hc
          generalize checkE R Q = F at *
          go_wp2_with fail
          refine HAL.out.mono ?_
          rintro e wd ⟨rfl, xd⟩
          have XD := hide (ext_trans ST5.out.old xd)
          clear xd HAL fR fP
          go_wp2
          go_ret
          exact ⟨by first | rfl | simp, XD.out⟩
    · have tj : decide ((j : Int) < (M : Int) + 1) = false := decide_eq_false (by omega)
      go_wp2
      go_ret
      exact ⟨by first | rfl | simp, XR.out⟩

theorem storeScores_law (v : Value) (R : RulesM) (u : Value) (P : PosM) (D s : Int) (A : Option Addr) (n c : Nat) (z : List Int) (w : World) (hR : RulesAt w v R) (hP : PosAt w u P) (hr : IsRow w A n c z) :
    Calls Tryz.prog 3 #[v, u, .int .i64 D, .int .i64 s, .slice A n c] w fun e w' => e = .returned (.bool true) ∧ Ext w w' := by
  obtain ⟨hz, hpl, -, hm⟩ := hr.ints
  unfold maxLen at hm
  obtain ⟨K, hK⟩ : ∃ K, (wrap64 (s.tmod 64 + 64)).tmod 64 = K := ⟨_, rfl⟩
  obtain ⟨q0, q1⟩ := slot_mod 64 (by omega) (by omega) s K hK
  obtain ⟨k, rfl⟩ := Int.eq_ofNat_of_zero_le q0
  have k1 : k < 64 := by omega
  by_cases he : rulesE R = 0
  · have hV := valid_of he
    cases hh : heavyB R P D
    · exact storeScores_yes R P v u D s A n c (z.take n) w hR hP hz hpl (by omega) k hK k1 hV hh
    · exact storeScores_heavy R P v u D s A n c (z.take n) w hR hP hz hpl (by omega) k hK k1 hV hh
  · exact storeScores_no R P v u D s A n c (z.take n) w hR hP hz hpl (by omega) k hK k1 he

end Go.Proofs.YtfkcigekbgkcmaaGreat
