/- Walk: cert.Make. A certificate that was made, as Check reads it. What cert.Make and cert.Check answer; a copy of a certificate. The sample of certificates, as plain data. Walk: the sample proved. -/
import Derived.Test.YtnaggpibfmednaaCertN
import Derived.Test.YtnaggpibfmednaaGMini
import Derived.Deep.AppendLies
import Derived.Test.YtnaggpibfmednaaGSamples
import Derived.Test.YtnaggpibfmednaaGSmall
namespace Go.Proofs.Ytnaggpibfmednaa
open Go.ChangeShapes Go.WideShapes Go.ChangeAt Go.RowKit Go.Shelf
set_option linter.unusedVariables false
set_option linter.unusedSimpArgs false
def MakeR (w w' : World) (R : RulesM) (P : PosM) (D : Int) (v : Value) (c : Int) : Prop :=
  (c ≠ 0 ∧ v = .slice none 0 0 ∧ ((c = perftE R P D ∧ perftE R P D ≠ 0) ∨ (perftE R P D = 0 ∧ resultM R P ≠ 0 ∧ c = 14) ∨ (perftE R P D = 0 ∧ resultM R P = 0 ∧ ofM R D.toNat P ≤ 0 ∧ c = 8) ∨ (perftE R P D = 0 ∧ resultM R P = 0 ∧ 0 < ofM R D.toNat P ∧ c = 2 ∧ 5000 < (certM R D.toNat 0 P).length))) ∨
  (c = 0 ∧ perftE R P D = 0 ∧ resultM R P = 0 ∧ 0 < ofM R D.toNat P ∧ ∃ ns A cc, v = .slice A ns.length cc ∧ RowC w.heap.size w' A cc ns ∧ Made w.heap.size w' ns (certM R D.toNat 0 P) ∧ ns.length ≤ 5000)
def MakeCPost (w : World) (R : RulesM) (P : PosM) (D : Int) (e : Ending) (w' : World) : Prop := ∃ v c, e = .returned (.tuple #[v, .int .i64 c]) ∧ Ext w w' ∧ MakeR w w' R P D v c
set_option maxHeartbeats 4000000 in
set_option maxRecDepth 100000 in
theorem CMake_any (R : RulesM) (P : PosM) (v u : Value) (D : Int) (w : World) (hR : RulesAt w v R) (hP : PosAt w u P) :
    Calls Try.prog 17 #[v, u, .int .i64 D] w (MakeCPost w R P D) := by
  have HT := hide (fun W (hW : Ext w W) => PfTree_any R P v u D W (hR.ext hW) (hP.ext hW))
  have HRS := hide (fun (hz : perftE R P D = 0) W (hW : Ext w W) => Result_any R P v u W (hR.ext hW) (hP.ext hW) (perft_zero hz).1 (perft_zero hz).2.1)
  have HOF := hide (fun (hz : perftE R P D = 0) W (hW : Ext w W) => of_any R (perft_zero hz).1 D.toNat (by have := (perft_zero hz).2.2.2.1; omega) P v u D W (by have := (perft_zero hz).2.2.1; omega) (perft_zero hz).2.1 (hR.ext hW) (hP.ext hW))
  have HPA := hide hP
  have HRA := hide hR
  obtain ⟨pA, pc, sA, sc, eA, ec, rfl, -⟩ := hR
  obtain ⟨cA, cc, aA, ac, bA, bc, rfl, -⟩ := hP
  obtain ⟨x1, k1, k2⟩ := blks2 w #[.string R.name, .int .i64 R.width, .int .i64 R.height, .slice pA R.pieces.length pc, .slice sA R.start.length sc, .bool R.falls, .bool R.keeps, .slice eA R.ends.length ec, .int .i64 R.blocked, .int .i64 R.quiet, .int .i64 R.rept] 26 #[.slice cA P.cells.length cc, .slice aA P.hand0.length ac, .slice bA P.hand1.length bc, .int .i64 P.turn, .int .i64 P.quiet] 29
  have HX := hide x1
  have K1 := hide k1
  have K2 := hide k2
  have f1 := k1.cell
  have f2 := k2.cell
  clear x1 k1 k2
  go_enter Try.func17, Try.ntmps17
  go_wp2_with fail
  refine (HT.out _ HX.out).mono ?_
  rintro e w2 ⟨rfl, x2⟩
  have X2 := hide (ext_trans HX.out x2)
  have K12 := hide (K1.out.ext x2)
  have K22 := hide (K2.out.ext x2)
  clear f1 f2 x2 HX HT K1 K2
  by_cases hz : perftE R P D = 0
  · have HZ := hide hz
    have HRS2 := hide (HRS.out hz)
    have HOF2 := hide (HOF.out hz)
    rw [hz]
    have f1 := K12.out.cell
    have f2 := K22.out.cell
    clear hz HRS HOF
    go_wp2_with fail
    refine (HRS2.out _ X2.out).mono ?_
    rintro e w3 ⟨rfl, x3⟩
    have X3 := hide (ext_trans X2.out x3)
    have K13 := hide (K12.out.ext x3)
    have K23 := hide (K22.out.ext x3)
    clear f1 f2 x3 X2 K12 K22 HRS2
    by_cases hr : resultM R P = 0
    · have HR0 := hide hr
      rw [hr]
      have f1 := K13.out.cell
      have f2 := K23.out.cell
      clear hr
      go_wp2_with fail
      refine (HOF2.out _ X3.out).mono ?_
      rintro e w4 ⟨rfl, x4⟩
      have X4 := hide (ext_trans X3.out x4)
      have K14 := hide (K13.out.ext x4)
      have K24 := hide (K23.out.ext x4)
      clear f1 f2 x4 X3 K13 K23 HOF2
      by_cases ho : ofM R D.toNat P ≤ 0
      · have t0 : decide (ofM R D.toNat P ≤ 0) = true := decide_eq_true ho
        have HO := hide ho
        clear ho
        go_wp2
        go_ret2
        exact ⟨_, 8, rfl, X4.out, .inl ⟨by decide, rfl, .inr (.inr (.inl ⟨HZ.out, HR0.out, HO.out, rfl⟩))⟩⟩
      · have t0 : decide (ofM R D.toNat P ≤ 0) = false := decide_eq_false ho
        have HO := hide (show 0 < ofM R D.toNat P by omega)
        have f1 := K14.out.cell
        have f2 := K24.out.cell
        clear ho
        go_upto_region 9 with fail
        clear f1 f2
        obtain ⟨x5, k5⟩ := blks1 w4 #[.string R.name, .int .i64 R.width, .int .i64 R.height, .slice pA R.pieces.length pc, .slice sA R.start.length sc, .bool R.falls, .bool R.keeps, .slice eA R.ends.length ec, .int .i64 R.blocked, .int .i64 R.quiet, .int .i64 R.rept, .slice none 0 0] 93
        have X5 := hide (ext_trans X4.out x5)
        have K25 := hide (K24.out.ext x5)
        have HSZ := hide (show SizeLe w (w4.alloc (.cells #[.string R.name, .int .i64 R.width, .int .i64 R.height, .slice pA R.pieces.length pc, .slice sA R.start.length sc, .bool R.falls, .bool R.keeps, .slice eA R.ends.length ec, .int .i64 R.blocked, .int .i64 R.quiet, .int .i64 R.rept, .slice none 0 0] 93)) from X5.out.size)
        have hpz := perft_zero HZ.out
        have HND := hide (node_any (BX := w4.heap.size) hpz.1 X4.out.size HRA.out D.toNat (by omega) P _ (w4.alloc (.cells #[.string R.name, .int .i64 R.width, .int .i64 R.height, .slice pA R.pieces.length pc, .slice sA R.start.length sc, .bool R.falls, .bool R.keeps, .slice eA R.ends.length ec, .int .i64 R.blocked, .int .i64 R.quiet, .int .i64 R.rept, .slice none 0 0] 93)) [] none 0 hpz.2.1 HR0.out HO.out (.inl HPA.out) k5 (World.ownsRow_nil _ _ _ _) X5.out (by simp))
        have hD : ((D.toNat : Nat) : Int) = D := Int.toNat_of_nonneg hpz.2.2.1
        rw [hD] at HND
        clear x5 k5 K24 X4 hpz hD HPA HRA K14
        generalize w4.alloc (.cells #[.string R.name, .int .i64 R.width, .int .i64 R.height, .slice pA R.pieces.length pc, .slice sA R.start.length sc, .bool R.falls, .bool R.keeps, .slice eA R.ends.length ec, .int .i64 R.blocked, .int .i64 R.quiet, .int .i64 R.rept, .slice none 0 0] 93) = w5 at *
        generalize w4.heap.size = BX at *
        have f2 := K25.out.cell
        go_wp2_with fail
        refine HND.out.mono ?_
        rintro e w6 ⟨xE, xF, xZ, ok, rfl, hok⟩
        have XE := hide xE
        have HOK := hide hok
        clear xE xF xZ hok f2 HND K25
        cases ok
        · go_wp2
          go_ret2
          exact ⟨_, 2, rfl, XE.out, .inl ⟨by decide, rfl, .inr (.inr (.inr ⟨HZ.out, HR0.out, HO.out, rfl, by have := HOK.out.2 (by first | exact trivial | exact rfl); simpa using this⟩))⟩⟩
        · obtain ⟨ms, A, cc, kx, rw2, md, hn⟩ := HOK.out.1 rfl
          have e0 : ([] : List (MoveM × Value)).length + ms.length = ms.length := Nat.zero_add _
          rw [e0] at kx hn
          have KK := hide kx
          have RW := hide rw2
          have MD := hide (md.mono HSZ.out)
          have HN := hide hn
          have fK := kx.cell
          clear HOK kx rw2 md hn e0
          go_wp2
          go_ret2
          exact ⟨_, 0, rfl, XE.out, .inr ⟨rfl, HZ.out, HR0.out, HO.out, ms, A, cc, rfl, RW.out, MD.out, HN.out⟩⟩
    · have t1 : (resultM R P != 0) = true := by simpa using hr
      have HR0 := hide hr
      clear hr
      go_wp2
      go_ret2
      exact ⟨_, 14, rfl, X3.out, .inl ⟨by decide, rfl, .inr (.inl ⟨HZ.out, HR0.out, rfl⟩)⟩⟩
  · have t1 : (perftE R P D != 0) = true := by simpa using hz
    have HZ := hide hz
    clear hz
    go_wp2
    go_ret2
    exact ⟨_, perftE R P D, rfl, X2.out, .inl ⟨HZ.out, rfl, .inl ⟨rfl, HZ.out⟩⟩⟩
end Go.Proofs.Ytnaggpibfmednaa
namespace Go.Proofs.Ytnaggpibfmednaa
open Go.ChangeShapes Go.WideShapes Go.ChangeAt Go.RowKit Go.Shelf
set_option linter.unusedVariables false
set_option linter.unusedSimpArgs false
theorem certAt_of {b b' : Nat} {W : World} {A : Option Addr} {cc : Nat} {ns : List (MoveM × Value)} {L : List CNode} (h : RowC b W A cc ns) (md : Made b' W ns L) : CertAt W A L := fun i x hi => by
  have hl : i < ns.length := by rw [md.1]; exact (List.getElem?_eq_some_iff.1 hi).1
  have hn : ns[i]? = some ns[i] := List.getElem?_eq_getElem hl
  obtain ⟨e1, o⟩ := md.2 i ns[i] x hn hi
  obtain ⟨B, c, e2, hI⟩ := o.ints
  have hc := (own_cells h).1
  obtain ⟨g, o0, rfl, h0⟩ := hc (i * 4 + 0) _ (by rw [nodeV_get ns i 0 _ hn (by omega)]; rfl)
  obtain ⟨g1, o1, q1, h1⟩ := hc (i * 4 + 1) _ (by rw [nodeV_get ns i 1 _ hn (by omega)]; rfl)
  obtain ⟨g2, o2, q2, h2⟩ := hc (i * 4 + 2) _ (by rw [nodeV_get ns i 2 _ hn (by omega)]; rfl)
  obtain ⟨g3, o3, q3, h3⟩ := hc (i * 4 + 3) _ (by rw [nodeV_get ns i 3 _ hn (by omega)]; rfl)
  cases q1; cases q2; cases q3
  rw [e1] at h0 h1 h2
  rw [e2] at h3
  exact ⟨g, o0, B, c, rfl, h0, h1, h2, h3, hI⟩
/-- What Check answers to what Make made. -/
theorem made_check {R : RulesM} {P : PosM} {D : Int} {n c : Int} (hz : perftE R P D = 0) (hr : resultM R P = 0) (ho : 0 < ofM R D.toNat P) (hk : CheckR (resultM R P) (FormAll (certM R D.toNat 0 P)) (provesM R (certM R D.toNat 0 P) 5001 0 P) n c) : c = 0 ∧ n = 1000 - ofM R D.toNat P := by
  obtain ⟨hV, hS, d0, d1, -⟩ := perft_zero hz
  have hf := good_form (cert_good hV D.toNat P 0 (by omega) hS hr ho)
  have hp := cert_proves (L := certM R D.toNat 0 P) hV D.toNat P 0 5001 (by omega) hS hr ho (by omega) (fun i x hi => by simpa using hi)
  have := (hk.2.2 hr hf).1 _ hp
  exact ⟨this.2, this.1⟩
theorem made_size {R : RulesM} {P : PosM} {D : Int} (hz : perftE R P D = 0) (hr : resultM R P = 0) (ho : 0 < ofM R D.toNat P) : 0 < (certM R D.toNat 0 P).length ∧ (flatM (certM R D.toNat 0 P)).length ≤ (certM R D.toNat 0 P).length * 1000000 := by
  obtain ⟨hV, hS, d0, d1, -⟩ := perft_zero hz
  have hg := cert_good hV D.toNat P 0 (by omega) hS hr ho
  exact ⟨hg.some_, flat_len _ hg.size⟩
end Go.Proofs.Ytnaggpibfmednaa
namespace Go.Proofs.Ytnaggpibfmednaa
open Go.ChangeShapes Go.WideShapes Go.ChangeAt Go.RowKit Go.Shelf
set_option linter.unusedVariables false
set_option linter.unusedSimpArgs false
set_option linter.unusedVariables false
/-- The error of Make. -/
def makeE (R : RulesM) (P : PosM) (D : Int) : Int := if perftE R P D ≠ 0 then perftE R P D else if resultM R P ≠ 0 then 14 else if ofM R D.toNat P ≤ 0 then 8 else if 5000 < (certM R D.toNat 0 P).length then 2 else 0
theorem makeE_bad {R : RulesM} {P : PosM} {D : Int} (h : perftE R P D ≠ 0) : makeE R P D = perftE R P D := if_pos h
theorem makeE_over {R : RulesM} {P : PosM} {D : Int} (h : perftE R P D = 0) (h1 : resultM R P ≠ 0) : makeE R P D = 14 := by
  unfold makeE; rw [if_neg (by omega), if_pos h1]
theorem makeE_none {R : RulesM} {P : PosM} {D : Int} (h : perftE R P D = 0) (h1 : resultM R P = 0) (h2 : ofM R D.toNat P ≤ 0) : makeE R P D = 8 := by
  unfold makeE; rw [if_neg (by omega), if_neg (by omega), if_pos h2]
theorem makeE_large {R : RulesM} {P : PosM} {D : Int} (h : perftE R P D = 0) (h1 : resultM R P = 0) (h2 : 0 < ofM R D.toNat P) (h3 : 5000 < (certM R D.toNat 0 P).length) : makeE R P D = 2 := by
  unfold makeE; rw [if_neg (by omega), if_neg (by omega), if_neg (by omega), if_pos h3]
theorem makeE_ok {R : RulesM} {P : PosM} {D : Int} (h : perftE R P D = 0) (h1 : resultM R P = 0) (h2 : 0 < ofM R D.toNat P) (h3 : (certM R D.toNat 0 P).length ≤ 5000) : makeE R P D = 0 := by
  unfold makeE; rw [if_neg (by omega), if_neg (by omega), if_neg (by omega), if_neg (by omega)]
theorem makeE_zero {R : RulesM} {P : PosM} {D : Int} (h : makeE R P D = 0) : perftE R P D = 0 ∧ resultM R P = 0 ∧ 0 < ofM R D.toNat P ∧ (certM R D.toNat 0 P).length ≤ 5000 := by
  by_cases h0 : perftE R P D = 0
  · by_cases h1 : resultM R P = 0
    · by_cases h2 : ofM R D.toNat P ≤ 0
      · rw [makeE_none h0 h1 h2] at h; omega
      · by_cases h3 : 5000 < (certM R D.toNat 0 P).length
        · rw [makeE_large h0 h1 (by omega) h3] at h; omega
        · exact ⟨h0, h1, by omega, by omega⟩
    · rw [makeE_over h0 h1] at h; omega
  · rw [makeE_bad h0] at h; exact absurd h h0
theorem Make_no (R : RulesM) (P : PosM) (v u : Value) (D : Int) (w : World) (hR : RulesAt w v R) (hP : PosAt w u P) (hne : makeE R P D ≠ 0) :
    Calls Try.prog 17 #[v, u, .int .i64 D] w fun e w' => e = .returned (.tuple #[.slice none 0 0, .int .i64 (makeE R P D)]) ∧ Ext w w' := by
  refine (CMake_any R P v u D w hR hP).mono ?_
  rintro e w' ⟨v', c, rfl, x, h⟩
  rcases h with ⟨-, rfl, ⟨h1, h2⟩ | ⟨h1, h2, h3⟩ | ⟨h1, h2, h3, h4⟩ | ⟨h1, h2, h3, h4, h5⟩⟩ | ⟨rfl, h1, h2, h3, ns, A, cc, rfl, rc, md, hl⟩
  · rw [makeE_bad h2, h1]; exact ⟨rfl, x⟩
  · rw [makeE_over h1 h2, h3]; exact ⟨rfl, x⟩
  · rw [makeE_none h1 h2 h3, h4]; exact ⟨rfl, x⟩
  · rw [makeE_large h1 h2 h3 h5, h4]; exact ⟨rfl, x⟩
  · exact absurd (makeE_ok h1 h2 h3 (by rw [← md.1]; exact hl)) hne
def MakeOk (w : World) (L : List CNode) (e : Ending) (w' : World) : Prop := ∃ A cc, e = .returned (.tuple #[.slice A L.length cc, .int .i64 0]) ∧ CertAt w' A L ∧ Ext w w'
theorem Make_yes (R : RulesM) (P : PosM) (v u : Value) (D : Int) (w : World) (hR : RulesAt w v R) (hP : PosAt w u P) (h0 : makeE R P D = 0) :
    Calls Try.prog 17 #[v, u, .int .i64 D] w (MakeOk w (certM R D.toNat 0 P)) := by
  obtain ⟨n0, n1, n2, n3⟩ := makeE_zero h0
  refine (CMake_any R P v u D w hR hP).mono ?_
  rintro e w' ⟨v', c, rfl, x, h⟩
  rcases h with ⟨-, -, h⟩ | ⟨rfl, -, -, -, ns, A, cc, rfl, rc, md, -⟩
  · omega
  · exact ⟨A, cc, by rw [md.1], certAt_of rc md, x⟩
theorem Check_made (R : RulesM) (P : PosM) (v u : Value) (D : Int) (A : Option Addr) (c : Nat) (w : World) (hR : RulesAt w v R) (hP : PosAt w u P) (h0 : makeE R P D = 0) (hC : CertAt w A (certM R D.toNat 0 P)) :
    Calls Try.prog 18 #[v, u, .slice A (certM R D.toNat 0 P).length c] w fun e w' => e = .returned (.tuple #[.int .i64 (1000 - ofM R D.toNat P), .int .i64 0]) ∧ Ext w w' := by
  obtain ⟨n0, n1, n2, n3⟩ := makeE_zero h0
  have hs := made_size n0 n1 n2
  refine (CCheck_any (c := c) hR hP (check_iff.2 ⟨(perft_zero n0).1, (perft_zero n0).2.1⟩) hs.1 n3 (by omega) hC).mono ?_
  rintro e w' ⟨n, k, rfl, x, hk⟩
  obtain ⟨rfl, rfl⟩ := made_check n0 n1 n2 hk
  exact ⟨rfl, x⟩
theorem nodeInfo : (Try.prog.info? 135).map (fun i => (i.zero, i.size, i.bytes)) = some (some (.agg #[.int .i64 0, .int .i64 0, .int .i64 0, .slice none 0 0]), 4, 48) := by kernel_rfl
/-- A copy of a certificate in a block: the rows of replies are those of world w0. -/
def CopyAt (w0 W : World) (g : Nat) (L : List CNode) : Prop := ∀ i x, L[i]? = some x → ∃ B c, W.cell? ⟨g, i * 4, none⟩ = some (.int .i64 x.m.src) ∧ W.cell? ⟨g, i * 4 + 1, none⟩ = some (.int .i64 x.m.dst) ∧ W.cell? ⟨g, i * 4 + 2, none⟩ = some (.int .i64 x.m.piece) ∧
  W.cell? ⟨g, i * 4 + 3, none⟩ = some (.slice B x.rs.length c) ∧ IntsAt w0 B x.rs
theorem CopyAt.ext {w0 w W : World} {g : Nat} {L : List CNode} (h : CopyAt w0 w g L) (x : Ext w W) : CopyAt w0 W g L := fun i y hi => by
  obtain ⟨B, c, h0, h1, h2, h3, h4⟩ := h i y hi
  exact ⟨B, c, x.cell h0, x.cell h1, x.cell h2, x.cell h3, h4⟩
/-- One node of the copy has been written. -/
theorem CopyAt.put {w0 W V : World} {g K : Nat} {L : List CNode} {cs : Array Value} {m : MoveM} {rs : List Int} {B : Option Addr} {c : Nat} (h : CopyAt w0 W g L) (k : Blk W g 135 cs) (hs : L.length * 4 ≤ cs.size) (hK : K < L.length) (x0 : Ext w0 V)
    (hV : (((W.setCell ⟨g, K * 4, none⟩ (.int .i64 m.src)).setCell ⟨g, K * 4 + 1, none⟩ (.int .i64 m.dst)).setCell ⟨g, K * 4 + 2, none⟩ (.int .i64 m.piece)).setCell ⟨g, K * 4 + 3, none⟩ (.slice B rs.length c) = V) (hI : IntsAt V B rs) : CertAt V (some ⟨g, 0, none⟩) (L.set K ⟨m, rs⟩) := fun i x hi => by
  have k4 := (((k.set_ (K * 4) (.int .i64 m.src)).set_ (K * 4 + 1) (.int .i64 m.dst)).set_ (K * 4 + 2) (.int .i64 m.piece)).set_ (K * 4 + 3) (.slice B rs.length c)
  rw [hV] at k4
  have kc := k4.cell
  by_cases e : K = i
  · subst e
    rw [List.getElem?_set_self hK] at hi
    cases hi
    refine ⟨g, 0, B, c, rfl, ?_, ?_, ?_, ?_, hI⟩
    all_goals rw [kc]
    all_goals simp only [Array.getElem?_setIfInBounds, Array.size_setIfInBounds, Nat.zero_add]
    all_goals (repeat (first | rw [if_neg (by omega)] | rw [if_pos (by omega)] | rw [if_pos True.intro]))
  · rw [List.getElem?_set_ne e] at hi
    obtain ⟨B', c', h0, h1, h2, h3, h4⟩ := h i x hi
    have hr : ∀ j, j < 4 → ∀ u, W.cell? ⟨g, i * 4 + j, none⟩ = some u → V.cell? ⟨g, 0 + i * 4 + j, none⟩ = some u := fun j hj u hu => by
      rw [kc]
      rw [k.cell] at hu
      simp only [Array.getElem?_setIfInBounds, Array.size_setIfInBounds, Nat.zero_add]
      repeat rw [if_neg (by omega)]
      exact hu
    exact ⟨g, 0, B', c', rfl, hr 0 (by omega) _ h0, hr 1 (by omega) _ h1, hr 2 (by omega) _ h2, hr 3 (by omega) _ h3, h4.ext x0⟩
/-- A copy of a certificate: a block of its own. -/
def CopyPost (w : World) (L : List CNode) (e : Ending) (w' : World) : Prop := ∃ g c' cs, e = .returned (.slice (some ⟨g, 0, none⟩) L.length c') ∧ w.heap.size ≤ g ∧ Blk w' g 135 cs ∧ L.length * 4 ≤ cs.size ∧ CopyAt w w' g L ∧ Ext w w'
/-- What Check answers to whatever certificate, as CertBreaks asks it. -/
def BrkR (R : RulesM) (P : PosM) (n c : Int) : Prop := (c ≠ 0 → n = 0) ∧ (c = 0 → n ≤ 6 → 1 ≤ n ∧ 1000 - n ≤ ofM R n.toNat P)
def BrkPost (w : World) (R : RulesM) (P : PosM) (e : Ending) (w' : World) : Prop := ∃ n c : Int, e = .returned (.tuple #[.int .i64 n, .int .i64 c]) ∧ BrkR R P n c ∧ Ext w w'
theorem Check_brk {R : RulesM} {P : PosM} {v u : Value} {L : List CNode} {A : Option Addr} {c : Nat} {w : World} (hR : RulesAt w v R) (hP : PosAt w u P) (hc : checkE R P = 0) (h0 : 0 < L.length) (hL : L.length ≤ 5000) (hB : (flatM L).length ≤ 2 ^ 60) (hC : CertAt w A L) :
    Calls Try.prog 18 #[v, u, .slice A L.length c] w (BrkPost w R P) := by
  have hVS := check_iff.1 hc
  refine (CCheck_any (c := c) hR hP hc h0 hL hB hC).mono ?_
  rintro e w' ⟨n, k, rfl, x, h1, h2, h3⟩
  refine ⟨n, k, rfl, ?_, x⟩
  by_cases hr : resultM R P = 0
  · by_cases hF : FormAll L
    · obtain ⟨h4, h5⟩ := h3 hr hF
      cases hp : provesM R L 5001 0 P with
      | none => obtain ⟨rfl, rfl⟩ := h5 hp; exact ⟨fun _ => rfl, fun h => by omega⟩
      | some m =>
        obtain ⟨rfl, rfl⟩ := h4 m hp
        refine ⟨fun h => absurd rfl h, fun _ h6 => ?_⟩
        have := proves_sound hVS.1 5001 0 P n hVS.2 hp (by omega)
        exact ⟨this.1, this.2.1⟩
    · obtain ⟨rfl, rfl⟩ := h2 hr hF; exact ⟨fun _ => rfl, fun h => by omega⟩
  · obtain ⟨rfl, rfl⟩ := h1 hr; exact ⟨fun _ => rfl, fun h => by omega⟩
theorem heavy_perft {R : RulesM} {P : PosM} {D : Int} (hh : heavyB R P D = false) (hc : checkE R P = 0) (h0 : 0 ≤ D) (h1 : D ≤ 12) : perftE R P D = 0 := by
  unfold heavyB at hh
  simp only [Bool.or_eq_false_iff] at hh
  have h17 : perftE R P D ≠ 17 := by simpa using hh.1.1
  unfold perftE at h17 ⊢
  rw [if_neg (by omega), if_neg (by omega)] at h17 ⊢
  split
  · rename_i h; rw [if_pos h] at h17; omega
  · rfl
theorem flatC_set {L : List CNode} {K : Nat} {y : CNode} (hy : L[K]? = some y) (m : MoveM) (rs : List Int) (hl : rs.length = y.rs.length) : (flatM (L.set K ⟨m, rs⟩)).length = (flatM L).length := by
  have h : ∀ (L : List CNode) (K : Nat), L[K]? = some y → (flatM (L.set K ⟨m, rs⟩)).length = (flatM L).length := by
    intro L
    induction L with
    | nil => intro K h; simp at h
    | cons a l ih =>
      intro K h
      cases K with
      | zero =>
        simp only [List.getElem?_cons_zero, Option.some.injEq] at h
        subst h
        simp [flatM, hl]
      | succ K =>
        have := ih K (by simpa using h)
        simp only [flatM, List.set_cons_succ, List.flatMap_cons, List.length_append] at this ⊢
        omega
  exact h L K hy
end Go.Proofs.Ytnaggpibfmednaa
namespace Go.Proofs.Ytnaggpibfmednaa
theorem near_cert : perftE threeR nearP 3 = 0 ∧ resultM threeR nearP = 0 ∧ ofM threeR 3 nearP = 999 ∧ (certM threeR 3 0 nearP).length = 1 ∧ ((certM threeR 3 0 nearP).getD 0 default).m = ⟨-1, 2, 0⟩ := by decide +kernel
theorem near_five : (⟨-1, 5, 0⟩ : MoveM) ∈ movesM threeR nearP ∧ resultM threeR (makeM threeR nearP ⟨-1, 5, 0⟩) = 0 ∧ (listM threeR (makeM threeR nearP ⟨-1, 5, 0⟩)).length = 4 := by decide +kernel
theorem near_refused : provesM threeR [⟨⟨-1, 5, 0⟩, []⟩] 5001 0 nearP = none := by
  have h := provesM_succ (R := threeR) (L := [⟨⟨-1, 5, 0⟩, []⟩]) (n := 5000) (k := 0) (P := nearP) (nd := ⟨⟨-1, 5, 0⟩, []⟩) rfl
  refine ((h.1 near_five.1).2 near_five.2.1).1 ?_
  show (listM threeR (makeM threeR nearP ⟨-1, 5, 0⟩)).length ≠ 0
  rw [near_five.2.2]
  decide
theorem five_form : FormAll [⟨⟨-1, 5, 0⟩, []⟩] := by
  refine ⟨fun k nd hk z ht => ?_, fun x h1 h2 => ?_⟩
  · cases k with
    | zero =>
      have e : (⟨⟨-1, 5, 0⟩, []⟩ : CNode) = nd := by simpa using hk
      subst e
      simp at ht
    | succ k => simp at hk
  · simp at h2
    omega
end Go.Proofs.Ytnaggpibfmednaa
namespace Go.Proofs.Ytnaggpibfmednaa
open Go.ChangeShapes Go.WideShapes Go.ChangeAt Go.RowKit Go.Shelf
set_option linter.unusedVariables false
set_option linter.unusedSimpArgs false
set_option linter.unusedVariables false
theorem near_make (v u : Value) (w : World) (hR : RulesAt w v threeR) (hP : PosAt w u nearP) :
    Calls Try.prog 17 #[v, u, .int .i64 3] w fun e w' => ∃ A cc, e = .returned (.tuple #[.slice A 1 cc, .int .i64 0]) ∧ CertAt w' A (certM threeR 3 0 nearP) ∧ Ext w w' := by
  refine (CMake_any threeR nearP v u 3 w hR hP).mono ?_
  rintro e w' ⟨v', c, rfl, x, h⟩
  obtain ⟨n0, n1, n2, n3, -⟩ := near_cert
  have ht : ((3 : Int)).toNat = 3 := rfl
  rcases h with ⟨-, -, h⟩ | ⟨rfl, -, -, -, ns, A, cc, rfl, rc, md, -⟩
  · rw [n0, n1, ht, n2, n3] at h
    omega
  · rw [ht] at md
    have hl : ns.length = 1 := by rw [md.1, n3]
    exact ⟨A, cc, by rw [hl], certAt_of rc md, x⟩
theorem near_check (v u : Value) (A : Option Addr) (c : Nat) (w : World) (hR : RulesAt w v threeR) (hP : PosAt w u nearP) (hC : CertAt w A (certM threeR 3 0 nearP)) :
    Calls Try.prog 18 #[v, u, .slice A 1 c] w fun e w' => e = .returned (.tuple #[.int .i64 1, .int .i64 0]) ∧ Ext w w' := by
  obtain ⟨n0, n1, n2, n3, -⟩ := near_cert
  have hs := made_size (R := threeR) (P := nearP) (D := 3) n0 n1 (by show 0 < ofM threeR 3 nearP; rw [n2]; decide)
  have ht : ((3 : Int)).toNat = 3 := rfl
  rw [ht, n3] at hs
  have h := CCheck_any (c := c) hR hP (check_iff.2 ⟨(perft_zero n0).1, (perft_zero n0).2.1⟩) (by rw [n3]; decide) (by rw [n3]; decide) (by omega) hC
  rw [n3] at h
  refine h.mono ?_
  rintro e w' ⟨n, k, rfl, x, hk⟩
  obtain ⟨rfl, rfl⟩ := made_check (D := 3) n0 n1 (by show 0 < ofM threeR 3 nearP; rw [n2]; decide) hk
  refine ⟨?_, x⟩
  rw [show ofM threeR (3 : Int).toNat nearP = 999 from n2]
  rfl
theorem five_check (v u : Value) (B : Nat) (w : World) (hR : RulesAt w v threeR) (hP : PosAt w u nearP) (hB : Blk w B 135 #[.int .i64 (-1), .int .i64 5, .int .i64 0, .slice none 0 0]) :
    Calls Try.prog 18 #[v, u, .slice (some ⟨B, 0, none⟩) 1 1] w fun e w' => e = .returned (.tuple #[.int .i64 0, .int .i64 16]) ∧ Ext w w' := by
  obtain ⟨n0, n1, -⟩ := near_cert
  have hC : CertAt w (some ⟨B, 0, none⟩) [⟨⟨-1, 5, 0⟩, []⟩] := fun i x hi => by
    cases i with
    | zero =>
      have e : (⟨⟨-1, 5, 0⟩, []⟩ : CNode) = x := by simpa using hi
      subst e
      exact ⟨B, 0, none, 0, rfl, hB.cell 0, hB.cell 1, hB.cell 2, hB.cell 3, intsAt_nil _ _⟩
    | succ i => simp at hi
  refine (CCheck_any (L := [⟨⟨-1, 5, 0⟩, []⟩]) (c := 1) hR hP (check_iff.2 ⟨(perft_zero n0).1, (perft_zero n0).2.1⟩) (by decide) (by decide) (by decide) hC).mono ?_
  rintro e w' ⟨n, k, rfl, x, hk⟩
  obtain ⟨rfl, rfl⟩ := (hk.2.2 n1 five_form).2 near_refused
  exact ⟨rfl, x⟩
end Go.Proofs.Ytnaggpibfmednaa
