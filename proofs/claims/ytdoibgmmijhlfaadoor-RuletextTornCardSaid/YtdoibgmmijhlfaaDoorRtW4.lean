/- Walk: reader.piece. -/
import Derived.Test.YtdoibgmmijhlfaaDoorRtW3
namespace Go.Proofs.YtdoibgmmijhlfaaDoor
open Go.RowKit
set_option linter.unusedVariables false
set_option linter.unusedSimpArgs false
theorem pieceIx_len {ps : List PieceM} {s : BL} (h : s.length ≠ 1) : pieceIx ps s = -1 := by
  unfold pieceIx
  split
  · exact absurd rfl h
  · rfl
set_option maxHeartbeats 4000000 in
set_option maxRecDepth 100000 in
theorem rpiece_any (g : Nat) (c0 c1 c2 c3 c5 c6 c7 c8 c9 c10 c11 c12 : Value) (bad : Bool) (pA : Option Addr) (pc : Nat) (ps : List PieceM) (s : BL) (w : World) (hg : Blk w g RT #[c0, c1, c2, c3, .slice pA ps.length pc, c5, c6, c7, c8, c9, c10, c11, c12, .bool bad]) (hp : PiecesAt w pA ps) (hn : ps.length ≤ 1000000) :
    Calls Tryd.prog 71 #[.pointer (some ⟨g, 0, none⟩), .string (strU s)] w fun e w' => e = .returned (.int .i64 (max (pieceIx ps s) 0)) ∧ Blk w' g RT #[c0, c1, c2, c3, .slice pA ps.length pc, c5, c6, c7, c8, c9, c10, c11, c12, .bool (bad || decide (pieceIx ps s < 0))] ∧ w.grownBy w' (some g) := by
  have HP := Lib.hid hp
  have HG := Lib.hid hg
  have HNN := Lib.hid hn
  have hsz := strU_size s
  obtain ⟨xa, k1⟩ := blks1 w #[.string (strU s)] 9
  obtain ⟨K, hK⟩ : ∃ K, K = pieceIx ps s := ⟨_, rfl⟩
  rw [← hK]
  have HK := Lib.hid hK
  have hmx := fun W ats ty => run_maxZ W ats ty K 0
  clear hp hg hn hK
  go_enter Tryd.func71, Tryd.ntmps71
  go_upto_region 1 with fail
  generalize w.alloc _ = w1 at *
  generalize w.heap.size = B at *
  have HX1 := Lib.hid (show Ext w w1 from xa)
  have hgw := HG.out.ext xa
  have HG1 := Lib.hid hgw
  have HP1 := Lib.hid (HP.out.ext xa)
  have hc1 := k1.cell
  have hcA : w1.cell? ⟨B, 0, none⟩ = some (.string (strU s)) := k1.cell 0
  have HCA := Lib.hid hcA
  have hc := hgw.cell
  have hf := hgw.frozen
  have HS1 := Lib.hid (fun (W : World) (y : Ext w1 W) (u : Bool) => And.intro (blk_put (i := 13) (u := .bool u) (HG1.out.ext y) (cs' := #[c0, c1, c2, c3, .slice pA ps.length pc, c5, c6, c7, c8, c9, c10, c11, c12, .bool u]) rfl) (grown_set (grown_of_ext (ext_trans HX1.out y) (some g)) 13 (.bool u)))
  clear xa k1 hgw HG HP hcA
  by_cases h1 : s.length = 1
  · obtain ⟨ch, rfl⟩ : ∃ ch, s = [ch] := by
      match s, h1 with
      | [ch], _ => exact ⟨ch, rfl⟩
    have HK2 := Lib.hid (show K = pieceK ps ch from HK.out)
    have HIX := Lib.hid (by
      have h := idxRPiece_any pA ps.length pc ps ch ⟨B, 0, none⟩ w1 rfl HNN.out HP1.out HCA.out rfl
      rw [← HK2.out] at h
      exact h)
    clear h1
    have hs1 : (strU [ch]).size = 1 := rfl
    clear hsz
    go_wp2_with fail
    refine HIX.out.mono ?_
    rintro e w2 ⟨rfl, x2⟩
    have HX2 := Lib.hid x2
    have hgw := HG1.out.ext x2
    have hc := hgw.cell
    have hf := hgw.frozen
    clear x2 hgw hc1
    by_cases hb : bad = true
    · subst hb
      have HS := Lib.hid (HS1.out w2 HX2.out true)
      go_wp2
      go_ret
      exact ⟨rfl, HS.out.1, HS.out.2⟩
    · obtain rfl : bad = false := by simpa using hb
      have HS := Lib.hid (HS1.out w2 HX2.out (decide (K < 0)))
      clear hb
      go_wp2
      go_ret
      exact ⟨rfl, HS.out.1, HS.out.2⟩
  · have hK1 : K = -1 := by rw [HK.out, pieceIx_len h1]
    have ts : ((s.length : Int) == 1) = false := by simp; omega
    have ts2 : (((strU s).size : Int) == 1) = false := by rw [hsz]; exact ts
    subst hK1
    clear h1 ts hsz HK
    generalize strU s = S at *
    by_cases hb : bad = true
    · subst hb
      have HS := Lib.hid (HS1.out w1 (Below.refl _ _) true)
      go_wp2
      go_ret
      exact ⟨rfl, HS.out.1, HS.out.2⟩
    · obtain rfl : bad = false := by simpa using hb
      have HS := Lib.hid (HS1.out w1 (Below.refl _ _) true)
      clear hb
      go_wp2
      go_ret
      exact ⟨rfl, HS.out.1, HS.out.2⟩
end Go.Proofs.YtdoibgmmijhlfaaDoor
