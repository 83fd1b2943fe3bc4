/- Walk: the sample stored. -/
import Derived.Test.YtfkcigekbgkcmaaGreatGStoreB
import Derived.Test.YtfkcigekbgkcmaaGreatGSamples
import Derived.Test.YtfkcigekbgkcmaaGreatGSmall
namespace Go.Proofs.YtfkcigekbgkcmaaGreat
open Go.ChangeShapes Go.WideShapes Go.ChangeAt Go.RowKit Go.Shelf
set_option linter.unusedVariables false
set_option linter.unusedSimpArgs false
theorem near_chk : chkE threeR nearP 2 = 0 ∧ chkE threeR nearP 1 = 0 := by decide +kernel
theorem near_slot : hasB ((putS (List.replicate 1 none) nearP 2 5).getD (slotI nearP (putS (List.replicate 1 none) nearP 2 5).length) none) nearP 2 = true ∧ scoreS ((putS (List.replicate 1 none) nearP 2 5).getD (slotI nearP (putS (List.replicate 1 none) nearP 2 5).length) none) = 5 ∧
    hasB ((putS (List.replicate 1 none) nearP 2 5).getD (slotI nearP (putS (List.replicate 1 none) nearP 2 5).length) none) nearP 1 = false ∧ usedN (putS (List.replicate 1 none) nearP 2 5) = 1 := by decide +kernel
theorem near_sounds : SoundS threeR (putS (List.replicate 1 none) nearP 2 5) := (soundS_new threeR 1).put sound_near
theorem near_one : ofM threeR (1 : Int).toNat nearP = 999 := by
  have h := near_score.1
  rw [show scoreM threeR nearP 1 = ofM threeR (1 : Int).toNat nearP from if_pos near_score.2.1] at h
  exact h
set_option maxHeartbeats 8000000 in
set_option maxRecDepth 100000 in
theorem stored_any (w : World) : Calls Tryz.prog 4 #[] w fun e w' => e = .returned (.bool true) ∧ Ext w w' := by
  have HN1 := hide (fun W (v : Value) (h : RulesAt W v threeR) => sNew_yes threeR v 1 W h valid_three (by omega) (by omega))
  have HN9 := hide (fun W (v : Value) (h : RulesAt W v threeR) => sNew_yes threeR v 9 W h valid_three (by omega) (by omega))
  unfold SNewPost at HN1 HN9
  rw [show ((1 : Nat) : Int) = 1 from rfl] at HN1
  rw [show ((9 : Nat) : Int) = 9 from rfl] at HN9
  go_enter Tryz.func4, Tryz.ntmps4
  go_wp2_with fail
  refine (three_any _).mono ?_
  rintro e w2 ⟨v1, rfl, h1, x⟩
  have X := x
  clear x
  go_wp2_with fail
  refine (HN1.out _ _ h1).mono ?_
  rintro e w3 ⟨BS, g, rfl, hs⟩
  have XW := hide X
  have S3 := hide hs
  clear hs h1 X HN1
  go_wp2_with fail
  refine (near_any _).mono ?_
  rintro e w4 ⟨v4, rfl, h4, x4⟩
  have S4 := hide (S3.out.ext x4)
  have N4 := hide h4.at_
  clear h4 x4 S3
  have HP4 := hide (sPut_yes (D := 2) (s := 5) S4.out (by decide) (by decide) N4.out near_chk.1 (by omega) (by omega))
  unfold SPutOk at HP4
  go_wp2_with fail
  refine HP4.out.mono ?_
  rintro e w5 ⟨rfl, s5, f5⟩
  have S5 := hide s5
  clear s5 f5 HP4 S4 N4
  go_wp2_with fail
  refine (near_any _).mono ?_
  rintro e w6 ⟨v6, rfl, h6, x6⟩
  have S6 := hide (S5.out.ext x6)
  have N6 := hide h6.at_
  clear h6 x6 S5
  have HG6 := hide (sGet_yes (D := 2) S6.out (by rw [putS_len]; decide) (by rw [putS_len]; decide) N6.out near_chk.1 near_sounds near_slot.1)
  rw [near_slot.2.1] at HG6
  unfold SGetOk at HG6
  go_wp2_with fail
  refine HG6.out.mono ?_
  rintro e w7 ⟨rfl, s7, f7⟩
  have S7 := hide s7
  clear s7 f7 HG6 S6 N6
  go_wp2_with fail
  refine (near_any _).mono ?_
  rintro e w8 ⟨v8, rfl, h8, x8⟩
  have S8 := hide (S7.out.ext x8)
  have N8 := hide h8.at_
  clear h8 x8 S7
  have HG8 := hide (sGet_none (D := 1) S8.out (by rw [putS_len]; decide) (by rw [putS_len]; decide) N8.out near_chk.2 near_sounds near_slot.2.2.1)
  go_wp2_with fail
  refine HG8.out.mono ?_
  rintro e w9 ⟨rfl, x9⟩
  have S9 := hide (S8.out.ext x9)
  clear x9 HG8 S8 N8
  go_wp2_with fail
  refine (three_any _).mono ?_
  rintro e wa ⟨va, rfl, ha, xa⟩
  have SA := hide (S9.out.ext xa)
  have HRA := hide ha
  clear ha xa S9
  go_wp2_with fail
  refine (HN9.out _ _ HRA.out).mono ?_
  rintro e wb ⟨BT, gt, rfl, hs⟩
  have TB := hide hs
  clear hs HRA HN9
  go_wp2_with fail
  refine (near_any _).mono ?_
  rintro e wc ⟨vc, rfl, hc, xc⟩
  have TC := hide (TB.out.ext xc)
  have NC := hide (show PosS wa wc vc nearP from .inr hc.toI)
  clear hc xc TB
  have HSC := hide (sScore_yes (D := 1) TC.out (by decide) (by decide) (rightS_new threeR 9) (soundS_new threeR 9) NC.out near_score.2.1)
  rw [near_one] at HSC
  unfold SScorePost SLoop at HSC
  go_wp2_with fail
  refine HSC.out.mono ?_
  rintro e wd ⟨rfl, ⟨ft, Lt, td, -⟩, fd⟩
  have SD := hide (SA.out.ext td.old)
  clear td fd HSC TC NC SA
  have HLN := hide (sLen_any SD.out (by rw [putS_len]; decide))
  rw [near_slot.2.2.2] at HLN
  go_wp2_with fail
  refine HLN.out.mono ?_
  rintro e we ⟨rfl, xe⟩
  have SE := hide (SD.out.ext xe)
  clear xe HLN SD
  have HFN := hide (sFound_any SE.out)
  rw [show IntKind.i64.wrap (0 + 1) = 1 from by decide] at HFN
  go_wp2_with fail
  refine HFN.out.mono ?_
  rintro e wf ⟨rfl, xf⟩
  have X := ext_trans XW.out (SE.out.ext xf).old
  clear xf HFN
  go_wp2
  go_ret
  exact ⟨by first | rfl | simp, X⟩
end Go.Proofs.YtfkcigekbgkcmaaGreat
