/- Walk: keyed. -/
import Derived.Test.YtcfiannlpkofpaaZobChange
import Derived.Test.YtcfiannlpkofpaaGZob
import Derived.Test.YtcfiannlpkofpaaSamples
import Derived.Test.YtcfiannlpkofpaaGLibB
import Derived.Test.YtcfiannlpkofpaaGThree
namespace Go.Proofs.Ytcfiannlpkofpaa
open Go.ChangeShapes Go.WideShapes Go.ChangeAt Go.RowKit Go.Shelf
set_option linter.unusedVariables false
theorem near_put : (⟨-1, 2, 0⟩ : MoveM) ∈ listM threeR nearP := by decide +kernel
set_option maxHeartbeats 2000000 in
set_option maxRecDepth 100000 in
theorem keyed_any (w : World) : Calls Try.prog 33 #[] w fun e w' => e = .returned (.bool true) ∧ Ext w w' := by
  have HK1 := hide (fun W (v u : Value) (h1 : RulesAt W v threeR) (h2 : PosAt W u nearP) => Key_any threeR nearP v u W h1 h2)
  have HK2 := hide (fun W (v u : Value) (h1 : RulesAt W v threeR) (h2 : PosAt W u nearP) => Change_yes threeR nearP ⟨-1, 2, 0⟩ v u W h1 h2 valid_three sound_near near_put)
  rw [check_iff.2 ⟨valid_three, sound_near⟩] at HK1
  go_enter Try.func33, Try.ntmps33
  go_wp2_with fail
  refine (three_any _).mono ?_
  rintro e w2 ⟨v1, rfl, h1, x⟩
  have X := x
  clear x
  go_wp2_with fail
  refine (near_any _).mono ?_
  rintro e w3 ⟨v2, rfl, h2, x⟩
  replace h1 := h1.ext x
  replace X := ext_trans X x
  clear x
  replace h2 := h2.at_
  go_wp2_with fail
  refine (HK1.out _ _ _ h1 h2).mono ?_
  rintro e w4 ⟨rfl, x⟩
  replace h1 := h1.ext x
  replace h2 := h2.ext x
  replace X := ext_trans X x
  clear x
  clear h1 h2
  go_wp2_with fail
  refine (three_any _).mono ?_
  rintro e w5 ⟨v3, rfl, h3, x⟩
  replace X := ext_trans X x
  clear x
  go_wp2_with fail
  refine (near_any _).mono ?_
  rintro e w6 ⟨v4, rfl, h4, x⟩
  replace h3 := h3.ext x
  replace X := ext_trans X x
  clear x
  replace h4 := h4.at_
  go_wp2_with fail
  refine (put_any 2 _).mono ?_
  rintro e w7 ⟨rfl, x⟩
  replace h3 := h3.ext x
  replace h4 := h4.ext x
  replace X := ext_trans X x
  clear x
  go_wp2_with fail
  refine (HK2.out _ _ _ h3 h4).mono ?_
  rintro e w8 ⟨rfl, x⟩
  replace h3 := h3.ext x
  replace h4 := h4.ext x
  replace X := ext_trans X x
  clear x
  clear h3 h4
  obtain ⟨xa, kE⟩ := blks1 w8 #[.int .i64 0, .int .i64 0] 28
  replace X := ext_trans X xa
  clear xa
  go_wp2_with fail
  generalize (w8.alloc (.cells #[.int .i64 0, .int .i64 0] 28)) = w9 at *
  generalize w8.heap.size = BE at *
  refine (fine_ext (fine_any (some ⟨BE, 0, none⟩) 2 2 [0, 0] _ rfl (by omega) (blk_ints kE))).mono ?_
  rintro e w10 ⟨rfl, x⟩
  replace kE := kE.ext x
  replace X := ext_trans X x
  clear x
  rw [show allZero [0, 0] = true from rfl]
  clear kE
  clear HK1 HK2
  go_wp2_with fail
  refine (Mix_any 33 _ (by decide) (by decide)).mono ?_
  rintro e w' ⟨rfl, rfl⟩
  go_wp2_with fail
  refine (Mix_any 2000 _ (by decide) (by decide)).mono ?_
  rintro e w' ⟨rfl, rfl⟩
  go_wp2_with fail
  refine (Mix_any 3000 _ (by decide) (by decide)).mono ?_
  rintro e w' ⟨rfl, rfl⟩
  go_wp2_with fail
  refine (Mix_any 33 _ (by decide) (by decide)).mono ?_
  rintro e w' ⟨rfl, rfl⟩
  go_wp2
  go_ret
  exact ⟨rfl, X⟩
end Go.Proofs.Ytcfiannlpkofpaa
