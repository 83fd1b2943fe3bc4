/- Walk: the law SymmTurned. -/
import Derived.Test.YtmkckpiehffccaaTurnW2
import Derived.Test.YtmkckpiehffccaaFine
namespace Go.Proofs.Ytmkckpiehffccaa
open Go.ChangeShapes Go.WideShapes Go.ChangeAt Go.RowKit
set_option linter.unusedVariables false
theorem turnedLaw_any (a b c : Int) (w : World) (hw : (Lit.int .i64 c).wf = true) :
    Calls Try.prog 3 #[.int .i64 a, .int .i64 b, .int .i64 c] w fun e w' => e = .returned (.bool true) ∧ Ext w w' := by
  have H6 := hide (fun W => col_six.1 ▸ col_six.2 ▸ Colours_any 2 2 2 W)
  have HA := hide (fun W => Colours_any a b c W)
  have HB := hide (fun W => colE_turned b a c ▸ colV_turned b a c ▸ Colours_any b a c W)
  obtain ⟨d, hd⟩ : ∃ d, IntKind.i64.wrap (c + 1) = d := ⟨_, rfl⟩
  have HD := hide (fun W => Colours_any a b d W)
  have HL := hide (fun (h : colE a b c = 0) (k : colE a b d = 0) => show colV a b c < colV a b d from by
    have := (colE_zero h).2
    have e : d = c + 1 := by rw [← hd, IntKind.wrap_i64]; omega
    subst e
    exact colV_more h k)
  clear hw
  generalize colE a b c = E at *
  generalize colV a b c = V at *
  generalize colE a b d = E2 at *
  generalize colV a b d = V2 at *
  go_enter Try.func3, Try.ntmps3
  go_wp2_with fail
  refine (H6.out _).mono ?_
  rintro e w1 ⟨rfl, x1⟩
  go_wp2_with fail
  refine (HA.out _).mono ?_
  rintro e w2 ⟨rfl, x2⟩
  go_wp2_with fail
  refine (HB.out _).mono ?_
  rintro e w3 ⟨rfl, x3⟩
  go_wp2_with fail
  refine (HD.out _).mono ?_
  rintro e w4 ⟨rfl, x4⟩
  go_wp2_with fail
  refine (fine_any _ 2 2 [E, E2] _ rfl (by omega) (by simpa using intsAt_new w4 22 [E, E2])).mono ?_
  rintro e w5 ⟨rfl, rfl⟩
  by_cases h : E = 0 ∧ E2 = 0
  · have hlt := HL.out h.1 h.2
    rw [show allZero [E, E2] = true from by simp [allZero, h.1, h.2]]
    clear h
    go_wp2
    go_ret
    exact ⟨rfl, ext_alloc (ext_trans (ext_trans (ext_trans x1 x2) x3) x4) _⟩
  · rw [show allZero [E, E2] = false from by simp [allZero]; omega]
    clear h
    go_wp2
    go_ret
    exact ⟨rfl, ext_alloc (ext_trans (ext_trans (ext_trans x1 x2) x3) x4) _⟩
theorem turned_walk (a b c : Int) (w : World) (_ : (Lit.int .i64 a).wf = true) (_ : (Lit.int .i64 b).wf = true) (hw : (Lit.int .i64 c).wf = true) :
    Calls Try.prog 3 #[.int .i64 a, .int .i64 b, .int .i64 c] w fun e w' => e = .returned (.bool true) ∧ Ext w w' := turnedLaw_any a b c w hw
end Go.Proofs.Ytmkckpiehffccaa
