/- A slice of slices of integers that came in; walk: do all draws fit (slices.ContainsFunc). -/
import Derived.Test.YtdoibgmmijhlfaaDealV
import Derived.Test.YtdoibgmmijhlfaaRowIn
import Derived.Outline
namespace Go.Proofs.Ytdoibgmmijhlfaa
open Go.ChangeShapes Go.WideShapes Go.ChangeAt Go.RowKit Go.Shelf
set_option linter.unusedVariables false
set_option linter.unusedSimpArgs false
/-- What the walk is told of a slice of slices of integers that came in. -/
def IsRows (w : World) (a : Option Addr) (n c : Nat) (L : List (List Int)) : Prop :=
  L.length = n ∧ n ≤ c ∧ c ≤ maxLen ∧ (a = none → c = 0) ∧ ∀ k, k < n → ∃ b o B d, a = some ⟨b, o, none⟩ ∧ w.cell? ⟨b, o + k, none⟩ = some (.slice B (L.getD k []).length d) ∧ IntsAt w B (L.getD k []) ∧ (L.getD k []).length ≤ maxLen
theorem IsRows.ext {w W : World} {a : Option Addr} {n c : Nat} {L : List (List Int)} (h : IsRows w a n c L) (x : Ext w W) : IsRows W a n c L :=
  ⟨h.1, h.2.1, h.2.2.1, h.2.2.2.1, fun k hk => by
    obtain ⟨b, o, B, d, e1, e2, e3, e4⟩ := h.2.2.2.2 k hk
    exact ⟨b, o, B, d, e1, x.cell e2, e3.ext x, e4⟩⟩
theorem IsRows.take {w : World} {a : Option Addr} {n c : Nat} {L : List (List Int)} (h : IsRows w a n c L) {m : Nat} (hm : m ≤ n) : IsRows w a m c (L.take m) := by
  refine ⟨by rw [List.length_take, h.1]; omega, by have := h.2.1; omega, h.2.2.1, h.2.2.2.1, fun k hk => ?_⟩
  have e : (L.take m).getD k [] = L.getD k [] := by simp [List.getD_eq_getElem?_getD, List.getElem?_take, hk]
  rw [e]
  exact h.2.2.2.2 k (by omega)
theorem fits_one (A : Option Addr) (n c : Nat) (ds : List Int) (W : World) (hn : ds.length = n) (hm : n ≤ maxLen) (hz : IntsAt W A ds) :
    Calls Try.prog 21 #[.slice A n c] W fun e w' => ∃ b, e = .returned (.bool b) ∧ (b = false → FitsL 52 ds) ∧ Ext W w' := by
  have HF := hide (Fits_any 52 A n c ds W (by omega) (by omega) hn hm hz)
  clear hz hn hm
  go_enter Try.func21, Try.ntmps21
  go_wp2_with fail
  refine HF.out.mono ?_
  rintro e w1 ⟨hres, rfl⟩
  rcases hres with ⟨rfl, hf⟩ | ⟨cd, hcd, rfl, hno⟩
  · have H := hide hf
    clear hf
    go_wp2
    go_ret
    exact ⟨false, rfl, fun _ => H.out, Below.refl _ _⟩
  · have t0 : (cd != 0) = true := by simpa using hcd
    clear hno hcd
    go_wp2
    go_ret
    exact ⟨true, rfl, (fun h => by cases h), Below.refl _ _⟩
set_option maxHeartbeats 1000000 in
set_option maxRecDepth 100000 in
theorem idx_rows (A : Option Addr) (n c : Nat) (L : List (List Int)) (w : World) (h : IsRows w A n c L) (h4 : n ≤ 4) :
    Calls Try.prog 50 #[.slice A n c, .func (.func 21) #[] #[]] w fun e w' => ∃ r : Int, e = .returned (.int .i64 r) ∧ (decide (0 ≤ r) = false → ∀ k, k < n → FitsL 52 (L.getD k [])) ∧ Ext w w' := by
  have eg : ∀ args W, (callFunc 21 args).run Try.prog W = .ok (.enter 21 args) W := enters_of Try.func21 (by kernel_rfl) rfl
  have H := hide h
  clear h
  go_enter Try.func50, Try.ntmps50
  go_wp2
  go_loopw [5, 8] (fun _ i wr => ∃ k : Nat, k ≤ n ∧ i = .int .i64 k ∧ Hid (∀ j, j < k → FitsL 52 (L.getD j [])) ∧ Ext w wr) (fun _ i _ => n - (intOf i).toNat)
  case atStart => exact ⟨0, Nat.zero_le _, rfl, hide (fun j hj => by omega), Below.refl _ _⟩
  case round =>
    obtain ⟨k, hk, rfl, hall, hext⟩ := hrel
    by_cases hlt : k < n
    · obtain ⟨b, o, B, d, rfl, hc, hz, hm⟩ := (H.out.ext hext).2.2.2.2 k hlt
      have HCALL := hide (fits_one B (L.getD k []).length d (L.getD k []) wr rfl hm hz)
      have HSTEP : Hid (FitsL 52 (L.getD k []) → ∀ j, j < k + 1 → FitsL 52 (L.getD j [])) := hide (fun h j hj => by
        by_cases e : j = k
        · subst e; exact h
        · exact hall.out j (by omega))
      have i0 : (0 : Int) ≤ (k : Int) := by omega
      have i1 : (k : Int) < (n : Int) := by omega
      have HK := hide hlt
      clear hall hlt hk hz hm
      go_wp2_with fail
      refine HCALL.out.mono ?_
      rintro e w1 ⟨bb, rfl, hbf, y1⟩
      have Y1 := hide (ext_trans hext y1)
      have HBF := hide hbf
      clear hc y1 hext hbf
      cases bb
      · go_wp2
        go_roundw
        case rel => exact ⟨k + 1, HK.out, by go_num, hide (HSTEP.out (HBF.out (by first | rfl | trivial))), Y1.out⟩
        case measure => have := HK.out; simp only [intOf, wrap64]; omega
      · go_wp2
        go_ret
        exact ⟨k, rfl, fun h => by first | (simp at h; done) | (simp at h; omega), Y1.out⟩
    · obtain rfl : k = n := by omega
      have HA := hide hall.out
      clear hall hlt hk
      go_wp2
      go_ret
      exact ⟨-1, rfl, fun _ => HA.out, hext⟩
theorem has_rows (A : Option Addr) (n c : Nat) (L : List (List Int)) (w : World) (h : IsRows w A n c L) (h4 : n ≤ 4) :
    Calls Try.prog 20 #[.slice A n c, .func (.func 21) #[] #[]] w fun e w' => ∃ b, e = .returned (.bool b) ∧ (b = false → ∀ k, k < n → FitsL 52 (L.getD k [])) ∧ Ext w w' := by
  have HI := hide (idx_rows A n c L w h h4)
  clear h
  go_enter Try.func20, Try.ntmps20
  go_wp2_with fail
  refine HI.out.mono ?_
  rintro e w1 ⟨r, rfl, hr, x1⟩
  have HR := hide hr
  clear hr
  go_wp2
  go_ret
  exact ⟨_, rfl, HR.out, x1⟩
end Go.Proofs.Ytdoibgmmijhlfaa
