/- Walk: slices.Sort over at most twelve bytes, whole. -/
import Derived.Test.YthgbdonjheengaaNimO
namespace Go.Proofs.Ythgbdonjheengaa
open Go.RowKit Go.Maps
set_option linter.unusedVariables false
set_option linter.unusedSimpArgs false
def SortPost (l : List Nat) (w0 : World) (g c : Nat) (e : Ending) (w' : World) : Prop := e = .returned (.tuple #[]) ∧ ∃ l', l'.Perm l ∧ l'.Pairwise (· ≤ ·) ∧ RowB w' g c l' ∧ Ext w0 w'
theorem pdq_any (l : List Nat) (n : Nat) (z : Int) (hn : l.length = n) (hn1 : 1 ≤ n) (hn12 : n ≤ 12) (w0 w : World) (g c : Nat) (hc : n ≤ c) (hr : RowB w g c l) (hg : w0.heap.size ≤ g) (hx : Ext w0 w) :
    Calls Try.prog 29 #[.slice (some ⟨g, 0, none⟩) n c, .int .i64 0, .int .i64 (n : Int), .int .i64 z] w (SortPost l w0 g c) := by
  have HS := Lib.hid (isort_any l n hn hn1 hn12 w0 w g c hc hr hg hx)
  have HN := Lib.hid hn12
  clear hr hx hg hn hn1 hn12 hc
  go_enter Try.func29, Try.ntmps29
  go_wp2_with fail
  go_loopw [1, 2] (fun a b wr => a = .int .i64 0 ∧ b = .int .i64 (n : Int) ∧ wr = w) (fun _ _ _ => 0)
  case atStart => exact ⟨rfl, rfl, rfl⟩
  case round =>
    obtain ⟨rfl, rfl, rfl⟩ := hrel
    have i12 := HN.out
    have t0 : decide ((n : Int) ≤ 12) = true := decide_eq_true (by omega)
    have t0n : decide (n ≤ 12) = true := decide_eq_true i12
    go_wp2_with fail
    refine HS.out.mono ?_
    rintro e w2 ⟨rfl, HP⟩
    go_wp2
    refine bodyPost_end (v := .tuple #[]) (by first | rfl | simp [results, Try.results29, go_sem]) rfl ?_
    exact ⟨rfl, HP⟩
set_option maxRecDepth 100000 in
theorem sort_any (l : List Nat) (n : Nat) (hn : l.length = n) (hn1 : 1 ≤ n) (hn12 : n ≤ 12) (w0 w : World) (g c : Nat) (hc : n ≤ c) (hr : RowB w g c l) (hg : w0.heap.size ≤ g) (hx : Ext w0 w) :
    Calls Try.prog 20 #[.slice (some ⟨g, 0, none⟩) n c] w (SortPost l w0 g c) := by
  have HS := Lib.hid (fun z => pdq_any l n z hn hn1 hn12 w0 w g c hc hr hg hx)
  have HL := Lib.hid (fun W => len_any n hn12 W)
  have HN := Lib.hid hn12
  clear hr hx hg hn hn1 hc
  have tw : IntKind.u64.wrap (n : Int) = (n : Int) := by rw [IntKind.wrap_u64]; omega
  clear hn12
  go_enter Try.func20, Try.ntmps20
  go_wp2_with fail
  refine (HL.out _).mono ?_
  rintro e w2 ⟨⟨z, rfl⟩, rfl⟩
  go_wp2_with fail
  refine (HS.out z).mono ?_
  rintro e w3 ⟨rfl, HP⟩
  go_wp2
  refine bodyPost_end (v := .tuple #[]) (by first | rfl | simp [results, Try.results20, go_sem]) rfl ?_
  exact ⟨rfl, HP⟩
theorem isort0_any (A : Option Addr) (c : Nat) (w : World) : Calls Try.prog 36 #[.slice A 0 c, .int .i64 0, .int .i64 0] w fun e w' => e = .returned (.tuple #[]) ∧ w = w' := by
  go_enter Try.func36, Try.ntmps36
  go_wp2_with fail
  go_loopw [6] (fun v wr => v = .int .i64 1 ∧ wr = w) (fun _ _ => 0)
  case atStart => exact ⟨rfl, rfl⟩
  case round =>
    obtain ⟨rfl, rfl⟩ := hrel
    go_wp2
    refine bodyPost_end (v := .tuple #[]) (by first | rfl | simp [results, Try.results36, go_sem]) rfl ?_
    exact ⟨rfl, rfl⟩
theorem pdq0_any (A : Option Addr) (c : Nat) (z : Int) (w : World) : Calls Try.prog 29 #[.slice A 0 c, .int .i64 0, .int .i64 0, .int .i64 z] w fun e w' => e = .returned (.tuple #[]) ∧ w = w' := by
  go_enter Try.func29, Try.ntmps29
  go_wp2_with fail
  go_loopw [1, 2] (fun a b wr => a = .int .i64 0 ∧ b = .int .i64 0 ∧ wr = w) (fun _ _ _ => 0)
  case atStart => exact ⟨rfl, rfl, rfl⟩
  case round =>
    obtain ⟨rfl, rfl, rfl⟩ := hrel
    go_wp2_with fail
    refine (isort0_any A c _).mono ?_
    rintro e w2 ⟨rfl, rfl⟩
    go_wp2
    refine bodyPost_ret (v := .tuple #[]) (by first | rfl | simp [results, Try.results29, go_sem]) rfl ?_
    exact ⟨rfl, rfl⟩
set_option maxRecDepth 100000 in
theorem sort0_any (A : Option Addr) (c : Nat) (w : World) : Calls Try.prog 20 #[.slice A 0 c] w fun e w' => e = .returned (.tuple #[]) ∧ w = w' := by
  have HL := Lib.hid (fun W => len_any 0 (by decide) W)
  go_enter Try.func20, Try.ntmps20
  go_wp2_with fail
  refine (HL.out _).mono ?_
  rintro e w2 ⟨⟨z, rfl⟩, rfl⟩
  go_wp2_with fail
  refine (pdq0_any A c z _).mono ?_
  rintro e w3 ⟨rfl, rfl⟩
  go_wp2
  refine bodyPost_end (v := .tuple #[]) (by first | rfl | simp [results, Try.results20, go_sem]) rfl ?_
  exact ⟨rfl, rfl⟩
end Go.Proofs.Ythgbdonjheengaa
