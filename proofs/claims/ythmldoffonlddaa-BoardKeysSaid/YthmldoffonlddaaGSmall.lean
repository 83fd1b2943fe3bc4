/- A slice of integers that came in. Walk: some, an element of a list of moves that is not empty. Plain facts and contracts for the laws on results: the sample that is won. Walk: slices.Equal over moves: equal lists. -/
import Derived.Test.YthmldoffonlddaaRows
import Derived.Test.YthmldoffonlddaaGBase
import Derived.Outline
import Derived.OpenShut
import Derived.Test.YthmldoffonlddaaGAll
import Derived.Test.YthmldoffonlddaaGEnds
import Derived.Test.YthmldoffonlddaaGSamples
namespace Go.Proofs.Ythmldoffonlddaa
open Go.RowKit
set_option linter.unusedVariables false
/-- What the walk is told of a slice of integers that came in. -/
def IsRow (w : World) (a : Option Addr) (len cap : Nat) (zs : List Int) : Prop :=
  (a = none ∧ len = 0 ∧ cap = 0 ∧ zs = []) ∨
  ∃ x, a = some x ∧ len ≤ cap ∧ cap ≤ maxLen ∧ zs.length = cap ∧ (∀ i, i < zs.length → w.cell? (x.add i) = some (.int .i64 (zs.getD i 0))) ∧ ∀ n ∈ zs, (Lit.int .i64 n).wf = true
theorem spot_none {w : World} {x : Addr} {v : Value} (h : w.cell? x = some v) : x = ⟨x.block, x.off, none⟩ := by
  obtain ⟨b, o, s⟩ := x
  cases s with
  | none => rfl
  | some s =>
    exfalso
    unfold World.cell? at h
    simp only at h
    split at h
    · simp at h
    · cases h
theorem IsRow.ints {w : World} {a : Option Addr} {len cap : Nat} {zs : List Int} (h : IsRow w a len cap zs) : IntsAt w a (zs.take len) ∧ (zs.take len).length = len ∧ (a = none → len = 0) ∧ len ≤ maxLen := by
  rcases h with ⟨rfl, rfl, rfl, rfl⟩ | ⟨x, rfl, h1, h2, h3, h4, h5⟩
  · exact ⟨by simpa using intsAt_nil w _, rfl, fun _ => rfl, by simp [maxLen]⟩
  · refine ⟨fun i hi => ?_, by simp; omega, fun k => by simp at k, by omega⟩
    have hi2 : i < len := by simp at hi; omega
    have hx := spot_none (h4 0 (by omega))
    have hadd : x.add 0 = x := rfl
    rw [hadd] at hx
    refine ⟨x.block, x.off, by rw [← hx], ?_⟩
    have := h4 i (by omega)
    rw [hx, add_lit] at this
    rw [this]
    simp [hi2]
end Go.Proofs.Ythmldoffonlddaa
namespace Go.Proofs.Ythmldoffonlddaa
open Go.ChangeShapes Go.WideShapes Go.ChangeAt Go.RowKit Go.Shelf
set_option linter.unusedVariables false
def SomePost (w : World) (L : List MoveM) (e : Ending) (w' : World) : Prop := ∃ m, m ∈ L ∧ e = .returned (.agg #[.int .i64 m.src, .int .i64 m.dst, .int .i64 m.piece]) ∧ Ext w w'
theorem some_idx {n l : Int} (hl : 1 ≤ l) : -l < n.tmod l ∧ n.tmod l < l ∧ 0 ≤ (n.tmod l + l).tmod l ∧ (n.tmod l + l).tmod l < l := by
  have h1 : -l < n.tmod l ∧ n.tmod l < l := by
    have a := Int.tmod_lt_of_pos n (show 0 < l by omega)
    refine ⟨?_, a⟩
    have b := Int.tmod_lt_of_pos (-n) (show 0 < l by omega)
    rw [Int.neg_tmod] at b
    omega
  refine ⟨h1.1, h1.2, Int.tmod_nonneg _ (by omega), Int.tmod_lt_of_pos _ (by omega)⟩
set_option maxHeartbeats 1000000 in
set_option maxRecDepth 100000 in
theorem some_move (L : List MoveM) (n : Int) (v : Value) (w : World) (h : MovesAt w v L) (hl : L.length ≤ 1000000) (h0 : L ≠ []) :
    Calls Try.prog 19 #[v, .int .i64 n] w (SomePost w L) := by
  obtain ⟨A, c, rfl, hc⟩ := h
  have hpos : 1 ≤ L.length := by
    rcases L with _ | ⟨x, l⟩
    · exact absurd rfl h0
    · simp
  obtain ⟨q1, q2, q3, q4⟩ := some_idx (n := n) (l := (L.length : Int)) (by omega)
  obtain ⟨k, hk⟩ := Int.eq_ofNat_of_zero_le q3
  have hk' : (n.tmod (L.length : Int) + (L.length : Int)).tmod (L.length : Int) = (k : Int) := hk
  have hkl : k < L.length := by omega
  obtain ⟨m, hm⟩ : ∃ m, L[k]? = some m := ⟨L[k], List.getElem?_eq_getElem _⟩
  obtain ⟨b, o, rfl, c0, c1, c2⟩ := moves_get hc hm
  have HM := hide (List.mem_of_getElem? hm)
  obtain ⟨x1, k1⟩ := blks1 w #[.int .i64 0, .int .i64 0, .int .i64 0] 41
  have d0 := x1.cell c0
  have d1 := x1.cell c1
  have d2 := x1.cell c2
  have HI : (wrap64 (n.tmod (L.length : Int) + (L.length : Int))).tmod (L.length : Int) = (k : Int) := by
    have hw : wrap64 (n.tmod (L.length : Int) + (L.length : Int)) = n.tmod (L.length : Int) + (L.length : Int) := by unfold wrap64; omega
    rw [hw]
    exact hk'
  have z1 : ((L.length : Int) == 0) = false := by simp; omega
  have j0 : (0 : Int) ≤ (k : Int) := by omega
  have j1 : (k : Int) < (L.length : Int) := by omega
  clear hm hc c0 c1 c2 h0 hk hk' q1 q2 q3 q4 hpos
  go_enter Try.func19, Try.ntmps19
  go_wp2
  have K := Blk.new w 41 #[.int .i64 m.src, .int .i64 m.dst, .int .i64 m.piece]
  have f := K.cell
  refine bodyPost_ret (v := .agg #[.int .i64 m.src, .int .i64 m.dst, .int .i64 m.piece]) ?_ rfl ?_
  · simp [results, Try.results19, go_sem, f]
  · exact ⟨m, HM.out, rfl, ext_alloc (Below.refl _ _) _⟩
end Go.Proofs.Ythmldoffonlddaa
namespace Go.Proofs.Ythmldoffonlddaa
open Go.ChangeShapes Go.WideShapes Go.ChangeAt Go.RowKit Go.Shelf
set_option linter.unusedVariables false
def wonP : PosM := { cells := [1, 1, 1, 2, 2, 0, 0, 0, 0], hand0 := [3], hand1 := [3], turn := 1, quiet := 0 }
theorem sound_won : Sound threeR wonP := sound_of (by decide +kernel)
theorem result_won : resultM threeR wonP = 1 := by decide +kernel
theorem result_near : resultM threeR nearP = 0 := by decide +kernel
theorem won_any (v u : Value) (w : World) (hR : RulesAt w v threeR) (hP : PosAt w u wonP) : Calls Try.prog 28 #[v, u] w fun e w' => e = .returned (.tuple #[.int .i64 1, .int .i64 0]) ∧ Ext w w' := by
  have h := EOf_yes threeR wonP v u w hR hP valid_three sound_won
  rw [result_won] at h
  exact h
theorem near_open (v u : Value) (w : World) (hR : RulesAt w v threeR) (hP : PosAt w u nearP) : Calls Try.prog 28 #[v, u] w fun e w' => e = .returned (.tuple #[.int .i64 0, .int .i64 0]) ∧ Ext w w' := by
  have h := EOf_yes threeR nearP v u w hR hP valid_three sound_near
  rw [result_near] at h
  exact h
theorem open_moves {R : RulesM} {P : PosM} (h : resultM R P = 0) (ht : P.turn = 0 ∨ P.turn = 1) : 0 < (listM R P).length := by
  unfold resultM at h
  split at h
  · split at h <;> omega
  · unfold restM at h
    split at h
    · omega
    · split at h
      · assumption
      · split at h
        · omega
        · split at h <;> omega
end Go.Proofs.Ythmldoffonlddaa
namespace Go.Proofs.Ythmldoffonlddaa
open Go.ChangeShapes Go.WideShapes Go.ChangeAt Go.RowKit Go.Shelf
set_option linter.unusedVariables false
set_option maxHeartbeats 2000000 in
set_option maxRecDepth 100000 in
theorem EqMoves_yes (L : List MoveM) (v u : Value) (w : World) (h : MovesAt w v L) (h' : MovesAt w u L) (hl : L.length ≤ 1000000) :
    Calls Try.prog 31 #[v, u] w fun e w' => e = .returned (.bool true) ∧ Ext w w' := by
  obtain ⟨A, c, rfl, hc⟩ := h
  obtain ⟨A2, c2, rfl, hc2⟩ := h'
  have HC := hide hc
  have HC2 := hide hc2
  clear hc hc2
  go_enter Try.func31, Try.ntmps31
  go_wp2
  go_loopw [13] (fun i wr => ∃ k q : Nat, k ≤ L.length ∧ i = .int .i64 k ∧ wr = w.drewN q) (fun i _ => L.length - (intOf i).toNat)
  case atStart => exact ⟨0, 0, Nat.zero_le _, rfl, rfl⟩
  case round =>
    obtain ⟨k, q, hk, rfl, rfl⟩ := hrel
    by_cases hlt : k < L.length
    · obtain ⟨y, hy⟩ : ∃ y, L[k]? = some y := ⟨L[k], List.getElem?_eq_getElem _⟩
      obtain ⟨b, o, rfl, y0, y1, y2⟩ := moves_get HC.out hy
      obtain ⟨b', o', rfl, z0, z1, z2⟩ := moves_get HC2.out hy
      have j0 : (0 : Int) ≤ (k : Int) := by omega
      have j1 : (k : Int) < (L.length : Int) := by omega
      clear hy
      go_wp2_with fail
      go_quiet (fail)
      go_wp2
      go_roundw
      case rel => exact ⟨k + 1, _, by omega, by go_num, rfl⟩
      case measure => simp [intOf]; omega
    · obtain rfl : k = L.length := by omega
      go_wp2
      go_ret
      exact ⟨rfl, ext_drewN (Below.refl _ _) _⟩
end Go.Proofs.Ythmldoffonlddaa
