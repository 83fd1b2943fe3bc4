/- Walk: zob.Mix. Walk: zob.Of. Walk: zob.Key. -/
import Derived.Test.YtfkcigekbgkcmaaGreatRows
import Derived.Test.YtfkcigekbgkcmaaGreatGBase
import Derived.ProofKit
import Derived.OpenShut
import Derived.Outline
import Derived.Laws.BitsLemmas
import Derived.Test.YtfkcigekbgkcmaaGreatOther
namespace Go.Proofs.YtfkcigekbgkcmaaGreat
open Go.ChangeShapes Go.WideShapes Go.ChangeAt Go.RowKit
set_option linter.unusedVariables false
def mixA (n : Int) : Int := IntKind.u64.wrap ((n + 1) * 11400714819323198485)
def mixB (z : Int) : Int := IntKind.u64.wrap (bits .xor .u64 z (z / 1073741824) * 13787848793156543929)
def mixC (z : Int) : Int := IntKind.u64.wrap (bits .xor .u64 z (z / 134217728) * 10723151780598845931)
/-- What zob.Mix answers. -/
def mixM (n : Int) : Int := bits .xor .u64 (mixC (mixB (mixA n))) (mixC (mixB (mixA n)) / 2147483648)
theorem Mix_any (n : Int) (w : World) (h0 : 0 ≤ n) (h1 : n ≤ 1000000000000000) : Calls Tryz.prog 98 #[.int .i64 n] w fun e w' => e = .returned (.int .u64 (mixM n)) ∧ w = w' := by
  go_enter Tryz.func98, Tryz.ntmps98
  go_wp2
  go_ret
  exact ⟨rfl, rfl⟩
end Go.Proofs.YtfkcigekbgkcmaaGreat
namespace Go.Proofs.YtfkcigekbgkcmaaGreat
open Go.ChangeShapes Go.WideShapes Go.ChangeAt Go.RowKit Go.Shelf
set_option linter.unusedVariables false
/-- The key of the first k squares. -/
def keyC (cs : List Int) : Nat → Int
  | 0 => 0
  | k + 1 => if cs.getD k 0 = 0 then keyC cs k else IntKind.u64.wrap (keyC cs k + mixM (16 * (k : Int) + cs.getD k 0))
/-- .. and of the first k types of player p's hand. -/
def keyH (base : Int) (hd : List Int) (p : Int) : Nat → Int
  | 0 => base
  | k + 1 => IntKind.u64.wrap (keyH base hd p k + IntKind.u64.wrap (mixM (2000 + 8 * p + (k : Int)) * hd.getD k 0))
def keyB (P : PosM) : Int := keyH (keyH (keyC P.cells P.cells.length) P.hand0 0 P.hand0.length) P.hand1 1 P.hand1.length
def keyM (P : PosM) : Int := if P.turn = 1 then IntKind.u64.wrap (keyB P + mixM 3000) else keyB P
def keyP (P : PosM) (k : Nat) : Int := if k = 0 then keyC P.cells P.cells.length else if k = 1 then keyH (keyC P.cells P.cells.length) P.hand0 0 P.hand0.length else keyB P
set_option maxHeartbeats 4000000 in
set_option maxRecDepth 100000 in
theorem Of_any (R : RulesM) (P : PosM) (u : Value) (w : World) (hP : PosAt w u P) (hV : Valid R) (hS : Sound R P) :
    Calls Tryz.prog 82 #[u] w fun e w' => e = .returned (.int .u64 (keyM P)) ∧ Ext w w' := by
  have har := area_bd _ _ hV.side
  have ha := hS.area
  have hp6 := hV.pieces6
  have hl0 := hS.len0
  have hl1 := hS.len1
  have h64 : P.cells.length ≤ 64 := by omega
  have h60 : P.hand0.length ≤ 6 := by omega
  have h61 : P.hand1.length ≤ 6 := by omega
  have HCB := hide (fun (c : Int) (h : c ∈ P.cells) => (⟨(hS.cells c h).1, by have := (hS.cells c h).2; omega⟩ : 0 ≤ c ∧ c ≤ 12))
  have HH0 := hide hS.held0
  have HH1 := hide hS.held1
  obtain ⟨cA, cc, aA, ac, bA, bc, rfl, hcc, haa, hbb, -⟩ := hP
  obtain ⟨x1, k1⟩ := blks1 w #[.slice cA P.cells.length cc, .slice aA P.hand0.length ac, .slice bA P.hand1.length bc, .int .i64 P.turn, .int .i64 P.quiet] 29
  have HX := hide x1
  have HC := hide (hcc.ext x1)
  have HA := hide (haa.ext x1)
  have HB := hide (hbb.ext x1)
  have ht := hS.turn
  have HT := hide hS.turn
  clear har ha hp6 hl0 hl1 hS hV hcc haa hbb x1 ht
  have i0 : ∀ w, (Instr.index 27 (.agg #[.slice aA P.hand0.length ac, .slice bA P.hand1.length bc]) (.int .i64 0)).run Tryz.prog w = .ok (.slice aA P.hand0.length ac) w := fun _ => by kernel_rfl
  have i1 : ∀ w, (Instr.index 27 (.agg #[.slice aA P.hand0.length ac, .slice bA P.hand1.length bc]) (.int .i64 1)).run Tryz.prog w = .ok (.slice bA P.hand1.length bc) w := fun _ => by kernel_rfl
  go_enter Tryz.func82, Tryz.ntmps82
  go_wp2
  generalize w.alloc (.cells #[.slice cA P.cells.length cc, .slice aA P.hand0.length ac, .slice bA P.hand1.length bc, .int .i64 P.turn, .int .i64 P.quiet] 29) = w2 at *
  generalize w.heap.size = B1 at *
  have f0 : w2.cell? ⟨B1, 0, none⟩ = some (.slice cA P.cells.length cc) := k1.cell 0
  have f1 : w2.cell? ⟨B1, 1, none⟩ = some (.slice aA P.hand0.length ac) := k1.cell 1
  have f2 : w2.cell? ⟨B1, 2, none⟩ = some (.slice bA P.hand1.length bc) := k1.cell 2
  have f3 : w2.cell? ⟨B1, 3, none⟩ = some (.int .i64 P.turn) := k1.cell 3
  clear k1
  go_wp2
  go_loop [3, 4, 5, 13] (fun o _ _ i => ∃ k : Nat, k ≤ P.cells.length ∧ i = .int .i64 k ∧ o = .int .u64 (keyC P.cells k)) (fun _ _ _ i => P.cells.length - (intOf i).toNat)
  case atStart => exact ⟨0, Nat.zero_le _, rfl, rfl⟩
  case round =>
    obtain ⟨k, hk, rfl, rfl⟩ := hrel
    by_cases hlt : k < P.cells.length
    · obtain ⟨bC, oC, rfl, hcell⟩ := HC.out k hlt
      have hz := HCB.out (P.cells.getD k 0) (by simp [hlt])
      have HS := hide (show keyC P.cells (k + 1) = if P.cells.getD k 0 = 0 then keyC P.cells k else IntKind.u64.wrap (keyC P.cells k + mixM (16 * (k : Int) + P.cells.getD k 0)) from rfl)
      generalize P.cells.getD k 0 = z at *
      obtain ⟨z0, z1⟩ := hz
      by_cases hz0 : z = 0
      · have HN := hide (HS.out.trans (if_pos hz0))
        subst hz0
        clear HS
        go_wp2
        go_round
        case rel => exact ⟨k + 1, by omega, by go_num, by rw [HN.out]⟩
        case measure => simp [intOf]; omega
      · have HN := hide (HS.out.trans (if_neg hz0))
        have t0 : (z != 0) = true := by simpa using hz0
        clear HS hz0
        go_wp2_with (go_at_call 98; refine (Mix_any _ _ (by omega) (by omega)).mono ?_; rintro e w' ⟨rfl, rfl⟩)
        go_round
        case rel => exact ⟨k + 1, by omega, by go_num, by rw [HN.out]⟩
        case measure => simp [intOf]; omega
    · obtain rfl : k = P.cells.length := by omega
      go_wp2
      go_loop [3, 6, 7, 30] (fun o _ _ i => ∃ k : Nat, k ≤ 2 ∧ i = .int .i64 k ∧ o = .int .u64 (keyP P k)) (fun _ _ _ i => 2 - (intOf i).toNat)
      case atStart => exact ⟨0, by omega, rfl, rfl⟩
      case round =>
        obtain ⟨k, hk, rfl, rfl⟩ := hrel
        rcases (by omega : k = 0 ∨ k = 1 ∨ k = 2) with rfl | rfl | rfl
        · have HE : Hid (keyP P 1 = keyH (keyP P 0) P.hand0 0 P.hand0.length) := hide rfl
          generalize keyP P 0 = base at *
          go_wp2
          go_loop [3, 8, 9, 36] (fun o _ _ i => ∃ j : Nat, j ≤ P.hand0.length ∧ i = .int .i64 j ∧ o = .int .u64 (keyH base P.hand0 0 j)) (fun _ _ _ i => P.hand0.length - (intOf i).toNat)
          case atStart => exact ⟨0, Nat.zero_le _, rfl, rfl⟩
          case round =>
            obtain ⟨j, hj, rfl, rfl⟩ := hrel
            by_cases hlt : j < P.hand0.length
            · obtain ⟨bC, oC, rfl, hcell⟩ := HA.out j hlt
              have hz := HH0.out (P.hand0.getD j 0) (by simp [hlt])
              have HS := hide (show keyH base P.hand0 0 (j + 1) = IntKind.u64.wrap (keyH base P.hand0 0 j + IntKind.u64.wrap (mixM (2000 + 8 * 0 + (j : Int)) * P.hand0.getD j 0)) from rfl)
              generalize P.hand0.getD j 0 = z at *
              obtain ⟨z0, z1⟩ := hz
              clear i0 i1
              go_wp2_with (go_at_call 98; refine (Mix_any _ _ (by omega) (by omega)).mono ?_; rintro e w' ⟨rfl, rfl⟩)
              go_round
              case rel => exact ⟨j + 1, by omega, by go_num, by rw [HS.out, show (2000 : Int) + 8 * 0 = 2000 from rfl]⟩
              case measure => simp [intOf]; omega
            · obtain rfl : j = P.hand0.length := by omega
              clear i0 i1
              go_wp2
              go_round
              case rel => exact ⟨1, by omega, by go_num, by rw [HE.out]⟩
              case measure => simp [intOf]
        · have HE : Hid (keyP P 2 = keyH (keyP P 1) P.hand1 1 P.hand1.length) := hide rfl
          generalize keyP P 1 = base at *
          go_wp2
          go_loop [3, 8, 9, 36] (fun o _ _ i => ∃ j : Nat, j ≤ P.hand1.length ∧ i = .int .i64 j ∧ o = .int .u64 (keyH base P.hand1 1 j)) (fun _ _ _ i => P.hand1.length - (intOf i).toNat)
          case atStart => exact ⟨0, Nat.zero_le _, rfl, rfl⟩
          case round =>
            obtain ⟨j, hj, rfl, rfl⟩ := hrel
            by_cases hlt : j < P.hand1.length
            · obtain ⟨bC, oC, rfl, hcell⟩ := HB.out j hlt
              have hz := HH1.out (P.hand1.getD j 0) (by simp [hlt])
              have HS := hide (show keyH base P.hand1 1 (j + 1) = IntKind.u64.wrap (keyH base P.hand1 1 j + IntKind.u64.wrap (mixM (2000 + 8 * 1 + (j : Int)) * P.hand1.getD j 0)) from rfl)
              generalize P.hand1.getD j 0 = z at *
              obtain ⟨z0, z1⟩ := hz
              clear i0 i1
              go_wp2_with (go_at_call 98; refine (Mix_any _ _ (by omega) (by omega)).mono ?_; rintro e w' ⟨rfl, rfl⟩)
              go_round
              case rel => exact ⟨j + 1, by omega, by go_num, by rw [HS.out, show (2000 : Int) + 8 * 1 = 2008 from rfl]⟩
              case measure => simp [intOf]; omega
            · obtain rfl : j = P.hand1.length := by omega
              clear i0 i1
              go_wp2
              go_round
              case rel => exact ⟨2, by omega, by go_num, by rw [HE.out]⟩
              case measure => simp [intOf]
        · have HP2 : Hid (keyP P 2 = keyB P) := hide rfl
          rcases HT.out with ht | ht
          · have t1 : (P.turn == 1) = false := by simp [ht]
            have HK : Hid (keyM P = keyB P) := hide (by unfold keyM; rw [if_neg (by omega)])
            clear i0 i1 ht
            go_wp2
            go_ret
            exact ⟨by rw [HK.out]; rfl, HX.out⟩
          · have t1 : (P.turn == 1) = true := by simp [ht]
            have HK : Hid (keyM P = IntKind.u64.wrap (keyB P + mixM 3000)) := hide (by unfold keyM; rw [if_pos ht])
            clear i0 i1 ht
            go_wp2_with (go_at_call 98; refine (Mix_any _ _ (by omega) (by omega)).mono ?_; rintro e w' ⟨rfl, rfl⟩)
            go_ret
            exact ⟨by rw [HK.out]; rfl, HX.out⟩
end Go.Proofs.YtfkcigekbgkcmaaGreat
namespace Go.Proofs.YtfkcigekbgkcmaaGreat
open Go.ChangeShapes Go.WideShapes Go.ChangeAt Go.RowKit Go.Shelf
set_option linter.unusedVariables false
end Go.Proofs.YtfkcigekbgkcmaaGreat
