/- Walks: pieces, slices.Max. -/
import Derived.Test.YtcfiannlpkofpaaPiecesP
import Derived.Test.YtcfiannlpkofpaaGZob
import Derived.BigFrame
import Derived.WalkLawsBesides
namespace Go.Proofs.Ytcfiannlpkofpaa
open Go.ChangeShapes Go.WideShapes Go.ChangeAt Go.RowKit Go.Shelf
set_option linter.unusedVariables false
theorem posC_take (cs : List Int) (k : Nat) (h : k < cs.length) : posC (cs.take (k + 1)) = posC (cs.take k) + (if 0 < cs.getD k 0 then 1 else 0) := by
  unfold posC
  rw [List.take_succ_eq_append_getElem h, List.filter_append, List.length_append]
  have e : cs.getD k 0 = cs[k] := by simp [h]
  rw [e]
  by_cases hc : 0 < cs[k] <;> simp [hc]
theorem sum_take (l : List Int) (k : Nat) (h : k < l.length) : (l.take (k + 1)).sum = (l.take k).sum + l.getD k 0 := by
  rw [List.take_succ_eq_append_getElem h, List.sum_append]
  simp [h]
theorem sum_bd : ∀ l : List Int, (∀ c ∈ l, 0 ≤ c ∧ c ≤ 1000) → 0 ≤ l.sum ∧ l.sum ≤ 1000 * (l.length : Int)
  | [], _ => by simp
  | a :: l, h => by
    have h1 := h a (by simp)
    have h2 := sum_bd l (fun c hc => h c (by simp [hc]))
    rw [List.sum_cons, List.length_cons]
    omega
def handS (P : PosM) (k : Nat) : Int := if k = 0 then (posC P.cells : Int) else if k = 1 then (posC P.cells : Int) + P.hand0.sum else piecesM P
set_option maxHeartbeats 4000000 in
set_option maxRecDepth 100000 in
theorem allPieces_any (R : RulesM) (P : PosM) (u : Value) (w : World) (hP : PosAt w u P) (hV : Valid R) (hS : Sound R P) :
    Calls Try.prog 30 #[u] w fun e w' => e = .returned (.int .i64 (piecesM P)) ∧ Ext w w' := by
  have har := area_bd _ _ hV.side
  have ha := hS.area
  have hp6 := hV.pieces6
  have hl0 := hS.len0
  have hl1 := hS.len1
  have h64 : P.cells.length ≤ 64 := by omega
  have h60 : P.hand0.length ≤ 6 := by omega
  have h61 : P.hand1.length ≤ 6 := by omega
  have HH0 := hide hS.held0
  have HH1 := hide hS.held1
  obtain ⟨cA, cc, aA, ac, bA, bc, rfl, hcc, haa, hbb, -⟩ := hP
  obtain ⟨x1, k1⟩ := blks1 w #[.slice cA P.cells.length cc, .slice aA P.hand0.length ac, .slice bA P.hand1.length bc, .int .i64 P.turn, .int .i64 P.quiet] 36
  have HX := hide x1
  have HC := hide (hcc.ext x1)
  have HA := hide (haa.ext x1)
  have HB := hide (hbb.ext x1)
  clear har ha hp6 hl0 hl1 hS hV hcc haa hbb x1
  have i0 : ∀ w, (Instr.index 34 (.agg #[.slice aA P.hand0.length ac, .slice bA P.hand1.length bc]) (.int .i64 0)).run Try.prog w = .ok (.slice aA P.hand0.length ac) w := fun _ => by kernel_rfl
  have i1 : ∀ w, (Instr.index 34 (.agg #[.slice aA P.hand0.length ac, .slice bA P.hand1.length bc]) (.int .i64 1)).run Try.prog w = .ok (.slice bA P.hand1.length bc) w := fun _ => by kernel_rfl
  go_enter Try.func30, Try.ntmps30
  go_wp2
  generalize w.alloc (.cells #[.slice cA P.cells.length cc, .slice aA P.hand0.length ac, .slice bA P.hand1.length bc, .int .i64 P.turn, .int .i64 P.quiet] 36) = w2 at *
  generalize w.heap.size = B1 at *
  have f0 : w2.cell? ⟨B1, 0, none⟩ = some (.slice cA P.cells.length cc) := k1.cell 0
  have f1 : w2.cell? ⟨B1, 1, none⟩ = some (.slice aA P.hand0.length ac) := k1.cell 1
  have f2 : w2.cell? ⟨B1, 2, none⟩ = some (.slice bA P.hand1.length bc) := k1.cell 2
  clear k1
  go_wp2
  go_loop [3, 13] (fun o i => ∃ k : Nat, k ≤ P.cells.length ∧ i = .int .i64 k ∧ o = .int .i64 (posC (P.cells.take k) : Int)) (fun _ i => P.cells.length - (intOf i).toNat)
  case atStart => exact ⟨0, Nat.zero_le _, rfl, rfl⟩
  case round =>
    obtain ⟨k, hk, rfl, rfl⟩ := hrel
    by_cases hlt : k < P.cells.length
    · obtain ⟨bC, oC, rfl, hcell⟩ := HC.out k hlt
      have HS := hide (posC_take P.cells k hlt)
      have hle : posC (P.cells.take k) ≤ 64 := Nat.le_trans (posC_le _) (by rw [List.length_take]; omega)
      generalize posC (P.cells.take k) = s at *
      generalize P.cells.getD k 0 = z at *
      by_cases hz : 0 < z
      · have HN := hide (HS.out.trans (by rw [if_pos hz]))
        clear HS i0 i1
        go_wp2
        go_round
        case rel => exact ⟨k + 1, by omega, by go_num, by rw [HN.out]; go_num⟩
        case measure => simp [intOf]; omega
      · have HN := hide (HS.out.trans (by rw [if_neg hz, Nat.add_zero]))
        clear HS i0 i1
        go_wp2
        go_round
        case rel => exact ⟨k + 1, by omega, by go_num, by rw [HN.out]⟩
        case measure => simp [intOf]; omega
    · obtain rfl : k = P.cells.length := by omega
      have HE : Hid (posC (P.cells.take P.cells.length) = posC P.cells) := hide (by rw [List.take_length])
      have hle : posC P.cells ≤ 64 := Nat.le_trans (posC_le _) h64
      have hs0 := HH0.out
      have hs1 := HH1.out
      have b0 := sum_bd P.hand0 hs0
      have b1 := sum_bd P.hand1 hs1
      clear hs0 hs1
      go_wp2
      go_loop [3, 24] (fun o i => ∃ k : Nat, k ≤ 2 ∧ i = .int .i64 k ∧ o = .int .i64 (handS P k)) (fun _ i => 2 - (intOf i).toNat)
      case atStart => exact ⟨0, by omega, rfl, by first | rfl | (rw [HE.out]; rfl)⟩
      case round =>
        obtain ⟨k, hk, rfl, rfl⟩ := hrel
        rcases (by omega : k = 0 ∨ k = 1 ∨ k = 2) with rfl | rfl | rfl
        · have HE1 : Hid (handS P 1 = handS P 0 + P.hand0.sum) := hide rfl
          have hb : 0 ≤ handS P 0 ∧ handS P 0 ≤ 64 := by show 0 ≤ (posC P.cells : Int) ∧ (posC P.cells : Int) ≤ 64; omega
          generalize handS P 0 = base at *
          go_wp2
          go_loop [3, 29] (fun o i => ∃ j : Nat, j ≤ P.hand0.length ∧ i = .int .i64 j ∧ o = .int .i64 (base + (P.hand0.take j).sum)) (fun _ i => P.hand0.length - (intOf i).toNat)
          case atStart => exact ⟨0, Nat.zero_le _, rfl, by simp⟩
          case round =>
            obtain ⟨j, hj, rfl, rfl⟩ := hrel
            by_cases hlt : j < P.hand0.length
            · obtain ⟨bC, oC, rfl, hcell⟩ := HA.out j hlt
              have hz := HH0.out (P.hand0.getD j 0) (by simp [hlt])
              have HS := hide (sum_take P.hand0 j hlt)
              have hsb := sum_bd (P.hand0.take j) (fun c hc => HH0.out c (List.mem_of_mem_take hc))
              have hln : (P.hand0.take j).length ≤ 6 := by rw [List.length_take]; omega
              have hsb' : 0 ≤ (P.hand0.take j).sum ∧ (P.hand0.take j).sum ≤ 6000 := by omega
              clear hsb hln
              generalize (P.hand0.take j).sum = s at *
              generalize P.hand0.getD j 0 = z at *
              obtain ⟨z0, z1⟩ := hz
              obtain ⟨s0, s1⟩ := hsb'
              obtain ⟨hb0, hb1⟩ := hb
              clear i0 i1
              go_wp2
              go_round
              case rel => exact ⟨j + 1, by omega, by go_num, by rw [HS.out, Int.add_assoc]⟩
              case measure => simp [intOf]; omega
            · obtain rfl : j = P.hand0.length := by omega
              have HT : Hid ((P.hand0.take P.hand0.length).sum = P.hand0.sum) := hide (by rw [List.take_length])
              clear i0 i1
              go_wp2
              go_round
              case rel => exact ⟨1, by omega, by go_num, by rw [HE1.out, HT.out]⟩
              case measure => simp [intOf]
        · have HE1 : Hid (handS P 2 = handS P 1 + P.hand1.sum) := hide rfl
          have hb : 0 ≤ handS P 1 ∧ handS P 1 ≤ 6064 := by show 0 ≤ (posC P.cells : Int) + P.hand0.sum ∧ (posC P.cells : Int) + P.hand0.sum ≤ 6064; omega
          generalize handS P 1 = base at *
          go_wp2
          go_loop [3, 29] (fun o i => ∃ j : Nat, j ≤ P.hand1.length ∧ i = .int .i64 j ∧ o = .int .i64 (base + (P.hand1.take j).sum)) (fun _ i => P.hand1.length - (intOf i).toNat)
          case atStart => exact ⟨0, Nat.zero_le _, rfl, by simp⟩
          case round =>
            obtain ⟨j, hj, rfl, rfl⟩ := hrel
            by_cases hlt : j < P.hand1.length
            · obtain ⟨bC, oC, rfl, hcell⟩ := HB.out j hlt
              have hz := HH1.out (P.hand1.getD j 0) (by simp [hlt])
              have HS := hide (sum_take P.hand1 j hlt)
              have hsb := sum_bd (P.hand1.take j) (fun c hc => HH1.out c (List.mem_of_mem_take hc))
              have hln : (P.hand1.take j).length ≤ 6 := by rw [List.length_take]; omega
              have hsb' : 0 ≤ (P.hand1.take j).sum ∧ (P.hand1.take j).sum ≤ 6000 := by omega
              clear hsb hln
              generalize (P.hand1.take j).sum = s at *
              generalize P.hand1.getD j 0 = z at *
              obtain ⟨z0, z1⟩ := hz
              obtain ⟨s0, s1⟩ := hsb'
              obtain ⟨hb0, hb1⟩ := hb
              clear i0 i1
              go_wp2
              go_round
              case rel => exact ⟨j + 1, by omega, by go_num, by rw [HS.out, Int.add_assoc]⟩
              case measure => simp [intOf]; omega
            · obtain rfl : j = P.hand1.length := by omega
              have HT : Hid ((P.hand1.take P.hand1.length).sum = P.hand1.sum) := hide (by rw [List.take_length])
              clear i0 i1
              go_wp2
              go_round
              case rel => exact ⟨2, by omega, by go_num, by rw [HE1.out, HT.out]⟩
              case measure => simp [intOf]
        · have HP2 : Hid (handS P 2 = piecesM P) := hide rfl
          clear i0 i1
          go_wp2
          go_ret
          exact ⟨by rw [← HP2.out]; rfl, HX.out⟩
/-- What slices.Max answers. -/
def IsMax (zs : List Int) (m : Int) : Prop := m ∈ zs ∧ ∀ x ∈ zs, x ≤ m
def MaxPost (w : World) (zs : List Int) (e : Ending) (w' : World) : Prop := ∃ m, IsMax zs m ∧ e = .returned (.int .i64 m) ∧ Ext w w'
theorem run_max2 (W : World) (ats : Array TypeId) (ty : TypeId) (a b : Int) : (Builtin.max_ ats ty #[.int .i64 a, .int .i64 b]).run Try.prog W = .ok (.int .i64 (if a < b then b else a)) W := by
  simp [Builtin.max_, Builtin.max2]
set_option maxHeartbeats 2000000 in
set_option maxRecDepth 100000 in
theorem Max_any (A : Option Addr) (n c : Nat) (zs : List Int) (w : World) (hn : zs.length = n) (h1 : 1 ≤ n) (hm : n ≤ 1000000) (hz : IntsAt w A zs) :
    Calls Try.prog 31 #[.slice A n c] w (MaxPost w zs) := by
  subst hn
  obtain ⟨b0, o0, rfl, hc0⟩ := hz 0 (by omega)
  rw [Nat.add_zero] at hc0
  have HZ := hide hz
  clear hz
  have hmx := run_max2
  go_enter Try.func31, Try.ntmps31
  go_wp2
  go_loop [3, 4] (fun m i => ∃ (k : Nat) (x : Int), 1 ≤ k ∧ k ≤ zs.length ∧ i = .int .i64 k ∧ m = .int .i64 x ∧ Hid (IsMax (zs.take k) x)) (fun _ i => zs.length - (intOf i).toNat)
  case atStart => exact ⟨1, _, Nat.le_refl _, h1, rfl, rfl, hide (by
    have e : zs.take 1 = [zs.getD 0 0] := by
      rcases zs with _ | ⟨a, l⟩
      · simp at h1
      · simp
    rw [e]
    exact ⟨by simp, fun y hy => by simp at hy; omega⟩)⟩
  case round =>
    obtain ⟨k, x, hk1, hk, rfl, rfl, hx⟩ := hrel
    by_cases hlt : k < zs.length
    · obtain ⟨b1, o1, e1, hcell⟩ := HZ.out k hlt
      simp only [Option.some.injEq, Addr.mk.injEq, and_true] at e1
      obtain ⟨rfl, rfl⟩ := e1
      have HT : Hid (zs.take (k + 1) = zs.take k ++ [zs.getD k 0]) := hide (by rw [List.take_succ_eq_append_getElem hlt]; simp [hlt])
      generalize zs.getD k 0 = z at *
      by_cases hlz : x < z
      · have HN : Hid (IsMax (zs.take (k + 1)) z) := hide (by
          rw [HT.out]
          exact ⟨by simp, fun y hy => by
            rcases List.mem_append.1 hy with h | h
            · have := hx.out.2 y h; omega
            · simp at h; omega⟩)
        clear HT hx
        go_wp2
        go_round
        case rel => exact ⟨k + 1, z, by omega, by omega, by go_num, rfl, HN⟩
        case measure => simp [intOf]; omega
      · have HN : Hid (IsMax (zs.take (k + 1)) x) := hide (by
          rw [HT.out]
          exact ⟨by simp [hx.out.1], fun y hy => by
            rcases List.mem_append.1 hy with h | h
            · exact hx.out.2 y h
            · simp at h; omega⟩)
        clear HT hx
        go_wp2
        go_round
        case rel => exact ⟨k + 1, x, by omega, by omega, by go_num, rfl, HN⟩
        case measure => simp [intOf]; omega
    · obtain rfl : k = zs.length := by omega
      have HN : Hid (IsMax zs x) := hide (by have := hx.out; rw [List.take_length] at this; exact this)
      clear hx
      go_wp2
      go_ret
      exact ⟨x, HN.out, rfl, Below.refl _ _⟩
end Go.Proofs.Ytcfiannlpkofpaa
