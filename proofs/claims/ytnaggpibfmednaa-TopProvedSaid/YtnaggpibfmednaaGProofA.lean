/- Walks over the package proofnum: leaf, update. Walk: (*proofnum.prover).expand of a node that has been expanded. Walk: (*proofnum.prover).expand of a node that has not been expanded. Walks over the package proofnum: expand; prove. Walks over the package proofnum: state, Prove. Walk: proofnum.First. -/
import Derived.Test.YtnaggpibfmednaaGProofP
import Derived.Test.YtnaggpibfmednaaGPerft
import Derived.Test.YtnaggpibfmednaaRegionK
import Derived.Deep.QuietTactic
import Derived.BigQuiet
import Derived.BigFrame
import Derived.Test.YtnaggpibfmednaaPlaceCopy
namespace Go.Proofs.Ytnaggpibfmednaa
open Go.ChangeShapes Go.WideShapes Go.ChangeAt Go.RowKit Go.Shelf
set_option linter.unusedVariables false
set_option linter.unusedSimpArgs false
/-- The prover in memory. -/
def ProverAt (w0 W : World) (BX : Nat) (R : RulesM) (a : Int) : Prop := ∃ pA pc sA sc eA ec, Blk W BX 140 #[.string R.name, .int .i64 R.width, .int .i64 R.height, .slice pA R.pieces.length pc, .slice sA R.start.length sc, .bool R.falls, .bool R.keeps, .slice eA R.ends.length ec, .int .i64 R.blocked, .int .i64 R.quiet, .int .i64 R.rept, .int .i64 a] ∧ RulesAt w0 (.agg #[.string R.name, .int .i64 R.width, .int .i64 R.height, .slice pA R.pieces.length pc, .slice sA R.start.length sc, .bool R.falls, .bool R.keeps, .slice eA R.ends.length ec, .int .i64 R.blocked, .int .i64 R.quiet, .int .i64 R.rept]) R
def layP (c0 c1 c2 c3 c4 : Value) (a b : Int) (ex : Bool) (kv : Value) : Array Value := #[c0, c1, c2, c3, c4, .int .i64 a, .int .i64 b, .bool ex, kv]
def LeafPost (w : World) (R : RulesM) (a : Int) (P : PosM) (e : Ending) (w' : World) : Prop :=
  ∃ B c0 c1 c2 c3 c4, e = .returned (.pointer (some ⟨B, 0, none⟩)) ∧ w.heap.size ≤ B ∧ Blk w' B 104 (layP c0 c1 c2 c3 c4 (leafN R a P).a (leafN R a P).b false (.slice none 0 0)) ∧ PosI w' (.agg #[c0, c1, c2, c3, c4]) P ∧ Ext w w'
theorem run_minG (W : World) (ats : Array TypeId) (ty : TypeId) (a b : Int) : (Builtin.min_ ats ty #[.int .i64 a, .int .i64 b]).run Try.prog W = .ok (.int .i64 (min a b)) W := by
  have e : min a b = if b < a then b else a := by split <;> omega
  rw [e]
  simp [Builtin.min_, Builtin.min2]
theorem least_take {f : NT → Int} {ks : List NT} {k : Nat} {x : NT} (h : ks[k]? = some x) : leastOf ((ks.take (k + 1)).map f) = min (leastOf ((ks.take k).map f)) (f x) := by
  unfold leastOf
  rw [List.take_add_one, h, List.map_append, List.foldl_append]
  rfl
theorem sum_take {f : NT → Int} {ks : List NT} {k : Nat} {x : NT} (h : ks[k]? = some x) : sumOf ((ks.take (k + 1)).map f) = min (sumOf ((ks.take k).map f) + f x) never := by
  unfold sumOf
  rw [List.take_add_one, h, List.map_append, List.foldl_append]
  rfl
set_option maxHeartbeats 4000000 in
set_option maxRecDepth 100000 in
theorem leaf_any {w0 w : World} {BX : Nat} {R : RulesM} {a : Int} {P : PosM} {g0 g1 g2 d0 d1 d2 : Nat} (x0 : Ext w0 w) (hX : ProverAt w0 w BX R a) (hV : Valid R) (hP : PosI w (.agg #[.slice (some ⟨g0, 0, none⟩) P.cells.length d0, .slice (some ⟨g1, 0, none⟩) P.hand0.length d1, .slice (some ⟨g2, 0, none⟩) P.hand1.length d2, .int .i64 P.turn, .int .i64 P.quiet]) P) (hS : Sound R P) (ha : a = 0 ∨ a = 1) :
    Calls Try.prog 66 #[.pointer (some ⟨BX, 0, none⟩), .agg #[.slice (some ⟨g0, 0, none⟩) P.cells.length d0, .slice (some ⟨g1, 0, none⟩) P.hand0.length d1, .slice (some ⟨g2, 0, none⟩) P.hand1.length d2, .int .i64 P.turn, .int .i64 P.quiet]] w (LeafPost w R a P) := by
  obtain ⟨pA, pc, sA, sc, eA, ec, hB, hR⟩ := hX
  obtain ⟨x1, k1, k2⟩ := blks2 w #[.slice (some ⟨g0, 0, none⟩) P.cells.length d0, .slice (some ⟨g1, 0, none⟩) P.hand0.length d1, .slice (some ⟨g2, 0, none⟩) P.hand1.length d2, .int .i64 P.turn, .int .i64 P.quiet] 29 #[.slice (some ⟨g0, 0, none⟩) P.cells.length d0, .slice (some ⟨g1, 0, none⟩) P.hand0.length d1, .slice (some ⟨g2, 0, none⟩) P.hand1.length d2, .int .i64 P.turn, .int .i64 P.quiet, .int .i64 1, .int .i64 1, .bool false, .slice none 0 0] 104
  have HRS := hide (fun W (x : Ext w W) => Result_any R P _ _ W (hR.ext (ext_trans x0 x)) (hP.at_.ext x) hV hS)
  have hrb := result_bd R P hS.turn
  have KX := hide (hB.ext x1)
  have KP := hide k1
  have KN := hide k2
  have X1 := hide x1
  have HPI := hide hP
  have HLF := hide (show leafN R a P = if resultM R P = 0 then .node P 1 1 false [] else if resultM R P = 1 + a then .node P 0 never false [] else .node P never 0 false [] from rfl)
  clear hB hR hP hS hV x0 x1 k1 k2
  unfold LeafPost
  generalize leafN R a P = T at *
  generalize resultM R P = z at *
  go_enter Try.func66, Try.ntmps66
  go_upto_region 2 with fail
  generalize hw1 : (w.alloc (.cells #[.slice (some ⟨g0, 0, none⟩) P.cells.length d0, .slice (some ⟨g1, 0, none⟩) P.hand0.length d1, .slice (some ⟨g2, 0, none⟩) P.hand1.length d2, .int .i64 P.turn, .int .i64 P.quiet] 29)).alloc (.cells #[.slice (some ⟨g0, 0, none⟩) P.cells.length d0, .slice (some ⟨g1, 0, none⟩) P.hand0.length d1, .slice (some ⟨g2, 0, none⟩) P.hand1.length d2, .int .i64 P.turn, .int .i64 P.quiet, .int .i64 1, .int .i64 1, .bool false, .slice none 0 0] 104) = w1 at *
  clear hw1
  generalize hBN : w.heap.size + 1 = BN at *
  generalize hBP : w.heap.size = BP at *
  have HBN : Hid (w.heap.size ≤ BN) := hide (by omega)
  clear hBN hBP
  have keepK := hide (fun W (h : Ext w1 W) => (show (fun W => W.cell? ⟨BX, 0, none⟩ = some (.string R.name) ∧ W.cell? ⟨BX, 1, none⟩ = some (.int .i64 R.width) ∧ W.cell? ⟨BX, 2, none⟩ = some (.int .i64 R.height) ∧ W.cell? ⟨BX, 3, none⟩ = some (.slice pA R.pieces.length pc) ∧ W.cell? ⟨BX, 4, none⟩ = some (.slice sA R.start.length sc) ∧ W.cell? ⟨BX, 5, none⟩ = some (.bool R.falls) ∧ W.cell? ⟨BX, 6, none⟩ = some (.bool R.keeps) ∧ W.cell? ⟨BX, 7, none⟩ = some (.slice eA R.ends.length ec) ∧ W.cell? ⟨BX, 8, none⟩ = some (.int .i64 R.blocked) ∧ W.cell? ⟨BX, 9, none⟩ = some (.int .i64 R.quiet) ∧ W.cell? ⟨BX, 10, none⟩ = some (.int .i64 R.rept) ∧ W.cell? ⟨BX, 11, none⟩ = some (.int .i64 a) ∧ W.cell? ⟨BP, 0, none⟩ = some (.slice (some ⟨g0, 0, none⟩) P.cells.length d0) ∧ W.cell? ⟨BP, 1, none⟩ = some (.slice (some ⟨g1, 0, none⟩) P.hand0.length d1) ∧ W.cell? ⟨BP, 2, none⟩ = some (.slice (some ⟨g2, 0, none⟩) P.hand1.length d2) ∧ W.cell? ⟨BP, 3, none⟩ = some (.int .i64 P.turn) ∧ W.cell? ⟨BP, 4, none⟩ = some (.int .i64 P.quiet) ∧ Ext w1 W) W from ⟨(KX.out.ext h).cell 0, (KX.out.ext h).cell 1, (KX.out.ext h).cell 2, (KX.out.ext h).cell 3, (KX.out.ext h).cell 4, (KX.out.ext h).cell 5, (KX.out.ext h).cell 6, (KX.out.ext h).cell 7, (KX.out.ext h).cell 8, (KX.out.ext h).cell 9, (KX.out.ext h).cell 10, (KX.out.ext h).cell 11, (KP.out.ext h).cell 0, (KP.out.ext h).cell 1, (KP.out.ext h).cell 2, (KP.out.ext h).cell 3, (KP.out.ext h).cell 4, h⟩))
  have yy : Ext w1 w1.drew := Below.drew (Below.refl _ _)
  refine region_K (fun W => W.cell? ⟨BX, 0, none⟩ = some (.string R.name) ∧ W.cell? ⟨BX, 1, none⟩ = some (.int .i64 R.width) ∧ W.cell? ⟨BX, 2, none⟩ = some (.int .i64 R.height) ∧ W.cell? ⟨BX, 3, none⟩ = some (.slice pA R.pieces.length pc) ∧ W.cell? ⟨BX, 4, none⟩ = some (.slice sA R.start.length sc) ∧ W.cell? ⟨BX, 5, none⟩ = some (.bool R.falls) ∧ W.cell? ⟨BX, 6, none⟩ = some (.bool R.keeps) ∧ W.cell? ⟨BX, 7, none⟩ = some (.slice eA R.ends.length ec) ∧ W.cell? ⟨BX, 8, none⟩ = some (.int .i64 R.blocked) ∧ W.cell? ⟨BX, 9, none⟩ = some (.int .i64 R.quiet) ∧ W.cell? ⟨BX, 10, none⟩ = some (.int .i64 R.rept) ∧ W.cell? ⟨BX, 11, none⟩ = some (.int .i64 a) ∧ W.cell? ⟨BP, 0, none⟩ = some (.slice (some ⟨g0, 0, none⟩) P.cells.length d0) ∧ W.cell? ⟨BP, 1, none⟩ = some (.slice (some ⟨g1, 0, none⟩) P.hand0.length d1) ∧ W.cell? ⟨BP, 2, none⟩ = some (.slice (some ⟨g2, 0, none⟩) P.hand1.length d2) ∧ W.cell? ⟨BP, 3, none⟩ = some (.int .i64 P.turn) ∧ W.cell? ⟨BP, 4, none⟩ = some (.int .i64 P.quiet) ∧ Ext w1 W) (fun _ => True) [] (by kernel_rfl) ?_
  have hT0 := keepK.out _ yy
  refine anyK_take 0 (oi := ?oo1) ?ho1 (by kernel_rfl) (by kernel_rfl) (by kernel_rfl) (by kernel_rfl) ?hq1 ?hw1 hT0 (fun _ => trivial) (v := ?vv1) ?hy1 ?hk1
  case ho1 => (simp only [List.getElem?_toArray, List.getElem?_cons_succ, List.getElem?_cons_zero]; rfl)
  case hq1 => exact fun _ _ _ h => h
  case hw1 => rfl
  case hy1 =>
    intro W hW
    go_simp
    first | done | with_reducible rfl
  case hk1 =>
  try simp only [Act.put, List.setIfInBounds_toArray, List.set_cons_zero, List.set_cons_succ]
  refine anyK_take 1 (oi := ?oo2) ?ho2 (by kernel_rfl) (by kernel_rfl) (by kernel_rfl) (by kernel_rfl) ?hq2 ?hw2 hT0 (fun _ => trivial) (v := ?vv2) ?hy2 ?hk2
  case ho2 => (simp only [List.getElem?_toArray, List.getElem?_cons_succ, List.getElem?_cons_zero]; rfl)
  case hq2 => exact fun _ _ _ h => h
  case hw2 => rfl
  case hy2 =>
    intro W hW
    go_simp
    first | done | with_reducible rfl
  case hk2 =>
  try simp only [Act.put, List.setIfInBounds_toArray, List.set_cons_zero, List.set_cons_succ]
  refine anyK_take 2 (oi := ?oo3) ?ho3 (by kernel_rfl) (by kernel_rfl) (by kernel_rfl) (by kernel_rfl) ?hq3 ?hw3 hT0 (fun _ => trivial) (v := ?vv3) ?hy3 ?hk3
  case ho3 => (simp only [List.getElem?_toArray, List.getElem?_cons_succ, List.getElem?_cons_zero]; rfl)
  case hq3 => exact fun _ _ _ h => h
  case hw3 => rfl
  case hy3 =>
    intro W hW
    go_simp
    first | done | with_reducible rfl
  case hk3 =>
  try simp only [Act.put, List.setIfInBounds_toArray, List.set_cons_zero, List.set_cons_succ]
  refine anyK_take 3 (oi := ?oo4) ?ho4 (by kernel_rfl) (by kernel_rfl) (by kernel_rfl) (by kernel_rfl) ?hq4 ?hw4 hT0 (fun _ => trivial) (v := ?vv4) ?hy4 ?hk4
  case ho4 => (simp only [List.getElem?_toArray, List.getElem?_cons_succ, List.getElem?_cons_zero]; rfl)
  case hq4 => exact fun _ _ _ h => h
  case hw4 => rfl
  case hy4 =>
    intro W hW
    obtain ⟨z0, z1, z2, z3, z4, z5, z6, z7, z8, z9, z10, z11, z12, z13, z14, z15, z16, z17⟩ := hW
    go_simp
    first | done | with_reducible rfl
  case hk4 =>
  try simp only [Act.put, List.setIfInBounds_toArray, List.set_cons_zero, List.set_cons_succ]
  refine anyK_take 4 (oi := ?oo5) ?ho5 (by kernel_rfl) (by kernel_rfl) (by kernel_rfl) (by kernel_rfl) ?hq5 ?hw5 hT0 (fun _ => trivial) (v := ?vv5) ?hy5 ?hk5
  case ho5 => (simp only [List.getElem?_toArray, List.getElem?_cons_succ, List.getElem?_cons_zero]; rfl)
  case hq5 => exact fun _ _ _ h => h
  case hw5 => rfl
  case hy5 =>
    intro W hW
    obtain ⟨z0, z1, z2, z3, z4, z5, z6, z7, z8, z9, z10, z11, z12, z13, z14, z15, z16, z17⟩ := hW
    go_simp
    first | done | with_reducible rfl
  case hk5 =>
  try simp only [Act.put, List.setIfInBounds_toArray, List.set_cons_zero, List.set_cons_succ]
  refine anyK_on1 5 (by kernel_rfl) ?_
  refine anyK_one 5 (o := ?oo6) ?ho6 ?hk6
  case ho6 => (simp only [List.getElem?_toArray, List.getElem?_cons_succ, List.getElem?_cons_zero]; rfl)
  case hk6 =>
  intro K hK
  go_simp
  refine (HRS.out _ (ext_trans X1.out yy)).mono ?_
  rintro e wz ⟨rfl, xx⟩
  try go_wp2_with fail
  replace yy := ext_trans yy xx
  have hT1 := keepK.out _ yy
  refine hK.out _ _ hT1 (fun _ => trivial) ?_
  clear hK K
  try simp only [Act.put, List.setIfInBounds_toArray, List.set_cons_zero, List.set_cons_succ]
  refine anyK_done (by kernel_rfl) ?_ _
  clear keepK hT0 hT1
  have X2 := hide (ext_trans X1.out yy)
  have KX2 := hide (KX.out.ext yy)
  have KN2 := hide (KN.out.ext yy)
  clear yy xx X1 KX KN KP HRS
  have f := KN2.out.cell
  have fz := KN2.out.frozen
  have fx : wz.cell? ⟨BX, 11, none⟩ = some (.int .i64 a) := KX2.out.cell 11
  have hw9 : IntKind.i64.wrap (1 + a) = 1 + a := by rw [IntKind.wrap_i64]; omega
  by_cases hz : z = 0
  · subst hz
    obtain rfl : T = .node P 1 1 false [] := HLF.out
    clear fx HLF
    go_wp2
    go_ret
    exact ⟨BN, .slice (some ⟨g0, 0, none⟩) P.cells.length d0, .slice (some ⟨g1, 0, none⟩) P.hand0.length d1, .slice (some ⟨g2, 0, none⟩) P.hand1.length d2, .int .i64 P.turn, .int .i64 P.quiet, rfl, HBN.out, KN2.out, HPI.out.ext X2.out, X2.out⟩
  · have t0 : (z == 0) = false := by simpa using hz
    have HLF2 := hide (HLF.out.trans (if_neg hz))
    clear HLF
    by_cases hza : z = 1 + a
    · obtain rfl : T = .node P 0 never false [] := HLF2.out.trans (if_pos hza)
      have t1 : (z == 1 + a) = true := by simpa using hza
      clear hz hza HLF2
      go_wp2
      go_ret
      have K9 := blk_put (i := 6) (u := .int .i64 1099511627776) (blk_put (i := 5) (u := .int .i64 0) KN2.out rfl) (cs' := #[.slice (some ⟨g0, 0, none⟩) P.cells.length d0, .slice (some ⟨g1, 0, none⟩) P.hand0.length d1, .slice (some ⟨g2, 0, none⟩) P.hand1.length d2, .int .i64 P.turn, .int .i64 P.quiet, .int .i64 0, .int .i64 1099511627776, .bool false, .slice none 0 0]) rfl
      have X9 := ext_set (ext_set X2.out (p := ⟨BN, 5, none⟩) HBN.out (.int .i64 0)) (p := ⟨BN, 6, none⟩) HBN.out (.int .i64 1099511627776)
      exact ⟨BN, .slice (some ⟨g0, 0, none⟩) P.cells.length d0, .slice (some ⟨g1, 0, none⟩) P.hand0.length d1, .slice (some ⟨g2, 0, none⟩) P.hand1.length d2, .int .i64 P.turn, .int .i64 P.quiet, rfl, HBN.out, K9, HPI.out.ext X9, X9⟩
    · obtain rfl : T = .node P never 0 false [] := HLF2.out.trans (if_neg hza)
      have t1 : (z == 1 + a) = false := by simpa using hza
      clear hz hza HLF2
      go_wp2
      go_ret
      have K9 := blk_put (i := 6) (u := .int .i64 0) (blk_put (i := 5) (u := .int .i64 1099511627776) KN2.out rfl) (cs' := #[.slice (some ⟨g0, 0, none⟩) P.cells.length d0, .slice (some ⟨g1, 0, none⟩) P.hand0.length d1, .slice (some ⟨g2, 0, none⟩) P.hand1.length d2, .int .i64 P.turn, .int .i64 P.quiet, .int .i64 1099511627776, .int .i64 0, .bool false, .slice none 0 0]) rfl
      have X9 := ext_set (ext_set X2.out (p := ⟨BN, 5, none⟩) HBN.out (.int .i64 1099511627776)) (p := ⟨BN, 6, none⟩) HBN.out (.int .i64 0)
      exact ⟨BN, .slice (some ⟨g0, 0, none⟩) P.cells.length d0, .slice (some ⟨g1, 0, none⟩) P.hand0.length d1, .slice (some ⟨g2, 0, none⟩) P.hand1.length d2, .int .i64 P.turn, .int .i64 P.quiet, rfl, HBN.out, K9, HPI.out.ext X9, X9⟩

def UpdPost (W : World) (B : Nat) (cs : Array Value) (e : Ending) (w' : World) : Prop := e = .returned (.tuple #[]) ∧ Blk w' B 104 cs ∧ Gr B W w'
set_option maxHeartbeats 4000000 in
set_option maxRecDepth 100000 in
theorem update_own {W : World} {B BX : Nat} {P : PosM} {a x y : Int} {ex : Bool} {ks : List NT} {bs : List Nat} {A : Option Addr} {c : Nat} {c0 c1 c2 c4 : Value}
    (KB : Blk W B 104 #[c0, c1, c2, .int .i64 P.turn, c4, .int .i64 x, .int .i64 y, .bool ex, .slice A ks.length c]) (hX : W.cell? ⟨BX, 11, none⟩ = some (.int .i64 a))
    (hrow : CellsAt W A (bs.map ptrV)) (hl : bs.length = ks.length) (hl2 : ks.length ≤ 1000000)
    (HK : ∀ (i : Nat) (k : NT) (b : Nat), ks[i]? = some k → bs[i]? = some b → W.cell? ⟨b, 5, none⟩ = some (.int .i64 k.a) ∧ W.cell? ⟨b, 6, none⟩ = some (.int .i64 k.b) ∧ 0 ≤ k.a ∧ k.a ≤ never ∧ 0 ≤ k.b ∧ k.b ≤ never)
    (hown : P.turn = a) :
    Calls Try.prog 89 #[.pointer (some ⟨BX, 0, none⟩), .pointer (some ⟨B, 0, none⟩)] W (UpdPost W B #[c0, c1, c2, .int .i64 P.turn, c4, .int .i64 (updN a (.node P x y ex ks)).a, .int .i64 (updN a (.node P x y ex ks)).b, .bool ex, .slice A ks.length c]) := by
  have t0 : (P.turn == a) = true := by simpa using hown
  have HU := hide (show (updN a (.node P x y ex ks)).a = leastOf (ks.map (numA true)) ∧ (updN a (.node P x y ex ks)).b = sumOf (ks.map (numB true)) by
    unfold updN
    rw [show ownB' a (NT.node P x y ex ks).pos = true from decide_eq_true hown]
    exact ⟨rfl, rfl⟩)
  generalize (updN a (.node P x y ex ks)).a = xa at *
  generalize (updN a (.node P x y ex ks)).b = xb at *
  have KB0 := hide KB
  have f := KB.cell
  have HKK := hide HK
  have HRW := hide hrow
  clear KB HK hrow hown
  go_enter Try.func89, Try.ntmps89
  go_wp2_with (go_quiet (fail))
  clear f hX t0
  have f : W.cell? ⟨B, 8, none⟩ = some (.slice A ks.length c) := KB0.out.cell 8
  go_wp2
  go_loopw [5, 6, 26] (fun l s i wr => ∃ k q : Nat, k ≤ ks.length ∧ i = .int .i64 k ∧ wr = W.drewN q ∧ l = .int .i64 (leastOf ((ks.take k).map (numA true))) ∧ s = .int .i64 (sumOf ((ks.take k).map (numB true))) ∧ Hid (0 ≤ sumOf ((ks.take k).map (numB true)) ∧ sumOf ((ks.take k).map (numB true)) ≤ never)) (fun _ _ i _ => ks.length - (intOf i).toNat)
  case atStart => exact ⟨0, _, Nat.zero_le _, rfl, rfl, rfl, rfl, hide (by unfold sumOf never; simp)⟩
  case round =>
    obtain ⟨k, q, hk, rfl, rfl, rfl, rfl, hs⟩ := hrel
    by_cases hlt : k < ks.length
    · obtain ⟨kk, b, hkk, hb⟩ := kid_of hl hlt
      obtain ⟨n5, n6, m0, m1, m2, m3⟩ := HKK.out k kk b hkk hb
      obtain ⟨bR, oR, rfl, hcell⟩ := HRW.out k (ptrV b) (by rw [List.getElem?_map, hb]; rfl)
      have HT1 := hide (least_take (f := numA true) hkk)
      have HT2 := hide (sum_take (f := numB true) hkk)
      generalize leastOf ((ks.take k).map (numA true)) = l at *
      generalize sumOf ((ks.take k).map (numB true)) = s at *
      have e1 : numA true kk = kk.a := rfl
      have e2 : numB true kk = kk.b := rfl
      rw [e1] at HT1
      rw [e2] at HT2
      clear hkk hb e1 e2
      obtain ⟨s0, s1⟩ := hs.out
      have hne : (1099511627776 : Int) = never := rfl
      have hwa : IntKind.i64.wrap (s + kk.b) = s + kk.b := by rw [IntKind.wrap_i64]; unfold never at *; omega
      have hmin1 : ∀ W ats ty, (Builtin.min_ ats ty #[.int .i64 l, .int .i64 kk.a]).run Try.prog W = .ok (.int .i64 (min l kk.a)) W := fun W ats ty => run_minG W ats ty _ _
      have hmin2 : ∀ W ats ty, (Builtin.min_ ats ty #[.int .i64 (s + kk.b), .int .i64 1099511627776]).run Try.prog W = .ok (.int .i64 (min (s + kk.b) never)) W := fun W ats ty => run_minG W ats ty _ _
      have HNB := hide (show 0 ≤ min (s + kk.b) never ∧ min (s + kk.b) never ≤ never by unfold never at *; omega)
      have j0 : (0 : Int) ≤ (k : Int) := by omega
      have j1 : (k : Int) < (ks.length : Int) := by omega
      generalize min l kk.a = l2 at *
      generalize min (s + kk.b) never = s2 at *
      clear m0 m1 m2 m3 s0 s1 hne hs
      unfold ptrV at hcell
      generalize kk.a = ka at *
      generalize kk.b = kb at *
      go_wp2_with (go_quiet (fail))
      go_roundw
      case rel => exact ⟨k + 1, _, by omega, by go_num, rfl, by rw [HT1.out], by rw [HT2.out], by rw [HT2.out]; exact HNB⟩
      case measure => simp [intOf]; omega
    · obtain rfl : k = ks.length := by omega
      rw [List.take_length]
      obtain ⟨e1, e2⟩ := HU.out
      rw [← e1, ← e2]
      have fz := KB0.out.frozen
      have fc := KB0.out.cell
      clear hs f HU e1 e2
      go_wp2
      have K9 := blk_put (i := 6) (u := .int .i64 xb) (blk_put (i := 5) (u := .int .i64 xa) (KB0.out.drewN q) rfl) (cs' := #[c0, c1, c2, .int .i64 P.turn, c4, .int .i64 xa, .int .i64 xb, .bool ex, .slice A ks.length c]) rfl
      have G9 := ((Gr.of_ext (B := B) (ext_drewN (Below.refl _ W) q)).set 5 (.int .i64 xa)).set 6 (.int .i64 xb)
      go_end0
      exact ⟨rfl, K9, G9⟩

set_option maxHeartbeats 4000000 in
set_option maxRecDepth 100000 in
theorem update_other {W : World} {B BX : Nat} {P : PosM} {a x y : Int} {ex : Bool} {ks : List NT} {bs : List Nat} {A : Option Addr} {c : Nat} {c0 c1 c2 c4 : Value}
    (KB : Blk W B 104 #[c0, c1, c2, .int .i64 P.turn, c4, .int .i64 x, .int .i64 y, .bool ex, .slice A ks.length c]) (hX : W.cell? ⟨BX, 11, none⟩ = some (.int .i64 a))
    (hrow : CellsAt W A (bs.map ptrV)) (hl : bs.length = ks.length) (hl2 : ks.length ≤ 1000000)
    (HK : ∀ (i : Nat) (k : NT) (b : Nat), ks[i]? = some k → bs[i]? = some b → W.cell? ⟨b, 5, none⟩ = some (.int .i64 k.a) ∧ W.cell? ⟨b, 6, none⟩ = some (.int .i64 k.b) ∧ 0 ≤ k.a ∧ k.a ≤ never ∧ 0 ≤ k.b ∧ k.b ≤ never)
    (hown : P.turn ≠ a) :
    Calls Try.prog 89 #[.pointer (some ⟨BX, 0, none⟩), .pointer (some ⟨B, 0, none⟩)] W (UpdPost W B #[c0, c1, c2, .int .i64 P.turn, c4, .int .i64 (updN a (.node P x y ex ks)).a, .int .i64 (updN a (.node P x y ex ks)).b, .bool ex, .slice A ks.length c]) := by
  have t0 : (P.turn == a) = false := by simpa using hown
  have HU := hide (show (updN a (.node P x y ex ks)).a = sumOf (ks.map (numB false)) ∧ (updN a (.node P x y ex ks)).b = leastOf (ks.map (numA false)) by
    unfold updN
    rw [show ownB' a (NT.node P x y ex ks).pos = false from decide_eq_false hown]
    exact ⟨rfl, rfl⟩)
  generalize (updN a (.node P x y ex ks)).a = xa at *
  generalize (updN a (.node P x y ex ks)).b = xb at *
  have KB0 := hide KB
  have f := KB.cell
  have HKK := hide HK
  have HRW := hide hrow
  clear KB HK hrow hown
  go_enter Try.func89, Try.ntmps89
  go_wp2_with (go_quiet (fail))
  clear f hX t0
  have f : W.cell? ⟨B, 8, none⟩ = some (.slice A ks.length c) := KB0.out.cell 8
  go_wp2
  go_loopw [5, 6, 26] (fun l s i wr => ∃ k q : Nat, k ≤ ks.length ∧ i = .int .i64 k ∧ wr = W.drewN q ∧ l = .int .i64 (leastOf ((ks.take k).map (numA false))) ∧ s = .int .i64 (sumOf ((ks.take k).map (numB false))) ∧ Hid (0 ≤ sumOf ((ks.take k).map (numB false)) ∧ sumOf ((ks.take k).map (numB false)) ≤ never)) (fun _ _ i _ => ks.length - (intOf i).toNat)
  case atStart => exact ⟨0, _, Nat.zero_le _, rfl, rfl, rfl, rfl, hide (by unfold sumOf never; simp)⟩
  case round =>
    obtain ⟨k, q, hk, rfl, rfl, rfl, rfl, hs⟩ := hrel
    by_cases hlt : k < ks.length
    · obtain ⟨kk, b, hkk, hb⟩ := kid_of hl hlt
      obtain ⟨n5, n6, m0, m1, m2, m3⟩ := HKK.out k kk b hkk hb
      obtain ⟨bR, oR, rfl, hcell⟩ := HRW.out k (ptrV b) (by rw [List.getElem?_map, hb]; rfl)
      have HT1 := hide (least_take (f := numA false) hkk)
      have HT2 := hide (sum_take (f := numB false) hkk)
      generalize leastOf ((ks.take k).map (numA false)) = l at *
      generalize sumOf ((ks.take k).map (numB false)) = s at *
      have e1 : numA false kk = kk.b := rfl
      have e2 : numB false kk = kk.a := rfl
      rw [e1] at HT1
      rw [e2] at HT2
      clear hkk hb e1 e2
      obtain ⟨s0, s1⟩ := hs.out
      have hne : (1099511627776 : Int) = never := rfl
      have hwa : IntKind.i64.wrap (s + kk.a) = s + kk.a := by rw [IntKind.wrap_i64]; unfold never at *; omega
      have hmin1 : ∀ W ats ty, (Builtin.min_ ats ty #[.int .i64 l, .int .i64 kk.b]).run Try.prog W = .ok (.int .i64 (min l kk.b)) W := fun W ats ty => run_minG W ats ty _ _
      have hmin2 : ∀ W ats ty, (Builtin.min_ ats ty #[.int .i64 (s + kk.a), .int .i64 1099511627776]).run Try.prog W = .ok (.int .i64 (min (s + kk.a) never)) W := fun W ats ty => run_minG W ats ty _ _
      have HNB := hide (show 0 ≤ min (s + kk.a) never ∧ min (s + kk.a) never ≤ never by unfold never at *; omega)
      have j0 : (0 : Int) ≤ (k : Int) := by omega
      have j1 : (k : Int) < (ks.length : Int) := by omega
      generalize min l kk.b = l2 at *
      generalize min (s + kk.a) never = s2 at *
      clear m0 m1 m2 m3 s0 s1 hne hs
      unfold ptrV at hcell
      generalize kk.a = ka at *
      generalize kk.b = kb at *
      go_wp2_with (go_quiet (fail))
      go_roundw
      case rel => exact ⟨k + 1, _, by omega, by go_num, rfl, by rw [HT1.out], by rw [HT2.out], by rw [HT2.out]; exact HNB⟩
      case measure => simp [intOf]; omega
    · obtain rfl : k = ks.length := by omega
      rw [List.take_length]
      obtain ⟨e1, e2⟩ := HU.out
      rw [← e1, ← e2]
      have fz := KB0.out.frozen
      have fc := KB0.out.cell
      clear hs f HU e1 e2
      go_wp2
      have K9 := blk_put (i := 6) (u := .int .i64 xb) (blk_put (i := 5) (u := .int .i64 xa) (KB0.out.drewN q) rfl) (cs' := #[c0, c1, c2, .int .i64 P.turn, c4, .int .i64 xa, .int .i64 xb, .bool ex, .slice A ks.length c]) rfl
      have G9 := ((Gr.of_ext (B := B) (ext_drewN (Below.refl _ W) q)).set 5 (.int .i64 xa)).set 6 (.int .i64 xb)
      go_end0
      exact ⟨rfl, K9, G9⟩

theorem update_any {W : World} {B BX : Nat} {P : PosM} {a x y : Int} {ex : Bool} {ks : List NT} {bs : List Nat} {A : Option Addr} {c : Nat} {c0 c1 c2 c4 : Value}
    (KB : Blk W B 104 #[c0, c1, c2, .int .i64 P.turn, c4, .int .i64 x, .int .i64 y, .bool ex, .slice A ks.length c]) (hX : W.cell? ⟨BX, 11, none⟩ = some (.int .i64 a))
    (hrow : CellsAt W A (bs.map ptrV)) (hl : bs.length = ks.length) (hl2 : ks.length ≤ 1000000)
    (HK : ∀ (i : Nat) (k : NT) (b : Nat), ks[i]? = some k → bs[i]? = some b → W.cell? ⟨b, 5, none⟩ = some (.int .i64 k.a) ∧ W.cell? ⟨b, 6, none⟩ = some (.int .i64 k.b) ∧ 0 ≤ k.a ∧ k.a ≤ never ∧ 0 ≤ k.b ∧ k.b ≤ never) :
    Calls Try.prog 89 #[.pointer (some ⟨BX, 0, none⟩), .pointer (some ⟨B, 0, none⟩)] W (UpdPost W B #[c0, c1, c2, .int .i64 P.turn, c4, .int .i64 (updN a (.node P x y ex ks)).a, .int .i64 (updN a (.node P x y ex ks)).b, .bool ex, .slice A ks.length c]) := by
  by_cases h : P.turn = a
  · exact update_own KB hX hrow hl hl2 HK h
  · exact update_other KB hX hrow hl hl2 HK h
end Go.Proofs.Ytnaggpibfmednaa
namespace Go.Proofs.Ytnaggpibfmednaa
open Go.ChangeShapes Go.WideShapes Go.ChangeAt Go.RowKit Go.Shelf
set_option linter.unusedVariables false
set_option linter.unusedSimpArgs false
/-- A tree of the prover in memory. -/
abbrev TreeP (w0 : World) (n : Nat) (W : World) (B : Nat) (t : NT) (S : Nat → Prop) : Prop := TreeAt 104 98 layP w0 n W B t S
theorem ptp_ne : 98 ≠ 104 := by decide
theorem int_ne_tnp : 3 ≠ 104 := by decide
theorem TreeAt.nums {w0 : World} : ∀ {n : Nat} {W : World} {B : Nat} {t : NT} {S : Nat → Prop}, TreeP w0 n W B t S → W.cell? ⟨B, 5, none⟩ = some (.int .i64 t.a) ∧ W.cell? ⟨B, 6, none⟩ = some (.int .i64 t.b)
  | 0, _, _, _, _, h => h.elim
  | _ + 1, _, _, _, _, ⟨_, _, _, _, _, _, _, _, _, h1, _⟩ => ⟨h1.cell 5, h1.cell 6⟩
def ExpPost (w0 w : World) (B n : Nat) (S : Nat → Prop) (t : NT) (e : Ending) (w' : World) : Prop :=
  e = .returned (.tuple #[]) ∧ ∃ S', TreeP w0 (n + 1) w' B t S' ∧ (∀ b, S' b → S b ∨ w.heap.size ≤ b) ∧ MFr 104 S w w' ∧ Ext w0 w'
theorem PInv.kids {R : RulesM} {a : Int} {t : NT} (h : PInv R a t) : ∀ (i : Nat) (k : NT), t.kids[i]? = some k → PInv R a k := by
  cases h with
  | leaf P hS => rw [leafN_kids]; intro i k hi; simp at hi
  | exp P x y ks hS hr hl hp hk => rw [updN_kids]; exact hk
theorem PInv.klen {R : RulesM} {a : Int} {t : NT} (h : PInv R a t) (hV : Valid R) (hx : t.ex = true) : t.kids.length ≤ 1000000 := by
  cases h with
  | leaf P hS => rw [leafN_ex] at hx; exact absurd hx (by decide)
  | exp P x y ks hS hr hl hp hk =>
    rw [updN_kids]
    show ks.length ≤ 1000000
    rw [hl]
    exact listM_len hV hS
theorem num_any {own : Bool} {W : World} {b BO : Nat} {x y : Int} (h5 : W.cell? ⟨b, 5, none⟩ = some (.int .i64 x)) (h6 : W.cell? ⟨b, 6, none⟩ = some (.int .i64 y)) (hb : W.cell? ⟨BO, 0, none⟩ = some (.bool own)) :
    Calls Try.prog 88 #[.pointer (some ⟨b, 0, none⟩), .pointer (some ⟨BO, 0, none⟩)] W fun e w' => e = .returned (.int .i64 (if own then x else y)) ∧ W = w' := by
  cases own
  · go_enter Try.func88, Try.ntmps88
    go_wp2
    go_ret
    exact ⟨rfl, rfl⟩
  · go_enter Try.func88, Try.ntmps88
    go_wp2
    go_ret
    exact ⟨rfl, rfl⟩
theorem updN_node (a : Int) (P : PosM) (x y : Int) (ex : Bool) (ks : List NT) : updN a (.node P x y ex ks) = .node P (updN a (.node P x y ex ks)).a (updN a (.node P x y ex ks)).b ex ks := by
  unfold updN
  split <;> rfl
theorem ProverAt.ext {w0 w W : World} {BX : Nat} {R : RulesM} {a : Int} (h : ProverAt w0 w BX R a) (x : Ext w W) : ProverAt w0 W BX R a := by
  obtain ⟨pA, pc, sA, sc, eA, ec, h1, h2⟩ := h
  exact ⟨pA, pc, sA, sc, eA, ec, h1.ext x, h2⟩
theorem ProverAt.mfr {w0 w W : World} {BX : Nat} {R : RulesM} {a : Int} {S : Nat → Prop} (h : ProverAt w0 w BX R a) (f : MFr 104 S w W) : ProverAt w0 W BX R a := by
  obtain ⟨pA, pc, sA, sc, eA, ec, h1, h2⟩ := h
  exact ⟨pA, pc, sA, sc, eA, ec, f _ _ _ h1 (fun e => absurd e (by decide)), h2⟩
theorem ProverAt.cell11 {w0 w : World} {BX : Nat} {R : RulesM} {a : Int} (h : ProverAt w0 w BX R a) : w.cell? ⟨BX, 11, none⟩ = some (.int .i64 a) := by
  obtain ⟨pA, pc, sA, sc, eA, ec, h1, h2⟩ := h
  exact h1.cell 11
theorem kids_tree {w0 w w5 w9 : World} {B n c j : Nat} {a x y : Int} {P : PosM} {ks : List NT} {k' : NT} {bs : List Nat} {A : Option Addr} {S S' : Nat → Prop} {Ss : Nat → Nat → Prop} {c0 c1 c2 c3 c4 : Value} {cs' : Array Value}
    (K9 : Blk w9 B 104 #[c0, c1, c2, c3, c4, .int .i64 (updN a (.node P x y true (ks.set j k'))).a, .int .i64 (updN a (.node P x y true (ks.set j k'))).b, .bool true, .slice A (ks.set j k').length c]) (K5 : Blk w5 B 104 cs')
    (H2 : PosS w0 w5 (.agg #[c0, c1, c2, c3, c4]) P) (H3 : w5.ownsRow w0.heap.size 98 1 (.slice A ks.length c) ks.length (bs.map ptrV)) (H4 : ks = [] → A = none ∧ c = 0) (H5 : w0.heap.size ≤ B) (H6 : bs.length = ks.length) (hlt : j < ks.length)
    (hTS : ∀ (i : Nat) (k : NT) (b : Nat), (ks.set j k')[i]? = some k → bs[i]? = some b → TreeP w0 (n + 1) w5 b k (if i = j then S' else Ss i))
    (H8 : ∀ i, i < ks.length → ¬ Ss i B) (H9 : ∀ i j, i < ks.length → j < ks.length → i ≠ j → ∀ b, Ss i b → ¬ Ss j b) (H10 : ∀ b, S b ↔ b = B ∨ ∃ i, i < ks.length ∧ Ss i b)
    (hS' : ∀ b, S' b → Ss j b ∨ w.heap.size ≤ b) (hSlt : ∀ i, i < ks.length → ∀ b, Ss i b → b < w.heap.size) (hBw : B < w.heap.size) (hM : MFr 104 (Ss j) w w5) (G9 : Gr B w5 w9) (XF : Ext w0 w9) :
    ∃ S'', TreeP w0 (n + 1 + 1) w9 B (updN a (.node P x y true (ks.set j k'))) S'' ∧ (∀ b, S'' b → S b ∨ w.heap.size ≤ b) ∧ MFr 104 S w w9 ∧ Ext w0 w9 := by
  have hl : (ks.set j k').length = ks.length := List.length_set
  have hne : ks.set j k' = [] → ks = [] := fun h => by
    rw [h] at hl
    exact List.eq_nil_of_length_eq_zero hl.symm
  have f9 : MFr 104 (fun b => b = B) w5 w9 := MFr.of_gr G9 K5 rfl
  have hnB : ∀ i, i < ks.length → ¬ (if i = j then S' else Ss i) B := fun i hi h => by
    by_cases e : i = j
    · rw [if_pos e] at h
      rcases hS' B h with h | h
      · exact H8 j hlt h
      · omega
    · rw [if_neg e] at h
      exact H8 i hi h
  refine ⟨fun b => b = B ∨ ∃ i, i < ks.length ∧ (if i = j then S' else Ss i) b, ?_, ?_, (hM.mono (fun b h => (H10 b).2 (.inr ⟨j, hlt, h⟩))).trans (f9.mono (fun b h => (H10 b).2 (.inl h))), XF⟩
  · rw [updN_node]
    generalize (updN a (.node P x y true (ks.set j k'))).a = xa at *
    generalize (updN a (.node P x y true (ks.set j k'))).b = xb at *
    generalize ks.set j k' = ks' at *
    refine ⟨c0, c1, c2, c3, c4, A, c, bs, fun i => if i = j then S' else Ss i, K9, H2.mfr int_ne_tnp f9, ?_, fun h => H4 (hne h), H5, H6.trans hl.symm, fun i k b h1 h2 => ?_, fun i hi => hnB i (by rw [← hl]; exact hi), fun i i' hi hi' hii b h1 h2 => ?_, fun b => by rw [show (NT.node P xa xb true ks').kids.length = ks.length from hl]⟩
    · have o : w5.ownsRow w0.heap.size 98 1 (.slice A ks'.length c) ks'.length (bs.map ptrV) := by rw [hl]; exact H3
      exact own_tfr o (by decide) (f9.tfr (List.mem_singleton.2 rfl))
    · have hil : i < ks.length := by rw [← hl]; exact (List.getElem?_eq_some_iff.1 h1).1
      exact (hTS i k b h1 h2).mfr ptp_ne int_ne_tnp f9 (fun q hq e => hnB i hil (by rw [← show q = B from e]; exact hq))
    · replace hi : i < ks.length := by rw [← hl]; exact hi
      replace hi' : i' < ks.length := by rw [← hl]; exact hi'
      replace h1 : (if i = j then S' else Ss i) b := h1
      replace h2 : (if i' = j then S' else Ss i') b := h2
      by_cases e : i = j
      · rw [if_pos e] at h1
        have e' : i' ≠ j := fun h => hii (by rw [e, h])
        rw [if_neg e'] at h2
        rcases hS' b h1 with h | h
        · exact H9 j i' hlt hi' (fun h => e' h.symm) b h h2
        · have := hSlt i' hi' b h2; omega
      · rw [if_neg e] at h1
        by_cases e' : i' = j
        · rw [if_pos e'] at h2
          rcases hS' b h2 with h | h
          · exact H9 i j hi hlt e b h1 h
          · have := hSlt i hi b h1; omega
        · rw [if_neg e'] at h2
          exact H9 i i' hi hi' hii b h1 h2
  · rintro b (rfl | ⟨i, hi, h⟩)
    · exact .inl ((H10 b).2 (.inl rfl))
    · by_cases e : i = j
      · rw [if_pos e] at h
        exact (hS' b h).imp (fun h => (H10 b).2 (.inr ⟨j, hlt, h⟩)) id
      · rw [if_neg e] at h
        exact .inl ((H10 b).2 (.inr ⟨i, hi, h⟩))
set_option maxHeartbeats 8000000 in
set_option maxRecDepth 100000 in
theorem expand_two {w0 w : World} {BX B n m : Nat} {R : RulesM} {a : Int} {P : PosM} {x y : Int} {ks : List NT} {S : Nat → Prop} (hV : Valid R) (ha : a = 0 ∨ a = 1) (x0 : Ext w0 w) (hX : ProverAt w0 w BX R a) (hT : TreeP w0 (n + 1) w B (.node P x y true ks) S)
    (hI : PInv R a (.node P x y true ks)) (hO : OpenN (.node P x y true ks)) (hs : (NT.node P x y true ks).sz + 1000000 < never)
    (ih : ∀ (W : World) (b : Nat) (k : NT) (T : Nat → Prop), Ext w0 W → ProverAt w0 W BX R a → TreeP w0 n W b k T → PInv R a k → OpenN k → k.sz + 1000000 < never →
      Calls Try.prog 67 #[.pointer (some ⟨BX, 0, none⟩), .pointer (some ⟨b, 0, none⟩)] W (ExpPost w0 W b n T (expandN R a m k)) ∧ PInv R a (expandN R a m k) ∧ (expandN R a m k).sz ≤ k.sz + 1000000) :
    Calls Try.prog 67 #[.pointer (some ⟨BX, 0, none⟩), .pointer (some ⟨B, 0, none⟩)] w (ExpPost w0 w B (n + 1) S (expandN R a (m + 1) (.node P x y true ks))) := by
  obtain ⟨hlt, hg, hkp, hko, hks⟩ := kid_open hI rfl hO (by omega)
  have hall := hI.kids
  have hsz : ∀ (i : Nat) (k : NT), ks[i]? = some k → k.sz + 1000000 < never := fun i k hi => by
    have := kid_sz (t := .node P x y true ks) (i := i) (k := k) hi
    omega
  obtain ⟨j, hj⟩ : ∃ j, kidI a (.node P x y true ks) = j := ⟨_, rfl⟩
  have hjb : j = bestI (fun i => numA (ownB' a P) (ks.getD i NT.nil)) ks.length := by rw [← hj]; rfl
  have HE := hide (show expandN R a (m + 1) (.node P x y true ks) = updN a (.node P x y true (ks.set j (expandN R a m (ks.getD j NT.nil)))) by rw [← hj]; rfl)
  rw [hj] at hlt hg hkp hko hks
  replace hlt : j < ks.length := hlt
  replace hg : ks[j]? = some (ks.getD j NT.nil) := hg
  replace hkp : PInv R a (ks.getD j NT.nil) := hkp
  replace hko : OpenN (ks.getD j NT.nil) := hko
  obtain ⟨c0, c1, c2, c3, c4, A, c, bs, Ss, h1, h2, h3, h4, h5, h6, h7, h8, h9, h10⟩ := hT
  replace h1 : Blk w B 104 (layP c0 c1 c2 c3 c4 x y true (.slice A ks.length c)) := h1
  replace h2 : PosS w0 w (.agg #[c0, c1, c2, c3, c4]) P := h2
  replace h3 : w.ownsRow w0.heap.size 98 1 (.slice A ks.length c) ks.length (bs.map ptrV) := h3
  replace h6 : bs.length = ks.length := h6
  have hP := h2.at_ x0
  obtain ⟨cA, cc, aA, ac, bA, bc, e, -⟩ := hP
  simp only [Value.agg.injEq, Array.mk.injEq, List.cons.injEq, and_true] at e
  obtain ⟨rfl, rfl, rfl, rfl, rfl⟩ := e
  have hl2 : ks.length ≤ 1000000 := by
    have := hI.klen hV rfl
    exact this
  obtain ⟨bj, hbj⟩ : ∃ b, bs[j]? = some b := ⟨bs[j]'(by omega), List.getElem?_eq_getElem _⟩
  obtain ⟨own, hown⟩ : ∃ own, ownB' a P = own := ⟨_, rfl⟩
  have t0 : (P.turn == a) = own := by rw [← hown]; rfl
  rw [hown] at hjb
  have HJB := hide hjb
  have HIH := hide (fun (W : World) (T : Nat → Prop) (x : Ext w0 W) (hX : ProverAt w0 W BX R a) (hT : TreeP w0 n W bj (ks.getD j NT.nil) T) => ih W bj _ T x hX hT hkp hko (hsz j _ hg))
  obtain ⟨ip, is⟩ : PInv R a (expandN R a m (ks.getD j NT.nil)) ∧ (expandN R a m (ks.getD j NT.nil)).sz ≤ (ks.getD j NT.nil).sz + 1000000 := (ih w bj (ks.getD j NT.nil) (Ss j) x0 hX (h7 j _ bj hg hbj) hkp hko (hsz j _ hg)).2
  have HROW := hide (own_cells h3).1
  have HCELL := hide (fun (i : Nat) (k : NT) (b : Nat) (hi : ks[i]? = some k) (hb : bs[i]? = some b) => (h7 i k b hi hb).nums)
  have H1 := hide h1
  have H2 := hide h2
  have H3 := hide h3
  have H4 := hide h4
  have H5 := hide h5
  have H6 := hide h6
  have H7 := hide h7
  have H8 := hide h8
  have H9 := hide h9
  have H10 := hide h10
  have HX := hide hX
  have X0 := hide x0
  have HALL := hide hall
  have HSZ := hide hsz
  have HG := hide hg
  have HBJ := hide hbj
  have HIP := hide ip
  have HIS := hide is
  have HLT := hide hlt
  have HL2 := hide hl2
  obtain ⟨pA, pc, sA, sc, eA, ec, hB, -⟩ := hX
  have hx11 : w.cell? ⟨BX, 11, none⟩ = some (.int .i64 a) := hB.cell 11
  have f := h1.cell
  obtain ⟨k0, b0, hk0, hb0⟩ := kid_of h6 (show 0 < ks.length by omega)
  obtain ⟨gA, oA, rfl, hcell0⟩ := HROW.out 0 (ptrV b0) (by rw [List.getElem?_map, hb0]; rfl)
  have HB0 := hide hb0
  have j0 : (0 : Int) < (ks.length : Int) := by omega
  have j0' : 0 < ks.length := by omega
  unfold ptrV at hcell0
  simp only [Nat.add_zero] at hcell0
  clear h1 h2 h3 h4 h5 h6 h7 h8 h9 h10 x0 hB hall hsz hg hbj ip is hkp hko hks hI hO hs ih hjb hj hk0 hb0 hlt hl2 ha hV hown
  unfold layP at f
  go_enter Try.func67, Try.ntmps67
  go_upto_region 7 with fail
  have keepK := hide (fun W (h : Ext w W) => (show (fun W => W.cell? ⟨B, 3, none⟩ = some (.int .i64 P.turn) ∧ W.cell? ⟨BX, 11, none⟩ = some (.int .i64 a) ∧ Ext w W) W from ⟨(H1.out.ext h).cell 3, h.cell hx11, h⟩))
  have yy : Ext w w.drew := Below.drew (Below.refl _ _)
  refine region_K (fun W => W.cell? ⟨B, 3, none⟩ = some (.int .i64 P.turn) ∧ W.cell? ⟨BX, 11, none⟩ = some (.int .i64 a) ∧ Ext w W) (fun _ => True) [] (by kernel_rfl) ?_
  have hT0 := keepK.out _ yy
  refine anyK_take 0 (oi := ?oo1) ?ho1 (by kernel_rfl) (by kernel_rfl) (by kernel_rfl) (by kernel_rfl) ?hq1 ?hw1 hT0 (fun _ => trivial) (v := ?vv1) ?hy1 ?hk1
  case ho1 => (simp only [List.getElem?_toArray, List.getElem?_cons_succ, List.getElem?_cons_zero]; rfl)
  case hq1 => exact fun _ _ _ h => h
  case hw1 => rfl
  case hy1 =>
    intro W hW
    go_simp
    first | done | with_reducible rfl
  case hk1 =>
  try simp only [Act.put, List.setIfInBounds_toArray, List.set_cons_zero, List.set_cons_succ]
  refine anyK_take 1 (oi := ?oo2) ?ho2 (by kernel_rfl) (by kernel_rfl) (by kernel_rfl) (by kernel_rfl) ?hq2 ?hw2 hT0 (fun _ => trivial) (v := ?vv2) ?hy2 ?hk2
  case ho2 => (simp only [List.getElem?_toArray, List.getElem?_cons_succ, List.getElem?_cons_zero]; rfl)
  case hq2 => exact fun _ _ _ h => h
  case hw2 => rfl
  case hy2 =>
    intro W hW
    go_simp
    first | done | with_reducible rfl
  case hk2 =>
  try simp only [Act.put, List.setIfInBounds_toArray, List.set_cons_zero, List.set_cons_succ]
  refine anyK_take 2 (oi := ?oo3) ?ho3 (by kernel_rfl) (by kernel_rfl) (by kernel_rfl) (by kernel_rfl) ?hq3 ?hw3 hT0 (fun _ => trivial) (v := ?vv3) ?hy3 ?hk3
  case ho3 => (simp only [List.getElem?_toArray, List.getElem?_cons_succ, List.getElem?_cons_zero]; rfl)
  case hq3 => exact fun _ _ _ h => h
  case hw3 => rfl
  case hy3 =>
    intro W hW
    go_simp
    first | done | with_reducible rfl
  case hk3 =>
  try simp only [Act.put, List.setIfInBounds_toArray, List.set_cons_zero, List.set_cons_succ]
  refine anyK_take 3 (oi := ?oo4) ?ho4 (by kernel_rfl) (by kernel_rfl) (by kernel_rfl) (by kernel_rfl) ?hq4 ?hw4 hT0 (fun _ => trivial) (v := ?vv4) ?hy4 ?hk4
  case ho4 => (simp only [List.getElem?_toArray, List.getElem?_cons_succ, List.getElem?_cons_zero]; rfl)
  case hq4 => exact fun _ _ _ h => h
  case hw4 => rfl
  case hy4 =>
    intro W hW
    go_simp
    first | done | with_reducible rfl
  case hk4 =>
  try simp only [Act.put, List.setIfInBounds_toArray, List.set_cons_zero, List.set_cons_succ]
  refine anyK_take 4 (oi := ?oo5) ?ho5 (by kernel_rfl) (by kernel_rfl) (by kernel_rfl) (by kernel_rfl) ?hq5 ?hw5 hT0 (fun _ => trivial) (v := ?vv5) ?hy5 ?hk5
  case ho5 => (simp only [List.getElem?_toArray, List.getElem?_cons_succ, List.getElem?_cons_zero]; rfl)
  case hq5 => exact fun _ _ _ h => h
  case hw5 => rfl
  case hy5 =>
    intro W hW
    obtain ⟨z0, z1, z2⟩ := hW
    go_simp
    first | done | with_reducible rfl
  case hk5 =>
  try simp only [Act.put, List.setIfInBounds_toArray, List.set_cons_zero, List.set_cons_succ]
  refine anyK_take 5 (oi := ?oo6) ?ho6 (by kernel_rfl) (by kernel_rfl) (by kernel_rfl) (by kernel_rfl) ?hq6 ?hw6 hT0 (fun _ => trivial) (v := ?vv6) ?hy6 ?hk6
  case ho6 => (simp only [List.getElem?_toArray, List.getElem?_cons_succ, List.getElem?_cons_zero]; rfl)
  case hq6 => exact fun _ _ _ h => h
  case hw6 => rfl
  case hy6 =>
    intro W hW
    go_simp
    first | done | with_reducible rfl
  case hk6 =>
  try simp only [Act.put, List.setIfInBounds_toArray, List.set_cons_zero, List.set_cons_succ]
  refine anyK_take 6 (oi := ?oo7) ?ho7 (by kernel_rfl) (by kernel_rfl) (by kernel_rfl) (by kernel_rfl) ?hq7 ?hw7 hT0 (fun _ => trivial) (v := ?vv7) ?hy7 ?hk7
  case ho7 => (simp only [List.getElem?_toArray, List.getElem?_cons_succ, List.getElem?_cons_zero]; rfl)
  case hq7 => exact fun _ _ _ h => h
  case hw7 => rfl
  case hy7 =>
    intro W hW
    go_simp
    first | done | with_reducible rfl
  case hk7 =>
  try simp only [Act.put, List.setIfInBounds_toArray, List.set_cons_zero, List.set_cons_succ]
  refine anyK_take 7 (oi := ?oo8) ?ho8 (by kernel_rfl) (by kernel_rfl) (by kernel_rfl) (by kernel_rfl) ?hq8 ?hw8 hT0 (fun _ => trivial) (v := ?vv8) ?hy8 ?hk8
  case ho8 => (simp only [List.getElem?_toArray, List.getElem?_cons_succ, List.getElem?_cons_zero]; rfl)
  case hq8 => exact fun _ _ _ h => h
  case hw8 => rfl
  case hy8 =>
    intro W hW
    go_simp
    first | done | with_reducible rfl
  case hk8 =>
  try simp only [Act.put, List.setIfInBounds_toArray, List.set_cons_zero, List.set_cons_succ]
  refine anyK_take 8 (oi := ?oo9) ?ho9 (by kernel_rfl) (by kernel_rfl) (by kernel_rfl) (by kernel_rfl) ?hq9 ?hw9 hT0 (fun _ => trivial) (v := ?vv9) ?hy9 ?hk9
  case ho9 => (simp only [List.getElem?_toArray, List.getElem?_cons_succ, List.getElem?_cons_zero]; rfl)
  case hq9 => exact fun _ _ _ h => h
  case hw9 => rfl
  case hy9 =>
    intro W hW
    obtain ⟨z0, z1, z2⟩ := hW
    go_simp
    first | done | with_reducible rfl
  case hk9 =>
  try simp only [Act.put, List.setIfInBounds_toArray, List.set_cons_zero, List.set_cons_succ]
  refine anyK_take 9 (oi := ?oo10) ?ho10 (by kernel_rfl) (by kernel_rfl) (by kernel_rfl) (by kernel_rfl) ?hq10 ?hw10 hT0 (fun _ => trivial) (v := ?vv10) ?hy10 ?hk10
  case ho10 => (simp only [List.getElem?_toArray, List.getElem?_cons_succ, List.getElem?_cons_zero]; rfl)
  case hq10 => exact fun _ _ _ h => h
  case hw10 => rfl
  case hy10 =>
    intro W hW
    go_simp
    first | done | with_reducible rfl
  case hk10 =>
  try simp only [Act.put, List.setIfInBounds_toArray, List.set_cons_zero, List.set_cons_succ]
  refine anyK_on1 10 (by kernel_rfl) ?_
  refine anyK_one 10 (o := ?oo11) ?ho11 ?hk11
  case ho11 => (simp only [List.getElem?_toArray, List.getElem?_cons_succ, List.getElem?_cons_zero]; rfl)
  case hk11 =>
  intro K hK
  go_simp
  replace yy : Ext w (w.alloc (.cells #[.bool false] 4)).drew := Below.drew (ext_alloc (Below.refl _ _) _)
  have hT1 := keepK.out _ yy
  refine hK.out _ _ hT1 (fun _ => trivial) ?_
  clear hK K
  try simp only [Act.put, List.setIfInBounds_toArray, List.set_cons_zero, List.set_cons_succ]
  refine anyK_on1 11 (by kernel_rfl) ?_
  refine anyK_one 11 (o := ?oo12) ?ho12 ?hk12
  case ho12 => (simp only [List.getElem?_toArray, List.getElem?_cons_succ, List.getElem?_cons_zero]; rfl)
  case hk12 =>
  intro K hK
  go_simp
  replace yy : Ext w (w.alloc (.cells #[.bool own] 4)).drew := Below.drew (ext_alloc (Below.refl _ _) _)
  have hT2 := keepK.out _ yy
  refine hK.out _ _ hT2 (fun _ => trivial) ?_
  clear hK K
  try simp only [Act.put, List.setIfInBounds_toArray, List.set_cons_zero, List.set_cons_succ]
  refine anyK_done (by kernel_rfl) ?_ _
  clear keepK hT0 hT1 hT2
  have X2 := hide yy
  have KO2 := hide (Blk.drew (Blk.new w 4 #[.bool own]))
  clear yy f hx11 t0
  have f8 : (w.alloc (.cells #[.bool own] 4)).drew.cell? ⟨B, 8, none⟩ = some (.slice (some ⟨gA, oA, none⟩) ks.length c) := (H1.out.ext X2.out).cell 8
  replace hcell0 := X2.out.cell hcell0
  generalize hw2 : (w.alloc (.cells #[.bool own] 4)).drew = w2 at *
  clear hw2
  generalize hBO : w.heap.size = BO at *
  have HBO := hide hBO
  clear hBO
  go_wp2
  clear hcell0
  go_loopw [8, 77] (fun best i wr => ∃ k q : Nat, k ≤ ks.length ∧ i = .int .i64 k ∧ wr = w2.drewN q ∧ Hid (∃ b : Nat, bs[bestI (fun i => numA own (ks.getD i NT.nil)) k]? = some b ∧ best = .pointer (some ⟨b, 0, none⟩))) (fun _ i _ => ks.length - (intOf i).toNat)
  case atStart => exact ⟨0, 0, Nat.zero_le _, rfl, rfl, hide ⟨b0, HB0.out, rfl⟩⟩
  case round =>
    obtain ⟨k, q, hk, rfl, rfl, hbest⟩ := hrel
    obtain ⟨bb, hbb, rfl⟩ := hbest.out
    have hl3 := HL2.out
    clear hbest
    by_cases hlt : k < ks.length
    · obtain ⟨kk, b, hkk, hb⟩ := kid_of H6.out hlt
      have hjl : bestI (fun i => numA own (ks.getD i NT.nil)) k < ks.length := by have := (List.getElem?_eq_some_iff.1 hbb).1; rw [H6.out] at this; exact this
      have hgb := getD_get hjl
      obtain ⟨n5, n6⟩ := HCELL.out k kk b hkk hb
      obtain ⟨m5, m6⟩ := HCELL.out _ _ bb hgb hbb
      obtain ⟨bR, oR, e, hcell⟩ := HROW.out k (ptrV b) (by rw [List.getElem?_map, hb]; rfl)
      simp only [Option.some.injEq, Addr.mk.injEq, and_true] at e
      obtain ⟨rfl, rfl⟩ := e
      replace hcell := X2.out.cell hcell
      unfold ptrV at hcell
      have kO : w2.cell? ⟨BO, 0, none⟩ = some (.bool own) := KO2.out.cell 0
      have HNK := hide (fun q => num_any (own := own) (W := w2.drewN q) (b := b) (BO := BO) (X2.out.cell n5) (X2.out.cell n6) kO)
      have HNB := hide (fun q => num_any (own := own) (W := w2.drewN q) (b := bb) (BO := BO) (X2.out.cell m5) (X2.out.cell m6) kO)
      have hkg : ks.getD k NT.nil = kk := by rw [getD_get hlt] at hkk; exact Option.some.inj hkk
      have HST : Hid (bestI (fun i => numA own (ks.getD i NT.nil)) (k + 1) = if (if own then kk.a else kk.b) < (if own then (ks.getD (bestI (fun i => numA own (ks.getD i NT.nil)) k) NT.nil).a else (ks.getD (bestI (fun i => numA own (ks.getD i NT.nil)) k) NT.nil).b) then k else bestI (fun i => numA own (ks.getD i NT.nil)) k) := hide (by
        rw [← hkg]; rfl)
      have HBB := hide hbb
      have HB := hide hb
      generalize (if own then kk.a else kk.b) = va at *
      generalize (if own then (ks.getD (bestI (fun i => numA own (ks.getD i NT.nil)) k) NT.nil).a else (ks.getD (bestI (fun i => numA own (ks.getD i NT.nil)) k) NT.nil).b) = vb at *
      have i0 : (0 : Int) ≤ (k : Int) := by omega
      have i1 : (k : Int) < (ks.length : Int) := by omega
      clear hkk hb hjl hgb n5 n6 m5 m6 kO hkg hbb
      by_cases hc : va < vb
      · have t1 : decide (va < vb) = true := by simpa using hc
        have HS2 := hide (HST.out.trans (if_pos hc))
        clear hc HST
        go_wp2_with fail
        refine (HNK.out _).mono ?_
        rintro e w' ⟨rfl, rfl⟩
        go_wp2_with fail
        refine (HNB.out _).mono ?_
        rintro e w' ⟨rfl, rfl⟩
        clear HNK HNB hcell
        go_wp2
        go_roundw
        case rel => exact ⟨k + 1, q, by omega, by go_num, rfl, hide ⟨b, by rw [HS2.out]; exact HB.out, rfl⟩⟩
        case measure => simp [intOf]; omega
      · have t1 : decide (va < vb) = false := by simpa using hc
        have HS2 := hide (HST.out.trans (if_neg hc))
        clear hc HST
        go_wp2_with fail
        refine (HNK.out _).mono ?_
        rintro e w' ⟨rfl, rfl⟩
        go_wp2_with fail
        refine (HNB.out _).mono ?_
        rintro e w' ⟨rfl, rfl⟩
        clear HNK HNB hcell
        go_wp2
        go_roundw
        case rel => exact ⟨k + 1, q, by omega, by go_num, rfl, hide ⟨bb, by rw [HS2.out]; exact HBB.out, rfl⟩⟩
        case measure => simp [intOf]; omega
    · obtain rfl : k = ks.length := by omega
      rw [← HJB.out, HBJ.out] at hbb
      obtain rfl : bj = bb := Option.some.inj hbb
      clear f8 hbb
      have X3 := hide (ext_drewN X2.out q)
      have HT3 := hide ((H7.out j _ bj HG.out HBJ.out).ext ptp_ne int_ne_tnp X3.out)
      have HX3 := hide (HX.out.ext X3.out)
      go_wp2_with fail
      refine (HIH.out _ _ (ext_trans X0.out X3.out) HX3.out HT3.out).1.mono ?_
      rintro e w5 ⟨rfl, S', hT', hS', hM', hx'⟩
      generalize hk' : expandN R a m (ks.getD j NT.nil) = k' at *
      have hl' : (ks.set j k').length = ks.length := List.length_set
      have M5 : MFr 104 (Ss j) w w5 := (MFr.of_ext X3.out).trans hM'
      have KB5 := M5 _ _ _ H1.out (fun _ => H8.out j HLT.out)
      have HX5 := hide (HX.out.mfr M5)
      have hS5 : ∀ b, S' b → Ss j b ∨ w.heap.size ≤ b := fun b h => (hS' b h).imp id (fun h => Nat.le_trans X3.out.size h)
      have HTS : ∀ (i : Nat) (k : NT) (b : Nat), (ks.set j k')[i]? = some k → bs[i]? = some b → TreeP w0 (n + 1) w5 b k (if i = j then S' else Ss i) ∧ PInv R a k ∧ k.sz < never := fun i k b h1 h2 => by
        rw [List.getElem?_set] at h1
        by_cases hij : j = i
        · subst hij
          rw [if_pos rfl, if_pos HLT.out] at h1
          cases h1
          rw [HBJ.out] at h2
          cases h2
          rw [if_pos rfl]
          exact ⟨hT', HIP.out, by have := HIS.out; have := HSZ.out j _ HG.out; omega⟩
        · rw [if_neg hij] at h1
          rw [if_neg (fun e => hij e.symm)]
          have hil := (List.getElem?_eq_some_iff.1 h1).1
          exact ⟨((H7.out i k b h1 h2).mfr ptp_ne int_ne_tnp M5 (fun q hq => H9.out i j hil HLT.out (fun e => hij e.symm) q hq)).succ, HALL.out i k h1, by have := HSZ.out i k h1; omega⟩
      have HNU : ∀ (i : Nat) (k : NT) (b : Nat), (ks.set j k')[i]? = some k → bs[i]? = some b → w5.cell? ⟨b, 5, none⟩ = some (.int .i64 k.a) ∧ w5.cell? ⟨b, 6, none⟩ = some (.int .i64 k.b) ∧ 0 ≤ k.a ∧ k.a ≤ never ∧ 0 ≤ k.b ∧ k.b ≤ never := fun i k b h1 h2 => by
        obtain ⟨a1, a2, a3⟩ := HTS i k b h1 h2
        have ht := a2.tri a3
        exact ⟨a1.nums.1, a1.nums.2, ht.l0, ht.l1, ht.s0, ht.s1⟩
      have H35 := own_tfr (ts := [104]) H3.out (by decide) (M5.tfr (List.mem_singleton.2 rfl))
      have KB6 : Blk w5 B 104 #[.slice cA P.cells.length cc, .slice aA P.hand0.length ac, .slice bA P.hand1.length bc, .int .i64 P.turn, .int .i64 P.quiet, .int .i64 x, .int .i64 y, .bool true, .slice (some ⟨gA, oA, none⟩) (ks.set j k').length c] := by rw [hl']; exact KB5
      have HUP := hide (update_any (a := a) KB6 HX5.out.cell11 (own_cells H35).1 (by rw [hl']; exact H6.out) (by rw [hl']; exact HL2.out) HNU)
      have HTS2 := hide (fun i k b h1 h2 => (HTS i k b h1 h2).1)
      have KB7 := hide KB5
      have H37 := hide H35
      have M7 := hide M5
      have HS7 := hide hS5
      have HX7 := hide hx'
      clear hT' hS' hM' hx' M5 KB5 hS5 HTS HNU H35 KB6 hl' HT3 HX3
      go_wp2_with fail
      refine HUP.out.mono ?_
      rintro e w9 ⟨rfl, hK9, hG9⟩
      have K9 := hide hK9
      have G9 := hide hG9
      clear hK9 hG9 HUP
      go_wp2
      go_end0
      refine ⟨rfl, ?_⟩
      rw [HE.out]
      exact kids_tree K9.out KB7.out (H2.out.mfr int_ne_tnp M7.out) H37.out H4.out H5.out H6.out HLT.out HTS2.out H8.out H9.out H10.out HS7.out (fun i hi b hb => by
        obtain ⟨q, b', h1, h2⟩ := kid_of H6.out hi
        exact (H7.out i q b' h1 h2).lt hb) H1.out.lt M7.out G9.out (Gr.to_ext G9.out HX7.out H5.out)

end Go.Proofs.Ytnaggpibfmednaa
namespace Go.Proofs.Ytnaggpibfmednaa
open Go.ChangeShapes Go.WideShapes Go.ChangeAt Go.RowKit Go.Shelf
set_option linter.unusedVariables false
set_option linter.unusedSimpArgs false
/-- A node without children in memory. -/
def LeafAt (W : World) (b : Nat) (t : NT) : Prop := ∃ c0 c1 c2 c3 c4, Blk W b 104 (layP c0 c1 c2 c3 c4 t.a t.b t.ex (.slice none 0 0)) ∧ PosI W (.agg #[c0, c1, c2, c3, c4]) t.pos
theorem LeafAt.ext {w W : World} {b : Nat} {t : NT} (h : LeafAt w b t) (x : Ext w W) : LeafAt W b t := by
  obtain ⟨c0, c1, c2, c3, c4, h1, h2⟩ := h
  exact ⟨c0, c1, c2, c3, c4, h1.ext x, h2.ext x⟩
theorem LeafAt.tfr {w W : World} {b : Nat} {t : NT} (h : LeafAt w b t) (f : TFr [98] w W) : LeafAt W b t := by
  obtain ⟨c0, c1, c2, c3, c4, h1, h2⟩ := h
  exact ⟨c0, c1, c2, c3, c4, f _ _ _ h1 (by decide), h2.tfr (by decide) f⟩
theorem LeafAt.far8 {w : World} {b B : Nat} {t : NT} (h : LeafAt w b t) (hne : b ≠ B) {u : Value} (f : TFr [104] w (w.setCell ⟨B, 8, none⟩ u)) (u' : Value) (hu : u = u' := by rfl) : LeafAt (w.setCell ⟨B, 8, none⟩ u') b t := by
  subst hu
  obtain ⟨c0, c1, c2, c3, c4, h1, h2⟩ := h
  exact ⟨c0, c1, c2, c3, c4, h1.far (p := ⟨B, 8, none⟩) hne _, h2.tfr (by decide) f⟩
theorem LeafAt.lt {w : World} {b : Nat} {t : NT} (h : LeafAt w b t) : b < w.heap.size := by
  obtain ⟨c0, c1, c2, c3, c4, h1, -⟩ := h
  exact h1.lt
theorem LeafAt.nums {w : World} {b : Nat} {t : NT} (h : LeafAt w b t) : w.cell? ⟨b, 5, none⟩ = some (.int .i64 t.a) ∧ w.cell? ⟨b, 6, none⟩ = some (.int .i64 t.b) := by
  obtain ⟨c0, c1, c2, c3, c4, h1, -⟩ := h
  exact ⟨h1.cell 5, h1.cell 6⟩
theorem LeafAt.tree {w0 w : World} {n b : Nat} {t : NT} {S : Nat → Prop} (h : LeafAt w b t) (hk : t.kids = []) (hb : w0.heap.size ≤ b) (hS : ∀ q, S q ↔ q = b) : TreeP w0 (n + 1) w b t S := by
  obtain ⟨c0, c1, c2, c3, c4, h1, h2⟩ := h
  cases t with
  | node P x y ex ks =>
    replace hk : ks = [] := hk
    subst hk
    exact ⟨c0, c1, c2, c3, c4, none, 0, [], fun _ _ => False, h1, .inr h2, World.ownsRow_nil _ _ _ _, fun _ => ⟨rfl, rfl⟩, hb, rfl, fun i k b hi => by simp [NT.kids] at hi, fun i hi => by simp [NT.kids] at hi, fun i j hi => by simp [NT.kids] at hi,
      fun q => (hS q).trans ⟨.inl, fun h => h.elim id (fun ⟨i, hi, _⟩ => by simp [NT.kids] at hi)⟩⟩
theorem leaves_tree {w0 w wl wr w9 : World} {B n c : Nat} {R : RulesM} {a x y : Int} {P : PosM} {L : List MoveM} {ks : List NT} {bs : List Nat} {A : Option Addr} {S : Nat → Prop} {c0 c1 c2 c3 c4 : Value} {cs : Array Value}
    (hkl : L.length = ks.length) (K9 : Blk w9 B 104 #[c0, c1, c2, c3, c4, .int .i64 (updN a (.node P x y true ks)).a, .int .i64 (updN a (.node P x y true ks)).b, .bool true, .slice A ks.length c]) (H2 : PosS w0 wr (.agg #[c0, c1, c2, c3, c4]) P)
    (OO : wr.ownsRow wl.heap.size 98 1 (.slice A ks.length c) ks.length (bs.map ptrV)) (hN : ks.length = 0 → A = none ∧ c = 0) (hbl : bs.length = ks.length)
    (HKI : ∀ (i : Nat) (q : NT) (b : Nat), ks[i]? = some q → bs[i]? = some b → ∃ mv, L[i]? = some mv ∧ q = leafN R a (makeM R P mv) ∧ wl.heap.size ≤ b ∧ LeafAt wr b (leafN R a (makeM R P mv)))
    (hND : ∀ (i j b : Nat), bs[i]? = some b → bs[j]? = some b → i = j) (G9 : Gr B wr w9) (GG : Gr B wl wr) (GL : Gr B w wl) (KL : Blk wl B 104 cs) (X0 : Ext w0 w) (X0L : Ext w0 wl) (H5 : w0.heap.size ≤ B) (H10 : ∀ b, S b ↔ b = B) (XF : Ext w0 w9)
    {cs' cs'' : Array Value} (KW : Blk w B 104 cs') (KR : Blk wr B 104 cs'') :
    ∃ S', TreeP w0 (n + 1 + 1) w9 B (updN a (.node P x y true ks)) S' ∧ (∀ b, S' b → S b ∨ w.heap.size ≤ b) ∧ MFr 104 S w w9 ∧ Ext w0 w9 := by
  have hS : S B := (H10 B).2 rfl
  have hBl := KL.lt
  have f9 : MFr 104 S wr w9 := MFr.of_gr G9 KR hS
  have hleaf : ∀ (i : Nat) (q : NT) (b : Nat), ks[i]? = some q → bs[i]? = some b → wl.heap.size ≤ b ∧ q.kids = [] ∧ LeafAt w9 b q := fun i q b h1 h2 => by
    obtain ⟨mv, -, rfl, hb, hl⟩ := HKI i q b h1 h2
    refine ⟨hb, leafN_kids _ _ _, ?_⟩
    obtain ⟨e0, e1, e2, e3, e4, k1, k2⟩ := hl
    exact ⟨e0, e1, e2, e3, e4, G9.blk k1 (by omega), k2.tfr (ts := [104]) (by decide) (f9.tfr (List.mem_singleton.2 rfl))⟩
  refine ⟨fun b => b = B ∨ ∃ i, i < ks.length ∧ bs[i]? = some b, ?_, ?_, ((MFr.of_gr GL KW hS).trans (MFr.of_gr GG KL hS)).trans f9, XF⟩
  · rw [updN_node]
    generalize (updN a (.node P x y true ks)).a = xa at *
    generalize (updN a (.node P x y true ks)).b = xb at *
    refine ⟨c0, c1, c2, c3, c4, A, c, bs, fun i b => bs[i]? = some b, K9, H2.mfr int_ne_tnp f9, ?_, fun h => ?_, H5, hbl, fun i k b h1 h2 => ?_, fun i hi h => ?_, fun i j hi hj hne b h1 h2 => hne (hND i j b h1 h2), fun b => Iff.rfl⟩
    · have o : wr.ownsRow w0.heap.size 98 1 (.slice A ks.length c) ks.length (bs.map ptrV) := own_mono OO X0L.size
      exact own_tfr o (by decide) (f9.tfr (List.mem_singleton.2 rfl))
    · exact hN (by rw [show ks = [] from h]; rfl)
    · obtain ⟨hb, hk, hl⟩ := hleaf i k b h1 h2
      exact hl.tree hk (by have := X0L.size; omega) (fun q => ⟨fun h => by replace h : bs[i]? = some q := h; rw [h2] at h; exact (Option.some.inj h).symm, fun h => by rw [h]; exact h2⟩)
    · obtain ⟨q, b, h1, h2⟩ := kid_of hbl hi
      have := (hleaf i q b h1 h2).1
      replace h : bs[i]? = some B := h
      rw [h2] at h
      cases h
      omega
  · rintro b (rfl | ⟨i, hi, h⟩)
    · exact .inl hS
    · obtain ⟨q, b', h1, h2⟩ := kid_of hbl hi
      have := (hleaf i q b' h1 h2).1
      rw [h2] at h
      cases h
      have := GL.size
      exact .inr (by omega)
theorem oper_append_nodeInfo : (Try.prog.info? 98).map (fun i => (i.zero, i.size, i.bytes)) = some (some (.pointer none), 1, 8) := by kernel_rfl
set_option maxHeartbeats 1000000 in
theorem oper_append_node {o : Oper} {a : Act} {K : Act → World → Prop} {Q : Exit → Act → World → Prop} (s x : Operand)
    (ho : o.op = .call { callee := .builtin .append, args := #[s, x], argTypes := #[102, 102] }) (base : Nat) (w : World) (A : Option Addr) (n c : Nat) (xs : List Value) (b : Nat)
    (hs : a.eval s = .slice A n c) (hown : w.ownsRow base 98 1 (.slice A n c) n xs) (hx : a.eval x = .slice (some ⟨w.heap.size, 0, none⟩) 1 1)
    (hb : base ≤ w.heap.size) (hlen : n ≤ 1000000)
    (h : ∀ A' c' w', w'.ownsRow base 98 1 (.slice A' (n + 1) c') (n + 1) (xs ++ [ptrV b]) → w.grownBy w' (Value.slice A n c).ownBlock → TFr [98] w w' → K (a.put o.dst (.slice A' (n + 1) c')) w') :
    Oper.wp Try.prog o a (w.alloc (.cells #[.pointer (some ⟨b, 0, none⟩)] 98)) K Q := by
  obtain ⟨i0, hi, hz0, hz1, hz2⟩ := info_parts oper_append_nodeInfo
  obtain ⟨v', w', hrun, h2, h3⟩ := run_append_cells (P := Try.prog) _ base 102 o.type 98 i0 (.pointer none) 1 8 Try.underlying102 hi hz0 hz1 hz2 rfl (by decide) _ n xs (own_ext hown (ext_alloc (Below.refl _ _) _)) (some ⟨w.heap.size, 0, none⟩) 1 1 [ptrV b] rfl (cellsAt_new w 98 [ptrV b]) (by simp [ptrV, Value.oneCell']) (by simp only [maxLen]; omega) (by omega) (by simp; omega) (by simp)
  unfold Oper.wp execOp
  simp only [ho, resolve, invoke, builtin, Sem.run_bind, Sem.run_pure, Result.andThen_ok, List.map_toArray, List.map_cons, List.map_nil, hs, hx, show #[Value.pointer (some ⟨b, 0, none⟩)] = [ptrV b].toArray from rfl, hrun]
  obtain ⟨A', c', rfl, _, _⟩ := own_shape h2
  have f : TFr [98] w w' := (TFr.of_ext (ext_alloc (Below.refl _ _) _)).trans (TFr.grown (own_ext hown (ext_alloc (Below.refl _ _) _)) (List.mem_singleton.2 rfl) h3)
  refine h A' c' w' h2 ?_ f
  exact ⟨h3.os, h3.tape, h3.output, by have := h3.size; simp at this; omega, fun b hb hn => by
    rw [h3.block b (by simp; omega) hn]
    exact Below.heap_alloc w _ b hb⟩

set_option maxHeartbeats 8000000 in
set_option maxRecDepth 100000 in
theorem expand_one {w0 w : World} {BX B n m : Nat} {R : RulesM} {a : Int} {P : PosM} {x y : Int} {S : Nat → Prop} (hV : Valid R) (ha : a = 0 ∨ a = 1) (x0 : Ext w0 w) (hX : ProverAt w0 w BX R a) (hT : TreeP w0 (n + 1) w B (.node P x y false []) S)
    (hS : Sound R P) (hsz : ((listM R P).length : Int) < never) :
    Calls Try.prog 67 #[.pointer (some ⟨BX, 0, none⟩), .pointer (some ⟨B, 0, none⟩)] w (ExpPost w0 w B (n + 1) S (expandN R a (m + 1) (.node P x y false []))) := by
  have HE := hide (show expandN R a (m + 1) (.node P x y false []) = updN a (.node P x y true (leavesN R a P)) from rfl)
  obtain ⟨c0, c1, c2, c3, c4, A, c, bs0, Ss0, h1, h2, h3, h4, h5, h6, -, -, -, h10⟩ := hT
  obtain ⟨rfl, rfl⟩ := h4 rfl
  replace h1 : Blk w B 104 (layP c0 c1 c2 c3 c4 x y false (.slice none 0 0)) := h1
  replace h2 : PosS w0 w (.agg #[c0, c1, c2, c3, c4]) P := h2
  replace h10 : ∀ b, S b ↔ b = B := fun b => (h10 b).trans ⟨fun h => h.elim id (fun ⟨i, hi, _⟩ => by simp [NT.kids] at hi), .inl⟩
  have hP := h2.at_ x0
  obtain ⟨cA, cc, aA, ac, bA, bc, e, -⟩ := hP
  simp only [Value.agg.injEq, Array.mk.injEq, List.cons.injEq, and_true] at e
  obtain ⟨rfl, rfl, rfl, rfl, rfl⟩ := e
  have HLL := hide (listM_len hV hS)
  have HLI := hide (fun (W : World) (v u : Value) (h1 : RulesAt W v R) (h2 : PosAt W u P) => List_any R P v u W h1 h2 hV hS)
  have HMK := hide (fun (mv : MoveM) (hm : mv ∈ listM R P) (W : World) (v u : Value) (h1 : RulesAt W v R) (h2 : PosAt W u P) => Make_any R P mv v u W h1 h2 hV hS (mem_listM.1 hm))
  have HLF := hide (fun (mv : MoveM) (hm : mv ∈ listM R P) (W : World) (g0 g1 g2 d0 d1 d2 : Nat) (x : Ext w0 W) (hX : ProverAt w0 W BX R a) (hP : PosI W (.agg #[.slice (some ⟨g0, 0, none⟩) (makeM R P mv).cells.length d0, .slice (some ⟨g1, 0, none⟩) (makeM R P mv).hand0.length d1, .slice (some ⟨g2, 0, none⟩) (makeM R P mv).hand1.length d2, .int .i64 (makeM R P mv).turn, .int .i64 (makeM R P mv).quiet]) (makeM R P mv)) => leaf_any x hX hV hP (sound_make hV hS (mem_listM.1 hm)) ha)
  have HTR := hide (fun (mv : MoveM) (hm : mv ∈ listM R P) => (PInv.leaf (a := a) (makeM R P mv) (sound_make hV hS (mem_listM.1 hm))).tri (by rw [leafN_sz]; unfold never; omega))
  have HLN := hide (show leavesN R a P = (listM R P).map fun mv => leafN R a (makeM R P mv) from rfl)
  generalize leavesN R a P = ks at *
  generalize hL : listM R P = L at *
  clear hL
  have H1 := hide h1
  have H2 := hide h2
  have H5 := hide h5
  have H10 := hide h10
  have HX := hide hX
  have X0 := hide x0
  have HHA := hide ha
  obtain ⟨pA, pc, sA, sc, eA, ec, hB, hR⟩ := hX
  have HB := hide hB
  have HR := hide hR
  have f := h1.cell
  have fz := h1.frozen
  unfold layP at f
  clear h1 h2 h3 h4 h5 h6 h10 x0 hB hR hV hS ha hsz
  go_enter Try.func67, Try.ntmps67
  go_upto_region 2 with fail
  have K1 := hide (blk_put (i := 7) (u := .bool true) H1.out (cs' := #[.slice cA P.cells.length cc, .slice aA P.hand0.length ac, .slice bA P.hand1.length bc, .int .i64 P.turn, .int .i64 P.quiet, .int .i64 x, .int .i64 y, .bool true, .slice none 0 0]) rfl)
  have G1 := hide ((Gr.refl (B := B) w).set 7 (.bool true))
  have HBX := hide (HB.out.far (p := ⟨B, 7, none⟩) (blk_ne HB.out H1.out (by decide)) (.bool true))
  clear f fz
  generalize w.setCell ⟨B, 7, none⟩ (.bool true) = w1 at *
  have X01 := hide (G1.out.to_ext X0.out H5.out)
  have H21 := hide (H2.out.mfr int_ne_tnp (MFr.of_gr G1.out H1.out (S := S) ((H10.out B).2 rfl)))
  have keepK := hide (fun W (h : Ext w1 W) => (show (fun W => W.cell? ⟨B, 0, none⟩ = some (.slice cA P.cells.length cc) ∧ W.cell? ⟨B, 1, none⟩ = some (.slice aA P.hand0.length ac) ∧ W.cell? ⟨B, 2, none⟩ = some (.slice bA P.hand1.length bc) ∧ W.cell? ⟨B, 3, none⟩ = some (.int .i64 P.turn) ∧ W.cell? ⟨B, 4, none⟩ = some (.int .i64 P.quiet) ∧ W.cell? ⟨B, 5, none⟩ = some (.int .i64 x) ∧ W.cell? ⟨B, 6, none⟩ = some (.int .i64 y) ∧ W.cell? ⟨B, 7, none⟩ = some (.bool true) ∧ W.cell? ⟨B, 8, none⟩ = some (.slice none 0 0) ∧ W.cell? ⟨BX, 0, none⟩ = some (.string R.name) ∧ W.cell? ⟨BX, 1, none⟩ = some (.int .i64 R.width) ∧ W.cell? ⟨BX, 2, none⟩ = some (.int .i64 R.height) ∧ W.cell? ⟨BX, 3, none⟩ = some (.slice pA R.pieces.length pc) ∧ W.cell? ⟨BX, 4, none⟩ = some (.slice sA R.start.length sc) ∧ W.cell? ⟨BX, 5, none⟩ = some (.bool R.falls) ∧ W.cell? ⟨BX, 6, none⟩ = some (.bool R.keeps) ∧ W.cell? ⟨BX, 7, none⟩ = some (.slice eA R.ends.length ec) ∧ W.cell? ⟨BX, 8, none⟩ = some (.int .i64 R.blocked) ∧ W.cell? ⟨BX, 9, none⟩ = some (.int .i64 R.quiet) ∧ W.cell? ⟨BX, 10, none⟩ = some (.int .i64 R.rept) ∧ W.cell? ⟨BX, 11, none⟩ = some (.int .i64 a) ∧ Ext w1 W) W from ⟨(K1.out.ext h).cell 0, (K1.out.ext h).cell 1, (K1.out.ext h).cell 2, (K1.out.ext h).cell 3, (K1.out.ext h).cell 4, (K1.out.ext h).cell 5, (K1.out.ext h).cell 6, (K1.out.ext h).cell 7, (K1.out.ext h).cell 8, (HBX.out.ext h).cell 0, (HBX.out.ext h).cell 1, (HBX.out.ext h).cell 2, (HBX.out.ext h).cell 3, (HBX.out.ext h).cell 4, (HBX.out.ext h).cell 5, (HBX.out.ext h).cell 6, (HBX.out.ext h).cell 7, (HBX.out.ext h).cell 8, (HBX.out.ext h).cell 9, (HBX.out.ext h).cell 10, (HBX.out.ext h).cell 11, h⟩))
  have yy : Ext w1 w1.drew := Below.drew (Below.refl _ _)
  refine region_K (fun W => W.cell? ⟨B, 0, none⟩ = some (.slice cA P.cells.length cc) ∧ W.cell? ⟨B, 1, none⟩ = some (.slice aA P.hand0.length ac) ∧ W.cell? ⟨B, 2, none⟩ = some (.slice bA P.hand1.length bc) ∧ W.cell? ⟨B, 3, none⟩ = some (.int .i64 P.turn) ∧ W.cell? ⟨B, 4, none⟩ = some (.int .i64 P.quiet) ∧ W.cell? ⟨B, 5, none⟩ = some (.int .i64 x) ∧ W.cell? ⟨B, 6, none⟩ = some (.int .i64 y) ∧ W.cell? ⟨B, 7, none⟩ = some (.bool true) ∧ W.cell? ⟨B, 8, none⟩ = some (.slice none 0 0) ∧ W.cell? ⟨BX, 0, none⟩ = some (.string R.name) ∧ W.cell? ⟨BX, 1, none⟩ = some (.int .i64 R.width) ∧ W.cell? ⟨BX, 2, none⟩ = some (.int .i64 R.height) ∧ W.cell? ⟨BX, 3, none⟩ = some (.slice pA R.pieces.length pc) ∧ W.cell? ⟨BX, 4, none⟩ = some (.slice sA R.start.length sc) ∧ W.cell? ⟨BX, 5, none⟩ = some (.bool R.falls) ∧ W.cell? ⟨BX, 6, none⟩ = some (.bool R.keeps) ∧ W.cell? ⟨BX, 7, none⟩ = some (.slice eA R.ends.length ec) ∧ W.cell? ⟨BX, 8, none⟩ = some (.int .i64 R.blocked) ∧ W.cell? ⟨BX, 9, none⟩ = some (.int .i64 R.quiet) ∧ W.cell? ⟨BX, 10, none⟩ = some (.int .i64 R.rept) ∧ W.cell? ⟨BX, 11, none⟩ = some (.int .i64 a) ∧ Ext w1 W) (fun _ => True) [] (by kernel_rfl) ?_
  have hT0 := keepK.out _ yy
  refine anyK_take 0 (oi := ?oo1) ?ho1 (by kernel_rfl) (by kernel_rfl) (by kernel_rfl) (by kernel_rfl) ?hq1 ?hw1 hT0 (fun _ => trivial) (v := ?vv1) ?hy1 ?hk1
  case ho1 => (simp only [List.getElem?_toArray, List.getElem?_cons_succ, List.getElem?_cons_zero]; rfl)
  case hq1 => exact fun _ _ _ h => h
  case hw1 => rfl
  case hy1 =>
    intro W hW
    go_simp
    first | done | with_reducible rfl
  case hk1 =>
  try simp only [Act.put, List.setIfInBounds_toArray, List.set_cons_zero, List.set_cons_succ]
  refine anyK_take 1 (oi := ?oo2) ?ho2 (by kernel_rfl) (by kernel_rfl) (by kernel_rfl) (by kernel_rfl) ?hq2 ?hw2 hT0 (fun _ => trivial) (v := ?vv2) ?hy2 ?hk2
  case ho2 => (simp only [List.getElem?_toArray, List.getElem?_cons_succ, List.getElem?_cons_zero]; rfl)
  case hq2 => exact fun _ _ _ h => h
  case hw2 => rfl
  case hy2 =>
    intro W hW
    go_simp
    first | done | with_reducible rfl
  case hk2 =>
  try simp only [Act.put, List.setIfInBounds_toArray, List.set_cons_zero, List.set_cons_succ]
  refine anyK_take 2 (oi := ?oo3) ?ho3 (by kernel_rfl) (by kernel_rfl) (by kernel_rfl) (by kernel_rfl) ?hq3 ?hw3 hT0 (fun _ => trivial) (v := ?vv3) ?hy3 ?hk3
  case ho3 => (simp only [List.getElem?_toArray, List.getElem?_cons_succ, List.getElem?_cons_zero]; rfl)
  case hq3 => exact fun _ _ _ h => h
  case hw3 => rfl
  case hy3 =>
    intro W hW
    go_simp
    first | done | with_reducible rfl
  case hk3 =>
  try simp only [Act.put, List.setIfInBounds_toArray, List.set_cons_zero, List.set_cons_succ]
  refine anyK_take 3 (oi := ?oo4) ?ho4 (by kernel_rfl) (by kernel_rfl) (by kernel_rfl) (by kernel_rfl) ?hq4 ?hw4 hT0 (fun _ => trivial) (v := ?vv4) ?hy4 ?hk4
  case ho4 => (simp only [List.getElem?_toArray, List.getElem?_cons_succ, List.getElem?_cons_zero]; rfl)
  case hq4 => exact fun _ _ _ h => h
  case hw4 => rfl
  case hy4 =>
    intro W hW
    obtain ⟨z0, z1, z2, z3, z4, z5, z6, z7, z8, z9, z10, z11, z12, z13, z14, z15, z16, z17, z18, z19, z20, z21⟩ := hW
    go_simp
    first | done | with_reducible rfl
  case hk4 =>
  try simp only [Act.put, List.setIfInBounds_toArray, List.set_cons_zero, List.set_cons_succ]
  refine anyK_take 4 (oi := ?oo5) ?ho5 (by kernel_rfl) (by kernel_rfl) (by kernel_rfl) (by kernel_rfl) ?hq5 ?hw5 hT0 (fun _ => trivial) (v := ?vv5) ?hy5 ?hk5
  case ho5 => (simp only [List.getElem?_toArray, List.getElem?_cons_succ, List.getElem?_cons_zero]; rfl)
  case hq5 => exact fun _ _ _ h => h
  case hw5 => rfl
  case hy5 =>
    intro W hW
    go_simp
    first | done | with_reducible rfl
  case hk5 =>
  try simp only [Act.put, List.setIfInBounds_toArray, List.set_cons_zero, List.set_cons_succ]
  refine anyK_take 5 (oi := ?oo6) ?ho6 (by kernel_rfl) (by kernel_rfl) (by kernel_rfl) (by kernel_rfl) ?hq6 ?hw6 hT0 (fun _ => trivial) (v := ?vv6) ?hy6 ?hk6
  case ho6 => (simp only [List.getElem?_toArray, List.getElem?_cons_succ, List.getElem?_cons_zero]; rfl)
  case hq6 => exact fun _ _ _ h => h
  case hw6 => rfl
  case hy6 =>
    intro W hW
    go_simp
    first | done | with_reducible rfl
  case hk6 =>
  try simp only [Act.put, List.setIfInBounds_toArray, List.set_cons_zero, List.set_cons_succ]
  refine anyK_take 6 (oi := ?oo7) ?ho7 (by kernel_rfl) (by kernel_rfl) (by kernel_rfl) (by kernel_rfl) ?hq7 ?hw7 hT0 (fun _ => trivial) (v := ?vv7) ?hy7 ?hk7
  case ho7 => (simp only [List.getElem?_toArray, List.getElem?_cons_succ, List.getElem?_cons_zero]; rfl)
  case hq7 => exact fun _ _ _ h => h
  case hw7 => rfl
  case hy7 =>
    intro W hW
    go_simp
    first | done | with_reducible rfl
  case hk7 =>
  try simp only [Act.put, List.setIfInBounds_toArray, List.set_cons_zero, List.set_cons_succ]
  refine anyK_take 7 (oi := ?oo8) ?ho8 (by kernel_rfl) (by kernel_rfl) (by kernel_rfl) (by kernel_rfl) ?hq8 ?hw8 hT0 (fun _ => trivial) (v := ?vv8) ?hy8 ?hk8
  case ho8 => (simp only [List.getElem?_toArray, List.getElem?_cons_succ, List.getElem?_cons_zero]; rfl)
  case hq8 => exact fun _ _ _ h => h
  case hw8 => rfl
  case hy8 =>
    intro W hW
    obtain ⟨z0, z1, z2, z3, z4, z5, z6, z7, z8, z9, z10, z11, z12, z13, z14, z15, z16, z17, z18, z19, z20, z21⟩ := hW
    go_simp
    first | done | with_reducible rfl
  case hk8 =>
  try simp only [Act.put, List.setIfInBounds_toArray, List.set_cons_zero, List.set_cons_succ]
  refine anyK_take 10 (oi := ?oo9) ?ho9 (by kernel_rfl) (by kernel_rfl) (by kernel_rfl) (by kernel_rfl) ?hq9 ?hw9 hT0 (fun _ => trivial) (v := ?vv9) ?hy9 ?hk9
  case ho9 => (simp only [List.getElem?_toArray, List.getElem?_cons_succ, List.getElem?_cons_zero]; rfl)
  case hq9 => exact fun _ _ _ h => h
  case hw9 => rfl
  case hy9 =>
    intro W hW
    go_simp
    first | done | with_reducible rfl
  case hk9 =>
  try simp only [Act.put, List.setIfInBounds_toArray, List.set_cons_zero, List.set_cons_succ]
  refine anyK_on1 8 (by kernel_rfl) ?_
  refine anyK_one 8 (o := ?oo10) ?ho10 ?hk10
  case ho10 => (simp only [List.getElem?_toArray, List.getElem?_cons_succ, List.getElem?_cons_zero]; rfl)
  case hk10 =>
  intro K hK
  go_simp
  refine (HLI.out _ _ _ (HR.out.ext (ext_trans X01.out yy)) ((H21.out.at_ X01.out).ext yy)).mono ?_
  rintro e wl ⟨vl, rfl, hl, xx⟩
  try go_wp2_with fail
  replace yy := ext_trans yy xx
  have HLO := hide hl
  obtain ⟨lA, lc, rfl, -⟩ := hl
  have hT1 := keepK.out _ yy
  refine hK.out _ _ hT1 (fun _ => trivial) ?_
  clear hK K
  try simp only [Act.put, List.setIfInBounds_toArray, List.set_cons_zero, List.set_cons_succ]
  refine anyK_take 9 (oi := ?oo11) ?ho11 (by kernel_rfl) (by kernel_rfl) (by kernel_rfl) (by kernel_rfl) ?hq11 ?hw11 hT1 (fun _ => trivial) (v := ?vv11) ?hy11 ?hk11
  case ho11 => (simp only [List.getElem?_toArray, List.getElem?_cons_succ, List.getElem?_cons_zero]; rfl)
  case hq11 => exact fun _ _ _ h => h
  case hw11 => rfl
  case hy11 =>
    intro W hW
    go_simp
    first | done | with_reducible rfl
  case hk11 =>
  try simp only [Act.put, List.setIfInBounds_toArray, List.set_cons_zero, List.set_cons_succ]
  refine anyK_done (by kernel_rfl) ?_ _
  clear keepK hT0 hT1
  have GL := hide (G1.out.ext yy)
  have KL := hide (K1.out.ext yy)
  have BXL := hide (HBX.out.ext yy)
  have X0L := hide (ext_trans X01.out yy)
  have H2L := hide (H21.out.tfr (ts := [104]) (by decide) (TFr.of_ext yy))
  have HBW : Hid (B < w1.heap.size) := hide K1.out.lt
  have HBL : Hid (B < wl.heap.size) := hide KL.out.lt
  have HFM := hide (far_moves HLO.out HBW.out)
  clear yy xx G1 K1 HBX X01 H21 HLI HLO HBW
  go_wp2
  go_loopw [29] (fun i wr => ∃ (k : Nat) (A : Option Addr) (c : Nat) (bs : List Nat), k ≤ L.length ∧ i = .int .i64 k ∧ Blk wr B 104 #[.slice cA P.cells.length cc, .slice aA P.hand0.length ac, .slice bA P.hand1.length bc, .int .i64 P.turn, .int .i64 P.quiet, .int .i64 x, .int .i64 y, .bool true, .slice A k c] ∧ wr.ownsRow wl.heap.size 98 1 (.slice A k c) k (bs.map ptrV) ∧ Hid (k = 0 → A = none ∧ c = 0) ∧ Hid (bs.length = k) ∧
      Hid (∀ (i : Nat) (mv : MoveM) (b : Nat), L[i]? = some mv → bs[i]? = some b → wl.heap.size ≤ b ∧ LeafAt wr b (leafN R a (makeM R P mv))) ∧ Hid (∀ (i j b : Nat), bs[i]? = some b → bs[j]? = some b → i = j) ∧ Gr B wl wr) (fun i _ => L.length - (intOf i).toNat)
  case atStart => exact ⟨0, none, 0, [], Nat.zero_le _, rfl, KL.out, World.ownsRow_nil _ _ _ _, hide (fun _ => ⟨rfl, rfl⟩), rfl, hide (fun i mv b _ h => by simp at h), hide (fun i j b h => by simp at h), Gr.refl _⟩
  case round =>
    obtain ⟨k, A, c, bs, hk, rfl, hK, hO, hN, hbl, hLF, hND, hG⟩ := hrel
    have KK := hide hK
    have OO := hide hO
    have GG := hide hG
    clear hK hO hG
    have hll := HLL.out
    have X0R := hide (Gr.to_ext GG.out X0L.out H5.out)
    have H2R := hide (H2L.out.mfr int_ne_tnp (MFr.of_gr GG.out KL.out (S := S) ((H10.out B).2 rfl)))
    have BXR := hide (GG.out.blk BXL.out (blk_ne BXL.out KL.out (by decide)))
    by_cases hlt : k < L.length
    · obtain ⟨mv, hmv⟩ : ∃ mv, L[k]? = some mv := ⟨L[k], List.getElem?_eq_getElem _⟩
      have HMV := hide hmv
      have hmem := List.mem_of_getElem? hmv
      obtain ⟨lA', lc', e', hc'⟩ := HFM.out _ GG.out
      obtain ⟨b', o', rfl, m0, m1, m2⟩ := moves_get hc' hmv
      simp only [Value.slice.injEq] at e'
      obtain ⟨rfl, -, rfl⟩ := e'
      have HMK2 := hide (HMK.out mv hmem)
      have HLF2 := hide (HLF.out mv hmem)
      have i0 : (0 : Int) ≤ (k : Int) := by omega
      have i1 : (k : Int) < (L.length : Int) := by omega
      clear hmv hmem hc' HMK HLF
      go_upto_region 5 with fail
      obtain ⟨x5, k5⟩ := blks1 wr #[.int .i64 mv.src, .int .i64 mv.dst, .int .i64 mv.piece] 37
      have X5 := hide x5
      have KM5 := hide k5
      have K5 := hide (KK.out.ext x5)
      have BX5 := hide (BXR.out.ext x5)
      have X05 := hide (ext_trans X0R.out x5)
      have H25 := hide (H2R.out.tfr (ts := [104]) (by decide) (TFr.of_ext x5))
      have HG5 := hide (GG.out.ext x5)
      have O5 := hide (own_ext OO.out x5)
      have HL5 := hide (fun (i : Nat) (mv : MoveM) (b : Nat) (h1 : L[i]? = some mv) (h2 : bs[i]? = some b) => (⟨(hLF.out i mv b h1 h2).1, (hLF.out i mv b h1 h2).2.ext x5⟩ : wl.heap.size ≤ b ∧ LeafAt _ b (leafN R a (makeM R P mv))))
      clear x5 k5 m0 m1 m2 hLF
      generalize wr.alloc (.cells #[.int .i64 mv.src, .int .i64 mv.dst, .int .i64 mv.piece] 37) = w5 at *
      generalize wr.heap.size = BM at *
      clear KK OO GG X0R H2R BXR X5
      have zz : Ext w5 w5.drew := Below.drew (Below.refl _ _)
      have ss := K5.out.ext zz
      have keepK := hide (fun W (h : ∃ lv, Blk W B 104 #[.slice cA P.cells.length cc, .slice aA P.hand0.length ac, .slice bA P.hand1.length bc, .int .i64 P.turn, .int .i64 P.quiet, .int .i64 x, .int .i64 y, .bool true, lv] ∧ Blk W BX 140 #[.string R.name, .int .i64 R.width, .int .i64 R.height, .slice pA R.pieces.length pc, .slice sA R.start.length sc, .bool R.falls, .bool R.keeps, .slice eA R.ends.length ec, .int .i64 R.blocked, .int .i64 R.quiet, .int .i64 R.rept, .int .i64 a] ∧ Blk W BM 37 #[.int .i64 mv.src, .int .i64 mv.dst, .int .i64 mv.piece]) => (show (fun W => W.cell? ⟨B, 0, none⟩ = some (.slice cA P.cells.length cc) ∧ W.cell? ⟨B, 1, none⟩ = some (.slice aA P.hand0.length ac) ∧ W.cell? ⟨B, 2, none⟩ = some (.slice bA P.hand1.length bc) ∧ W.cell? ⟨B, 3, none⟩ = some (.int .i64 P.turn) ∧ W.cell? ⟨B, 4, none⟩ = some (.int .i64 P.quiet) ∧ W.cell? ⟨B, 5, none⟩ = some (.int .i64 x) ∧ W.cell? ⟨B, 6, none⟩ = some (.int .i64 y) ∧ W.cell? ⟨B, 7, none⟩ = some (.bool true) ∧ W.cell? ⟨BX, 0, none⟩ = some (.string R.name) ∧ W.cell? ⟨BX, 1, none⟩ = some (.int .i64 R.width) ∧ W.cell? ⟨BX, 2, none⟩ = some (.int .i64 R.height) ∧ W.cell? ⟨BX, 3, none⟩ = some (.slice pA R.pieces.length pc) ∧ W.cell? ⟨BX, 4, none⟩ = some (.slice sA R.start.length sc) ∧ W.cell? ⟨BX, 5, none⟩ = some (.bool R.falls) ∧ W.cell? ⟨BX, 6, none⟩ = some (.bool R.keeps) ∧ W.cell? ⟨BX, 7, none⟩ = some (.slice eA R.ends.length ec) ∧ W.cell? ⟨BX, 8, none⟩ = some (.int .i64 R.blocked) ∧ W.cell? ⟨BX, 9, none⟩ = some (.int .i64 R.quiet) ∧ W.cell? ⟨BX, 10, none⟩ = some (.int .i64 R.rept) ∧ W.cell? ⟨BM, 0, none⟩ = some (.int .i64 mv.src) ∧ W.cell? ⟨BM, 1, none⟩ = some (.int .i64 mv.dst) ∧ W.cell? ⟨BM, 2, none⟩ = some (.int .i64 mv.piece) ∧ ∃ lv, Blk W B 104 #[.slice cA P.cells.length cc, .slice aA P.hand0.length ac, .slice bA P.hand1.length bc, .int .i64 P.turn, .int .i64 P.quiet, .int .i64 x, .int .i64 y, .bool true, lv] ∧ Blk W BX 140 #[.string R.name, .int .i64 R.width, .int .i64 R.height, .slice pA R.pieces.length pc, .slice sA R.start.length sc, .bool R.falls, .bool R.keeps, .slice eA R.ends.length ec, .int .i64 R.blocked, .int .i64 R.quiet, .int .i64 R.rept, .int .i64 a] ∧ Blk W BM 37 #[.int .i64 mv.src, .int .i64 mv.dst, .int .i64 mv.piece]) W from ⟨(match h with | ⟨_, hb, _, _⟩ => hb.cell 0), (match h with | ⟨_, hb, _, _⟩ => hb.cell 1), (match h with | ⟨_, hb, _, _⟩ => hb.cell 2), (match h with | ⟨_, hb, _, _⟩ => hb.cell 3), (match h with | ⟨_, hb, _, _⟩ => hb.cell 4), (match h with | ⟨_, hb, _, _⟩ => hb.cell 5), (match h with | ⟨_, hb, _, _⟩ => hb.cell 6), (match h with | ⟨_, hb, _, _⟩ => hb.cell 7), (match h with | ⟨_, _, hb, _⟩ => hb.cell 0), (match h with | ⟨_, _, hb, _⟩ => hb.cell 1), (match h with | ⟨_, _, hb, _⟩ => hb.cell 2), (match h with | ⟨_, _, hb, _⟩ => hb.cell 3), (match h with | ⟨_, _, hb, _⟩ => hb.cell 4), (match h with | ⟨_, _, hb, _⟩ => hb.cell 5), (match h with | ⟨_, _, hb, _⟩ => hb.cell 6), (match h with | ⟨_, _, hb, _⟩ => hb.cell 7), (match h with | ⟨_, _, hb, _⟩ => hb.cell 8), (match h with | ⟨_, _, hb, _⟩ => hb.cell 9), (match h with | ⟨_, _, hb, _⟩ => hb.cell 10), (match h with | ⟨_, _, _, hm⟩ => hm.cell 0), (match h with | ⟨_, _, _, hm⟩ => hm.cell 1), (match h with | ⟨_, _, _, hm⟩ => hm.cell 2), h⟩))
      have yy := (⟨_, K5.out.ext zz, BX5.out.ext zz, KM5.out.ext zz⟩ : (fun W => ∃ lv, Blk W B 104 #[.slice cA P.cells.length cc, .slice aA P.hand0.length ac, .slice bA P.hand1.length bc, .int .i64 P.turn, .int .i64 P.quiet, .int .i64 x, .int .i64 y, .bool true, lv] ∧ Blk W BX 140 #[.string R.name, .int .i64 R.width, .int .i64 R.height, .slice pA R.pieces.length pc, .slice sA R.start.length sc, .bool R.falls, .bool R.keeps, .slice eA R.ends.length ec, .int .i64 R.blocked, .int .i64 R.quiet, .int .i64 R.rept, .int .i64 a] ∧ Blk W BM 37 #[.int .i64 mv.src, .int .i64 mv.dst, .int .i64 mv.piece]) w5.drew)
      refine region_K (fun W => W.cell? ⟨B, 0, none⟩ = some (.slice cA P.cells.length cc) ∧ W.cell? ⟨B, 1, none⟩ = some (.slice aA P.hand0.length ac) ∧ W.cell? ⟨B, 2, none⟩ = some (.slice bA P.hand1.length bc) ∧ W.cell? ⟨B, 3, none⟩ = some (.int .i64 P.turn) ∧ W.cell? ⟨B, 4, none⟩ = some (.int .i64 P.quiet) ∧ W.cell? ⟨B, 5, none⟩ = some (.int .i64 x) ∧ W.cell? ⟨B, 6, none⟩ = some (.int .i64 y) ∧ W.cell? ⟨B, 7, none⟩ = some (.bool true) ∧ W.cell? ⟨BX, 0, none⟩ = some (.string R.name) ∧ W.cell? ⟨BX, 1, none⟩ = some (.int .i64 R.width) ∧ W.cell? ⟨BX, 2, none⟩ = some (.int .i64 R.height) ∧ W.cell? ⟨BX, 3, none⟩ = some (.slice pA R.pieces.length pc) ∧ W.cell? ⟨BX, 4, none⟩ = some (.slice sA R.start.length sc) ∧ W.cell? ⟨BX, 5, none⟩ = some (.bool R.falls) ∧ W.cell? ⟨BX, 6, none⟩ = some (.bool R.keeps) ∧ W.cell? ⟨BX, 7, none⟩ = some (.slice eA R.ends.length ec) ∧ W.cell? ⟨BX, 8, none⟩ = some (.int .i64 R.blocked) ∧ W.cell? ⟨BX, 9, none⟩ = some (.int .i64 R.quiet) ∧ W.cell? ⟨BX, 10, none⟩ = some (.int .i64 R.rept) ∧ W.cell? ⟨BM, 0, none⟩ = some (.int .i64 mv.src) ∧ W.cell? ⟨BM, 1, none⟩ = some (.int .i64 mv.dst) ∧ W.cell? ⟨BM, 2, none⟩ = some (.int .i64 mv.piece) ∧ ∃ lv, Blk W B 104 #[.slice cA P.cells.length cc, .slice aA P.hand0.length ac, .slice bA P.hand1.length bc, .int .i64 P.turn, .int .i64 P.quiet, .int .i64 x, .int .i64 y, .bool true, lv] ∧ Blk W BX 140 #[.string R.name, .int .i64 R.width, .int .i64 R.height, .slice pA R.pieces.length pc, .slice sA R.start.length sc, .bool R.falls, .bool R.keeps, .slice eA R.ends.length ec, .int .i64 R.blocked, .int .i64 R.quiet, .int .i64 R.rept, .int .i64 a] ∧ Blk W BM 37 #[.int .i64 mv.src, .int .i64 mv.dst, .int .i64 mv.piece]) (fun W => W.cell? ⟨B, 8, none⟩ = some (.slice A k c)) [21] (by kernel_rfl) ?_
      have hS0 := ss.cell 8
      have hT0 := keepK.out _ yy
      refine anyK_take 0 (oi := ?oo12) ?ho12 (by kernel_rfl) (by kernel_rfl) (by kernel_rfl) (by kernel_rfl) ?hq12 ?hw12 hT0 (fun _ => hS0) (v := ?vv12) ?hy12 ?hk12
      case ho12 => (simp only [List.getElem?_toArray, List.getElem?_cons_succ, List.getElem?_cons_zero]; rfl)
      case hq12 => exact fun _ _ _ h => h
      case hw12 => rfl
      case hy12 =>
        intro W hW
        go_simp
        first | done | with_reducible rfl
      case hk12 =>
      try simp only [Act.put, List.setIfInBounds_toArray, List.set_cons_zero, List.set_cons_succ]
      refine anyK_take 1 (oi := ?oo13) ?ho13 (by kernel_rfl) (by kernel_rfl) (by kernel_rfl) (by kernel_rfl) ?hq13 ?hw13 hT0 (fun _ => hS0) (v := ?vv13) ?hy13 ?hk13
      case ho13 => (simp only [List.getElem?_toArray, List.getElem?_cons_succ, List.getElem?_cons_zero]; rfl)
      case hq13 => exact fun _ _ _ h => h
      case hw13 => rfl
      case hy13 =>
        intro W hW
        go_simp
        first | done | with_reducible rfl
      case hk13 =>
      try simp only [Act.put, List.setIfInBounds_toArray, List.set_cons_zero, List.set_cons_succ]
      refine anyK_take 2 (oi := ?oo14) ?ho14 (by kernel_rfl) (by kernel_rfl) (by kernel_rfl) (by kernel_rfl) ?hq14 ?hw14 hT0 (fun _ => hS0) (v := ?vv14) ?hy14 ?hk14
      case ho14 => (simp only [List.getElem?_toArray, List.getElem?_cons_succ, List.getElem?_cons_zero]; rfl)
      case hq14 => exact fun _ _ _ h => h
      case hw14 => rfl
      case hy14 =>
        intro W hW
        go_simp
        first | done | with_reducible rfl
      case hk14 =>
      try simp only [Act.put, List.setIfInBounds_toArray, List.set_cons_zero, List.set_cons_succ]
      refine anyK_take 3 (oi := ?oo15) ?ho15 (by kernel_rfl) (by kernel_rfl) (by kernel_rfl) (by kernel_rfl) ?hq15 ?hw15 hT0 (fun _ => hS0) (v := ?vv15) ?hy15 ?hk15
      case ho15 => (simp only [List.getElem?_toArray, List.getElem?_cons_succ, List.getElem?_cons_zero]; rfl)
      case hq15 => exact fun _ _ _ h => h
      case hw15 => rfl
      case hy15 =>
        intro W hW
        go_simp
        first | done | with_reducible rfl
      case hk15 =>
      try simp only [Act.put, List.setIfInBounds_toArray, List.set_cons_zero, List.set_cons_succ]
      refine anyK_load 4 (oi := ?oo16) ?ho16 (by kernel_rfl) (by kernel_rfl) (by kernel_rfl) (by kernel_rfl) (by kernel_rfl) (by kernel_rfl) ?hq16 ?hw16 hT0 hS0 (v := ?vv16) ?hy16 ?hk16
      case ho16 => (simp only [List.getElem?_toArray, List.getElem?_cons_succ, List.getElem?_cons_zero]; rfl)
      case hq16 => exact fun _ _ _ h => h
      case hw16 => rfl
      case hy16 =>
        intro W hW1 hW
        go_simp
        first | done | with_reducible rfl
      case hk16 =>
      try simp only [Act.put, List.setIfInBounds_toArray, List.set_cons_zero, List.set_cons_succ]
      refine anyK_take 5 (oi := ?oo17) ?ho17 (by kernel_rfl) (by kernel_rfl) (by kernel_rfl) (by kernel_rfl) ?hq17 ?hw17 hT0 (fun _ => hS0) (v := ?vv17) ?hy17 ?hk17
      case ho17 => (simp only [List.getElem?_toArray, List.getElem?_cons_succ, List.getElem?_cons_zero]; rfl)
      case hq17 => exact fun _ _ _ h => h
      case hw17 => rfl
      case hy17 =>
        intro W hW
        go_simp
        first | done | with_reducible rfl
      case hk17 =>
      try simp only [Act.put, List.setIfInBounds_toArray, List.set_cons_zero, List.set_cons_succ]
      refine anyK_take 6 (oi := ?oo18) ?ho18 (by kernel_rfl) (by kernel_rfl) (by kernel_rfl) (by kernel_rfl) ?hq18 ?hw18 hT0 (fun _ => hS0) (v := ?vv18) ?hy18 ?hk18
      case ho18 => (simp only [List.getElem?_toArray, List.getElem?_cons_succ, List.getElem?_cons_zero]; rfl)
      case hq18 => exact fun _ _ _ h => h
      case hw18 => rfl
      case hy18 =>
        intro W hW
        go_simp
        first | done | with_reducible rfl
      case hk18 =>
      try simp only [Act.put, List.setIfInBounds_toArray, List.set_cons_zero, List.set_cons_succ]
      refine anyK_take 7 (oi := ?oo19) ?ho19 (by kernel_rfl) (by kernel_rfl) (by kernel_rfl) (by kernel_rfl) ?hq19 ?hw19 hT0 (fun _ => hS0) (v := ?vv19) ?hy19 ?hk19
      case ho19 => (simp only [List.getElem?_toArray, List.getElem?_cons_succ, List.getElem?_cons_zero]; rfl)
      case hq19 => exact fun _ _ _ h => h
      case hw19 => rfl
      case hy19 =>
        intro W hW
        go_simp
        first | done | with_reducible rfl
      case hk19 =>
      try simp only [Act.put, List.setIfInBounds_toArray, List.set_cons_zero, List.set_cons_succ]
      refine anyK_take 8 (oi := ?oo20) ?ho20 (by kernel_rfl) (by kernel_rfl) (by kernel_rfl) (by kernel_rfl) ?hq20 ?hw20 hT0 (fun _ => hS0) (v := ?vv20) ?hy20 ?hk20
      case ho20 => (simp only [List.getElem?_toArray, List.getElem?_cons_succ, List.getElem?_cons_zero]; rfl)
      case hq20 => exact fun _ _ _ h => h
      case hw20 => rfl
      case hy20 =>
        intro W hW
        go_simp
        first | done | with_reducible rfl
      case hk20 =>
      try simp only [Act.put, List.setIfInBounds_toArray, List.set_cons_zero, List.set_cons_succ]
      refine anyK_take 9 (oi := ?oo21) ?ho21 (by kernel_rfl) (by kernel_rfl) (by kernel_rfl) (by kernel_rfl) ?hq21 ?hw21 hT0 (fun _ => hS0) (v := ?vv21) ?hy21 ?hk21
      case ho21 => (simp only [List.getElem?_toArray, List.getElem?_cons_succ, List.getElem?_cons_zero]; rfl)
      case hq21 => exact fun _ _ _ h => h
      case hw21 => rfl
      case hy21 =>
        intro W hW
        obtain ⟨z0, z1, z2, z3, z4, z5, z6, z7, z8, z9, z10, z11, z12, z13, z14, z15, z16, z17, z18, z19, z20, z21, z22⟩ := hW
        go_simp
        first | done | with_reducible rfl
      case hk21 =>
      try simp only [Act.put, List.setIfInBounds_toArray, List.set_cons_zero, List.set_cons_succ]
      refine anyK_take 10 (oi := ?oo22) ?ho22 (by kernel_rfl) (by kernel_rfl) (by kernel_rfl) (by kernel_rfl) ?hq22 ?hw22 hT0 (fun _ => hS0) (v := ?vv22) ?hy22 ?hk22
      case ho22 => (simp only [List.getElem?_toArray, List.getElem?_cons_succ, List.getElem?_cons_zero]; rfl)
      case hq22 => exact fun _ _ _ h => h
      case hw22 => rfl
      case hy22 =>
        intro W hW
        go_simp
        first | done | with_reducible rfl
      case hk22 =>
      try simp only [Act.put, List.setIfInBounds_toArray, List.set_cons_zero, List.set_cons_succ]
      refine anyK_take 11 (oi := ?oo23) ?ho23 (by kernel_rfl) (by kernel_rfl) (by kernel_rfl) (by kernel_rfl) ?hq23 ?hw23 hT0 (fun _ => hS0) (v := ?vv23) ?hy23 ?hk23
      case ho23 => (simp only [List.getElem?_toArray, List.getElem?_cons_succ, List.getElem?_cons_zero]; rfl)
      case hq23 => exact fun _ _ _ h => h
      case hw23 => rfl
      case hy23 =>
        intro W hW
        go_simp
        first | done | with_reducible rfl
      case hk23 =>
      try simp only [Act.put, List.setIfInBounds_toArray, List.set_cons_zero, List.set_cons_succ]
      refine anyK_take 12 (oi := ?oo24) ?ho24 (by kernel_rfl) (by kernel_rfl) (by kernel_rfl) (by kernel_rfl) ?hq24 ?hw24 hT0 (fun _ => hS0) (v := ?vv24) ?hy24 ?hk24
      case ho24 => (simp only [List.getElem?_toArray, List.getElem?_cons_succ, List.getElem?_cons_zero]; rfl)
      case hq24 => exact fun _ _ _ h => h
      case hw24 => rfl
      case hy24 =>
        intro W hW
        go_simp
        first | done | with_reducible rfl
      case hk24 =>
      try simp only [Act.put, List.setIfInBounds_toArray, List.set_cons_zero, List.set_cons_succ]
      refine anyK_take 13 (oi := ?oo25) ?ho25 (by kernel_rfl) (by kernel_rfl) (by kernel_rfl) (by kernel_rfl) ?hq25 ?hw25 hT0 (fun _ => hS0) (v := ?vv25) ?hy25 ?hk25
      case ho25 => (simp only [List.getElem?_toArray, List.getElem?_cons_succ, List.getElem?_cons_zero]; rfl)
      case hq25 => exact fun _ _ _ h => h
      case hw25 => rfl
      case hy25 =>
        intro W hW
        obtain ⟨z0, z1, z2, z3, z4, z5, z6, z7, z8, z9, z10, z11, z12, z13, z14, z15, z16, z17, z18, z19, z20, z21, z22⟩ := hW
        go_simp
        first | done | with_reducible rfl
      case hk25 =>
      try simp only [Act.put, List.setIfInBounds_toArray, List.set_cons_zero, List.set_cons_succ]
      refine anyK_take 14 (oi := ?oo26) ?ho26 (by kernel_rfl) (by kernel_rfl) (by kernel_rfl) (by kernel_rfl) ?hq26 ?hw26 hT0 (fun _ => hS0) (v := ?vv26) ?hy26 ?hk26
      case ho26 => (simp only [List.getElem?_toArray, List.getElem?_cons_succ, List.getElem?_cons_zero]; rfl)
      case hq26 => exact fun _ _ _ h => h
      case hw26 => rfl
      case hy26 =>
        intro W hW
        obtain ⟨z0, z1, z2, z3, z4, z5, z6, z7, z8, z9, z10, z11, z12, z13, z14, z15, z16, z17, z18, z19, z20, z21, z22⟩ := hW
        go_simp
        first | done | with_reducible rfl
      case hk26 =>
      try simp only [Act.put, List.setIfInBounds_toArray, List.set_cons_zero, List.set_cons_succ]
      refine anyK_on1 15 (by kernel_rfl) ?_
      refine anyK_one 15 (o := ?oo27) ?ho27 ?hk27
      case ho27 => (simp only [List.getElem?_toArray, List.getElem?_cons_succ, List.getElem?_cons_zero]; rfl)
      case hk27 =>
      intro K hK
      go_simp
      refine (HMK2.out _ _ _ (HR.out.ext (ext_trans X05.out zz)) ((H25.out.at_ X05.out).ext zz)).mono ?_
      rintro e we ⟨v9, rfl, own9, xx⟩
      try go_wp2_with fail
      replace yy := (⟨_, K5.out.ext (ext_trans zz xx), BX5.out.ext (ext_trans zz xx), KM5.out.ext (ext_trans zz xx)⟩ : (fun W => ∃ lv, Blk W B 104 #[.slice cA P.cells.length cc, .slice aA P.hand0.length ac, .slice bA P.hand1.length bc, .int .i64 P.turn, .int .i64 P.quiet, .int .i64 x, .int .i64 y, .bool true, lv] ∧ Blk W BX 140 #[.string R.name, .int .i64 R.width, .int .i64 R.height, .slice pA R.pieces.length pc, .slice sA R.start.length sc, .bool R.falls, .bool R.keeps, .slice eA R.ends.length ec, .int .i64 R.blocked, .int .i64 R.quiet, .int .i64 R.rept, .int .i64 a] ∧ Blk W BM 37 #[.int .i64 mv.src, .int .i64 mv.dst, .int .i64 mv.piece]) we)
      have hp9 := own9.toI
      have HP9 := hide hp9
      obtain ⟨g0, d0, g1, d1, g2, d2, rfl, -⟩ := hp9
      clear own9
      replace zz := ext_trans zz xx
      replace ss := K5.out.ext zz
      have hT1 := keepK.out _ yy
      have hS1 := ss.cell 8
      refine hK.out _ _ hT1 (fun _ => hS1) ?_
      clear hK K
      try simp only [Act.put, List.setIfInBounds_toArray, List.set_cons_zero, List.set_cons_succ]
      refine anyK_on1 16 (by kernel_rfl) ?_
      refine anyK_one 16 (o := ?oo28) ?ho28 ?hk28
      case ho28 => (simp only [List.getElem?_toArray, List.getElem?_cons_succ, List.getElem?_cons_zero]; rfl)
      case hk28 =>
      intro K hK
      go_simp
      refine (HLF2.out _ _ _ _ _ _ _ (ext_trans X05.out zz) ⟨_, _, _, _, _, _, BX5.out.ext zz, HR.out⟩ HP9.out).mono ?_
      rintro e wf ⟨bn, e0, e1, e2, e3, e4, rfl, hbn, hkn, hpn, xx⟩
      try go_wp2_with fail
      replace yy := (⟨_, K5.out.ext (ext_trans zz xx), BX5.out.ext (ext_trans zz xx), KM5.out.ext (ext_trans zz xx)⟩ : (fun W => ∃ lv, Blk W B 104 #[.slice cA P.cells.length cc, .slice aA P.hand0.length ac, .slice bA P.hand1.length bc, .int .i64 P.turn, .int .i64 P.quiet, .int .i64 x, .int .i64 y, .bool true, lv] ∧ Blk W BX 140 #[.string R.name, .int .i64 R.width, .int .i64 R.height, .slice pA R.pieces.length pc, .slice sA R.start.length sc, .bool R.falls, .bool R.keeps, .slice eA R.ends.length ec, .int .i64 R.blocked, .int .i64 R.quiet, .int .i64 R.rept, .int .i64 a] ∧ Blk W BM 37 #[.int .i64 mv.src, .int .i64 mv.dst, .int .i64 mv.piece]) wf)
      have HBN := hide hbn
      have HLN9 : Hid (LeafAt wf bn (leafN R a (makeM R P mv))) := hide ⟨e0, e1, e2, e3, e4, by rw [leafN_ex] ; exact hkn, by rw [leafN_pos]; exact hpn⟩
      clear hbn hkn hpn
      have HZW := hide zz.size
      replace zz := ext_trans zz xx
      replace ss := K5.out.ext zz
      have hT2 := keepK.out _ yy
      have hS2 := ss.cell 8
      refine hK.out _ _ hT2 (fun _ => hS2) ?_
      clear hK K
      try simp only [Act.put, List.setIfInBounds_toArray, List.set_cons_zero, List.set_cons_succ]
      refine anyK_on1 17 (by kernel_rfl) ?_
      refine anyK_one 17 (o := ?oo29) ?ho29 ?hk29
      case ho29 => (simp only [List.getElem?_toArray, List.getElem?_cons_succ, List.getElem?_cons_zero]; rfl)
      case hk29 =>
      intro K hK
      go_simp
      replace yy := (⟨_, K5.out.ext (ext_alloc zz _), BX5.out.ext (ext_alloc zz _), KM5.out.ext (ext_alloc zz _)⟩ : (fun W => ∃ lv, Blk W B 104 #[.slice cA P.cells.length cc, .slice aA P.hand0.length ac, .slice bA P.hand1.length bc, .int .i64 P.turn, .int .i64 P.quiet, .int .i64 x, .int .i64 y, .bool true, lv] ∧ Blk W BX 140 #[.string R.name, .int .i64 R.width, .int .i64 R.height, .slice pA R.pieces.length pc, .slice sA R.start.length sc, .bool R.falls, .bool R.keeps, .slice eA R.ends.length ec, .int .i64 R.blocked, .int .i64 R.quiet, .int .i64 R.rept, .int .i64 a] ∧ Blk W BM 37 #[.int .i64 mv.src, .int .i64 mv.dst, .int .i64 mv.piece]) (wf.alloc (.cells #[.pointer (some ⟨bn, 0, none⟩)] 98)))
      replace ss := K5.out.ext (ext_alloc zz (.cells #[.pointer (some ⟨bn, 0, none⟩)] 98))
      have hT3 := keepK.out _ yy
      have hS3 := ss.cell 8
      refine hK.out _ _ hT3 (fun _ => hS3) ?_
      clear hK K
      try simp only [Act.put, List.setIfInBounds_toArray, List.set_cons_zero, List.set_cons_succ]
      refine anyK_on1 18 (by kernel_rfl) ?_
      refine anyK_one 18 (o := ?oo30) ?ho30 ?hk30
      case ho30 => (simp only [List.getElem?_toArray, List.getElem?_cons_succ, List.getElem?_cons_zero]; rfl)
      case hk30 =>
      intro K hK
      refine ite_yes' rfl ?_
      refine oper_append_node (.tmp 37) (.tmp 50) rfl wl.heap.size wf A k c (bs.map ptrV) bn rfl (own_ext O5.out zz) rfl (by have := HG5.out.size; have := zz.size; omega) (by omega) ?_
      intro A9 c9 w9 own9 g9 f9
      have HNB : Hid (some B ≠ (Value.slice A k c).ownBlock) := hide (own_blk_ne (own_ext O5.out zz) (K5.out.ext zz) (by decide)).symm
      have HNX : Hid (some BX ≠ (Value.slice A k c).ownBlock) := hide (own_blk_ne (own_ext O5.out zz) (BX5.out.ext zz) (by decide)).symm
      have HNM : Hid (some BM ≠ (Value.slice A k c).ownBlock) := hide (own_blk_ne (own_ext O5.out zz) (KM5.out.ext zz) (by decide)).symm
      replace yy := (⟨_, (K5.out.ext zz).grown g9 HNB.out, (BX5.out.ext zz).grown g9 HNX.out, (KM5.out.ext zz).grown g9 HNM.out⟩ : (fun W => ∃ lv, Blk W B 104 #[.slice cA P.cells.length cc, .slice aA P.hand0.length ac, .slice bA P.hand1.length bc, .int .i64 P.turn, .int .i64 P.quiet, .int .i64 x, .int .i64 y, .bool true, lv] ∧ Blk W BX 140 #[.string R.name, .int .i64 R.width, .int .i64 R.height, .slice pA R.pieces.length pc, .slice sA R.start.length sc, .bool R.falls, .bool R.keeps, .slice eA R.ends.length ec, .int .i64 R.blocked, .int .i64 R.quiet, .int .i64 R.rept, .int .i64 a] ∧ Blk W BM 37 #[.int .i64 mv.src, .int .i64 mv.dst, .int .i64 mv.piece]) w9)
      replace ss := (K5.out.ext zz).grown g9 HNB.out
      have OWN9 := hide own9
      have GR9 := hide ((HG5.out.ext zz).own g9 (own_row O5.out))
      have HL9 := hide (fun (i : Nat) (mv : MoveM) (b : Nat) (h1 : L[i]? = some mv) (h2 : bs[i]? = some b) => (⟨(HL5.out i mv b h1 h2).1, ((HL5.out i mv b h1 h2).2.ext zz).tfr f9⟩ : wl.heap.size ≤ b ∧ LeafAt w9 b (leafN R a (makeM R P mv))))
      have HN9 := hide (HLN9.out.tfr f9)
      have HNE := hide (fun (i b : Nat) (h : bs[i]? = some b) (hi : i < L.length) => (by
        obtain ⟨mv', hmv'⟩ : ∃ mv', L[i]? = some mv' := ⟨L[i], List.getElem?_eq_getElem hi⟩
        have h9 := (HL5.out i mv' b hmv' h).2.lt
        have := HBN.out
        have := HZW.out
        rintro rfl
        omega : b ≠ bn))
      clear own9 g9 f9 HNB HNX HNM
      have hT4 := keepK.out _ yy
      have hS4 := ss.cell 8
      refine hK.out _ _ hT4 (fun _ => hS4) ?_
      clear hK K
      try simp only [Act.put, List.setIfInBounds_toArray, List.set_cons_zero, List.set_cons_succ]
      refine anyK_take 19 (oi := ?oo31) ?ho31 (by kernel_rfl) (by kernel_rfl) (by kernel_rfl) (by kernel_rfl) ?hq31 ?hw31 hT4 (fun _ => hS4) (v := ?vv31) ?hy31 ?hk31
      case ho31 => (simp only [List.getElem?_toArray, List.getElem?_cons_succ, List.getElem?_cons_zero]; rfl)
      case hq31 => exact fun _ _ _ h => h
      case hw31 => rfl
      case hy31 =>
        intro W hW
        go_simp
        first | done | with_reducible rfl
      case hk31 =>
      try simp only [Act.put, List.setIfInBounds_toArray, List.set_cons_zero, List.set_cons_succ]
      refine anyK_take 20 (oi := ?oo32) ?ho32 (by kernel_rfl) (by kernel_rfl) (by kernel_rfl) (by kernel_rfl) ?hq32 ?hw32 hT4 (fun _ => hS4) (v := ?vv32) ?hy32 ?hk32
      case ho32 => (simp only [List.getElem?_toArray, List.getElem?_cons_succ, List.getElem?_cons_zero]; rfl)
      case hq32 => exact fun _ _ _ h => h
      case hw32 => rfl
      case hy32 =>
        intro W hW
        go_simp
        first | done | with_reducible rfl
      case hk32 =>
      try simp only [Act.put, List.setIfInBounds_toArray, List.set_cons_zero, List.set_cons_succ]
      refine anyK_on1 21 (by kernel_rfl) ?_
      refine anyK_one 21 (o := ?oo33) ?ho33 ?hk33
      case ho33 => (simp only [List.getElem?_toArray, List.getElem?_cons_succ, List.getElem?_cons_zero]; rfl)
      case hk33 =>
      intro K hK
      have q5 := ss.cell
      have z5 := ss.frozen
      have BX9 : Hid (Blk w9 BX 140 #[.string R.name, .int .i64 R.width, .int .i64 R.height, .slice pA R.pieces.length pc, .slice sA R.start.length sc, .bool R.falls, .bool R.keeps, .slice eA R.ends.length ec, .int .i64 R.blocked, .int .i64 R.quiet, .int .i64 R.rept, .int .i64 a]) := hide (match yy with | ⟨_, _, hb, _⟩ => hb)
      have KM9 : Hid (Blk w9 BM 37 #[.int .i64 mv.src, .int .i64 mv.dst, .int .i64 mv.piece]) := hide (match yy with | ⟨_, _, _, hm⟩ => hm)
      have k10 := blk_put (i := 8) (u := .slice A9 (k + 1) c9) ss (cs' := #[.slice cA P.cells.length cc, .slice aA P.hand0.length ac, .slice bA P.hand1.length bc, .int .i64 P.turn, .int .i64 P.quiet, .int .i64 x, .int .i64 y, .bool true, .slice A9 (k + 1) c9]) rfl
      have HXB := hide (blk_ne BX9.out ss (by decide))
      have HMB := hide (blk_ne KM9.out ss (by decide))
      replace yy := (⟨.slice A9 (k + 1) c9, k10, BX9.out.far (p := ⟨B, 8, none⟩) HXB.out (.slice A9 (k + 1) c9), KM9.out.far (p := ⟨B, 8, none⟩) HMB.out (.slice A9 (k + 1) c9)⟩ : (fun W => ∃ lv, Blk W B 104 #[.slice cA P.cells.length cc, .slice aA P.hand0.length ac, .slice bA P.hand1.length bc, .int .i64 P.turn, .int .i64 P.quiet, .int .i64 x, .int .i64 y, .bool true, lv] ∧ Blk W BX 140 #[.string R.name, .int .i64 R.width, .int .i64 R.height, .slice pA R.pieces.length pc, .slice sA R.start.length sc, .bool R.falls, .bool R.keeps, .slice eA R.ends.length ec, .int .i64 R.blocked, .int .i64 R.quiet, .int .i64 R.rept, .int .i64 a] ∧ Blk W BM 37 #[.int .i64 mv.src, .int .i64 mv.dst, .int .i64 mv.piece]) (w9.setCell ⟨B, 8, none⟩ (.slice A9 (k + 1) c9)))
      have TF := hide (TFr.set (ts := [104]) ss (List.mem_singleton.2 rfl) 8 (.slice A9 (k + 1) c9))
      have K10 := hide k10
      have G10 := hide (GR9.out.set 8 (.slice A9 (k + 1) c9))
      have OWN10 := hide (own_tfr OWN9.out (by decide) TF.out)
      have HN10 := hide (HN9.out.far8 (by have := HBN.out; have := HZW.out; have := HG5.out.size; have := HBL.out; omega) TF.out (.slice A9 (k + 1) c9))
      have HL10 := hide (fun (i : Nat) (mv : MoveM) (b : Nat) (h1 : L[i]? = some mv) (h2 : bs[i]? = some b) => (⟨(HL9.out i mv b h1 h2).1, (HL9.out i mv b h1 h2).2.far8 (by have := (HL9.out i mv b h1 h2).1; have := HBL.out; omega) TF.out (.slice A9 (k + 1) c9)⟩ : wl.heap.size ≤ b ∧ LeafAt _ b (leafN R a (makeM R P mv))))
      clear k10
      go_simp
      have hT5 := keepK.out _ yy
      refine hK.out _ _ hT5 (fun h => by cases h) ?_
      clear hK K
      try simp only [Act.put, List.setIfInBounds_toArray, List.set_cons_zero, List.set_cons_succ]
      refine anyK_done (by kernel_rfl) ?_ _
      clear keepK hT0 hT1 hT2 hT3 hT4 hT5
      try clear keepS hS0 hS1 hS2 hS3 hS4
      have HG9 := hide (show wl.heap.size ≤ bn by have := HBN.out; have := HZW.out; have := HG5.out.size; omega)
      clear zz yy ss q5 z5 TF K5 BX5 KM5 O5 HL5 X05 H25 HG5 OWN9 GR9 HL9 HN9 BX9 KM9 HXB HMB HMK2 HLF2 HP9 HLN9
      generalize w9.setCell ⟨B, 8, none⟩ (.slice A9 (k + 1) c9) = w10 at *
      go_wp2
      go_roundw
      case rel =>
        refine ⟨k + 1, A9, c9, bs ++ [bn], by omega, by go_num, K10.out, by rw [List.map_append]; exact OWN10.out, hide (fun h => by omega), hide (by simp [hbl.out]), hide ?_, hide ?_, G10.out⟩
        · intro i mv' b h1 h2
          by_cases hi : i < bs.length
          · rw [List.getElem?_append_left hi] at h2
            exact HL10.out i mv' b h1 h2
          · rw [List.getElem?_append_right (by omega)] at h2
            have hi2 : i - bs.length = 0 := by
              by_cases h0 : i - bs.length = 0
              · exact h0
              · rw [List.getElem?_eq_none (by simp; omega)] at h2; cases h2
            rw [hi2] at h2
            simp only [List.getElem?_cons_zero, Option.some.injEq] at h2
            subst h2
            have hik : i = k := by have := hbl.out; omega
            subst hik
            rw [HMV.out] at h1
            cases h1
            exact ⟨HG9.out, HN10.out⟩
        · intro i j b h1 h2
          have hbk := hbl.out
          have hend : ∀ q, (bs ++ [bn])[q]? = some b → (q < k ∧ bs[q]? = some b) ∨ (q = k ∧ b = bn) := fun q h => by
            by_cases hi : q < bs.length
            · rw [List.getElem?_append_left hi] at h
              exact .inl ⟨by omega, h⟩
            · rw [List.getElem?_append_right (by omega)] at h
              have hi2 : q - bs.length = 0 := by
                by_cases h0 : q - bs.length = 0
                · exact h0
                · rw [List.getElem?_eq_none (by simp; omega)] at h; cases h
              rw [hi2] at h
              simp only [List.getElem?_cons_zero, Option.some.injEq] at h
              exact .inr ⟨by omega, h.symm⟩
          rcases hend i h1 with ⟨a1, a2⟩ | ⟨a1, a2⟩ <;> rcases hend j h2 with ⟨b1, b2⟩ | ⟨b1, b2⟩
          · exact hND.out i j b a2 b2
          · exact absurd b2 (HNE.out i b a2 (by omega))
          · exact absurd a2 (HNE.out j b b2 (by omega))
          · omega
      case measure => simp [intOf]; omega
    · obtain rfl : k = L.length := by omega
      have hkl : ks.length = L.length := by rw [HLN.out, List.length_map]
      have HKI := hide (fun (i : Nat) (q : NT) (b : Nat) (h1 : ks[i]? = some q) (h2 : bs[i]? = some b) => (by
        rw [HLN.out, List.getElem?_map] at h1
        cases hm : L[i]? with
        | none => rw [hm] at h1; simp at h1
        | some mv =>
          rw [hm] at h1
          simp only [Option.map_some, Option.some.injEq] at h1
          exact ⟨mv, rfl, h1.symm, (hLF.out i mv b hm h2).1, (hLF.out i mv b hm h2).2⟩ : ∃ mv, L[i]? = some mv ∧ q = leafN R a (makeM R P mv) ∧ wl.heap.size ≤ b ∧ LeafAt wr b (leafN R a (makeM R P mv))))
      have HNU := hide (fun (i : Nat) (q : NT) (b : Nat) (h1 : ks[i]? = some q) (h2 : bs[i]? = some b) => (by
        obtain ⟨mv, hm, rfl, -, hl⟩ := HKI.out i q b h1 h2
        have ht := HTR.out mv (List.mem_of_getElem? hm)
        exact ⟨hl.nums.1, hl.nums.2, ht.l0, ht.l1, ht.s0, ht.s1⟩ : wr.cell? ⟨b, 5, none⟩ = some (.int .i64 q.a) ∧ wr.cell? ⟨b, 6, none⟩ = some (.int .i64 q.b) ∧ 0 ≤ q.a ∧ q.a ≤ never ∧ 0 ≤ q.b ∧ q.b ≤ never))
      rw [← hkl] at KK OO hbl hN
      have HUP := hide (update_any (a := a) (P := P) KK.out (BXR.out.cell 11) (own_cells OO.out).1 hbl.out (by omega) HNU.out)
      clear HNU HLF HMK
      go_wp2_with fail
      refine HUP.out.mono ?_
      rintro e w9 ⟨rfl, hK9, hG9⟩
      have K9 := hide hK9
      have G9 := hide hG9
      clear hK9 hG9 HUP
      go_wp2
      go_end0
      refine ⟨rfl, ?_⟩
      rw [HE.out]
      exact leaves_tree hkl.symm K9.out H2R.out OO.out hN.out hbl.out HKI.out hND.out G9.out GG.out GL.out KL.out X0.out X0L.out H5.out H10.out (Gr.to_ext G9.out X0R.out H5.out) H1.out KK.out

end Go.Proofs.Ytnaggpibfmednaa
namespace Go.Proofs.Ytnaggpibfmednaa
open Go.ChangeShapes Go.WideShapes Go.ChangeAt Go.RowKit Go.Shelf
set_option linter.unusedVariables false
set_option linter.unusedSimpArgs false
theorem expand_any {w0 : World} {BX : Nat} {R : RulesM} {a : Int} (hV : Valid R) (ha : a = 0 ∨ a = 1) : ∀ (n m : Nat) (w : World) (B : Nat) (t : NT) (S : Nat → Prop), n ≤ m → Ext w0 w → ProverAt w0 w BX R a → TreeP w0 n w B t S → PInv R a t → OpenN t → t.sz + 1000000 < never →
    Calls Try.prog 67 #[.pointer (some ⟨BX, 0, none⟩), .pointer (some ⟨B, 0, none⟩)] w (ExpPost w0 w B n S (expandN R a m t)) := by
  intro n
  induction n with
  | zero => intro m w B t S _ _ _ h; exact h.elim
  | succ n ih =>
    intro m w B t S hm x0 hX hT hI hO hs
    obtain ⟨m, rfl⟩ : ∃ k, m = k + 1 := ⟨m - 1, by omega⟩
    cases t with
    | node P x y ex ks =>
      cases ex
      · obtain ⟨hr, hk⟩ := leaf_open hI rfl hO
        replace hk : ks = [] := hk
        subst hk
        have hS : Sound R P := hI.sound
        exact expand_one hV ha x0 hX hT hS (by have := listM_len hV hS; unfold never; omega)
      · exact expand_two hV ha x0 hX hT hI hO hs (fun W b k T x hX hT hI hO hs => ⟨ih m W b k T (by omega) x hX hT hI hO hs, PInv.expand hV m k (hT.deep.mono (by omega)) hI hO (by omega)⟩)
set_option maxHeartbeats 2000000 in
set_option maxRecDepth 100000 in
theorem prove_no (R : RulesM) (P : PosM) (v u : Value) (D : Int) (w : World) (hR : RulesAt w v R) (hP : PosAt w u P) (h : provE R P D ≠ 0) :
    Calls Try.prog 37 #[v, u, .int .i64 D] w fun e w' => e = .returned (.tuple #[.pointer none, .int .i64 0, .int .i64 (provE R P D)]) ∧ Ext w w' := by
  have HC := hide (fun W (hW : Ext w W) => PCheck_any R P v u W (hR.ext hW) (hP.ext hW))
  have HE := hide (show provE R P D = if checkE R P ≠ 0 then checkE R P else if D < 0 ∨ 5000 < D then 1 else 0 from rfl)
  obtain ⟨pA, pc, sA, sc, eA, ec, rfl, -⟩ := hR
  obtain ⟨cA, cc, aA, ac, bA, bc, rfl, -⟩ := hP
  obtain ⟨x1, k1, k2⟩ := blks2 w #[.string R.name, .int .i64 R.width, .int .i64 R.height, .slice pA R.pieces.length pc, .slice sA R.start.length sc, .bool R.falls, .bool R.keeps, .slice eA R.ends.length ec, .int .i64 R.blocked, .int .i64 R.quiet, .int .i64 R.rept] 26 #[.slice cA P.cells.length cc, .slice aA P.hand0.length ac, .slice bA P.hand1.length bc, .int .i64 P.turn, .int .i64 P.quiet] 29
  have HX := hide x1
  have f1 := k1.cell
  have f2 := k2.cell
  have HNE := hide h
  clear x1 k1 k2 h
  generalize provE R P D = F at *
  generalize checkE R P = E at *
  by_cases hE : E = 0
  · subst hE
    by_cases hd : D < 0
    · obtain rfl : F = 1 := by rw [HE.out, if_neg (by decide), if_pos (.inl hd)]
      have t0 : decide (D < 0) = true := by simpa using hd
      clear hd HE HNE
      go_enter Try.func37, Try.ntmps37
      go_wp2_with fail
      refine (HC.out _ HX.out).mono ?_
      rintro e w2 ⟨rfl, x2⟩
      have X2 := hide (ext_trans HX.out x2)
      clear f1 f2 x2 HX HC
      go_wp2
      go_ret3
      exact ⟨rfl, X2.out⟩
    · have t0 : decide (D < 0) = false := by simpa using hd
      have hd2 : 5000 < D := by
        by_cases h : 5000 < D
        · exact h
        · exact absurd (by rw [HE.out, if_neg (by decide), if_neg (by omega)]) HNE.out
      obtain rfl : F = 1 := by rw [HE.out, if_neg (by decide), if_pos (.inr hd2)]
      have t1 : decide (5000 < D) = true := by simpa using hd2
      clear hd hd2 HE HNE
      go_enter Try.func37, Try.ntmps37
      go_wp2_with fail
      refine (HC.out _ HX.out).mono ?_
      rintro e w2 ⟨rfl, x2⟩
      have X2 := hide (ext_trans HX.out x2)
      clear f1 f2 x2 HX HC
      go_wp2
      go_ret3
      exact ⟨rfl, X2.out⟩
  · obtain rfl : F = E := by rw [HE.out, if_pos hE]
    have t0 : (F != 0) = true := by simpa using hE
    clear hE HE HNE
    go_enter Try.func37, Try.ntmps37
    go_wp2_with fail
    refine (HC.out _ HX.out).mono ?_
    rintro e w2 ⟨rfl, x2⟩
    have X2 := hide (ext_trans HX.out x2)
    clear f1 f2 x2 HX HC
    go_wp2
    go_ret3
    exact ⟨rfl, X2.out⟩
def ProvePost (R : RulesM) (P : PosM) (D : Int) (w : World) (e : Ending) (w' : World) : Prop :=
  ∃ B S n, e = .returned (.tuple #[.pointer (some ⟨B, 0, none⟩), .int .i64 ((provT R P D).2 : Int), .int .i64 0]) ∧ TreeP w n w' B (provT R P D).1 S ∧ Ext w w'
set_option maxHeartbeats 4000000 in
set_option maxRecDepth 100000 in
theorem prove_yes (R : RulesM) (P : PosM) (v u : Value) (D : Int) (w : World) (hR : RulesAt w v R) (hP : PosAt w u P) (h : provE R P D = 0) :
    Calls Try.prog 37 #[v, u, .int .i64 D] w (ProvePost R P D w) := by
  obtain ⟨hc, d0, d1⟩ := provE_zero h
  obtain ⟨hV, hS⟩ := check_iff.1 hc
  have HC := hide (fun W (hW : Ext w W) => PCheck_any R P v u W (hR.ext hW) (hP.ext hW))
  rw [hc] at HC
  obtain ⟨f0, f1, f2, f3, f4, f5⟩ := fit_of (R := R) (ps := [P]) hV (fun Q hQ => by rw [List.mem_singleton.1 hQ]; exact hS) P (by simp)
  have HPC := hide (fun W (hW : Ext w W) => PCopy_any P u W (hP.ext hW) f0 f1 f2 f3 f4 f5)
  have HT := hide hS.turn
  have HVS := hide (And.intro hV hS)
  have HLF := hide (fun (W : World) (BX g0 g1 g2 d0 d1 d2 : Nat) (x : Ext w W) (hX : ProverAt w W BX R P.turn) (hP : PosI W (.agg #[.slice (some ⟨g0, 0, none⟩) P.cells.length d0, .slice (some ⟨g1, 0, none⟩) P.hand0.length d1, .slice (some ⟨g2, 0, none⟩) P.hand1.length d2, .int .i64 P.turn, .int .i64 P.quiet]) P) => leaf_any x hX hV hP hS hS.turn)
  have HEX := hide (fun (n : Nat) (W : World) (BX B : Nat) (t : NT) (S : Nat → Prop) (hn : n ≤ 6000) (x : Ext w W) (hX : ProverAt w W BX R P.turn) (hT : TreeP w n W B t S) (hI : PInv R P.turn t) (hO : OpenN t) (hs : t.sz + 1000000 < never) => expand_any hV hS.turn n 6000 W B t S hn x hX hT hI hO hs)
  have HRR := hide hR
  obtain ⟨b, hb⟩ := Int.eq_ofNat_of_zero_le d0
  have hb' : D = (b : Int) := hb
  subst hb'
  have HPT := hide (show provT R P (b : Int) = provN R P.turn b (leafN R P.turn P) from rfl)
  unfold ProvePost
  generalize provT R P (b : Int) = T at *
  obtain ⟨pA, pc, sA, sc, eA, ec, rfl, -⟩ := hR
  obtain ⟨cA, cc, aA, ac, bA, bc, rfl, -⟩ := hP
  obtain ⟨x1, k1, k2⟩ := blks2 w #[.string R.name, .int .i64 R.width, .int .i64 R.height, .slice pA R.pieces.length pc, .slice sA R.start.length sc, .bool R.falls, .bool R.keeps, .slice eA R.ends.length ec, .int .i64 R.blocked, .int .i64 R.quiet, .int .i64 R.rept] 26 #[.slice cA P.cells.length cc, .slice aA P.hand0.length ac, .slice bA P.hand1.length bc, .int .i64 P.turn, .int .i64 P.quiet] 29
  have HX1 := hide x1
  have K1 := hide k1
  have K2 := hide k2
  have g1 := k1.cell
  have g2 := k2.cell
  have hb5 : b ≤ 5000 := by omega
  have t0 : decide ((b : Int) < 0) = false := decide_eq_false (by omega)
  have t1 : decide ((5000 : Int) < (b : Int)) = false := decide_eq_false (by omega)
  clear x1 k1 k2 hV hS f0 f1 f2 f3 f4 f5 h hc d0 d1 hb
  go_enter Try.func37, Try.ntmps37
  go_wp2_with fail
  refine (HC.out _ HX1.out).mono ?_
  rintro e w4 ⟨rfl, x2⟩
  have KR := hide (K1.out.ext x2)
  have KP := hide (K2.out.ext x2)
  have X4 := hide (ext_trans HX1.out x2)
  clear g1 g2 x2 HX1 HC K1 K2
  have g1 := KR.out.cell
  have g2 := KP.out.cell
  go_upto_region 7 with fail
  obtain ⟨x5, k5⟩ := blks1 w4 #[.string R.name, .int .i64 R.width, .int .i64 R.height, .slice pA R.pieces.length pc, .slice sA R.start.length sc, .bool R.falls, .bool R.keeps, .slice eA R.ends.length ec, .int .i64 R.blocked, .int .i64 R.quiet, .int .i64 R.rept, .int .i64 P.turn] 140
  have X5 := hide (ext_trans X4.out x5)
  have KP5 := hide (KP.out.ext x5)
  have HPX : Hid (ProverAt w (w4.alloc (.cells #[.string R.name, .int .i64 R.width, .int .i64 R.height, .slice pA R.pieces.length pc, .slice sA R.start.length sc, .bool R.falls, .bool R.keeps, .slice eA R.ends.length ec, .int .i64 R.blocked, .int .i64 R.quiet, .int .i64 R.rept, .int .i64 P.turn] 140)) w4.heap.size R P.turn) := hide ⟨_, _, _, _, _, _, k5, HRR.out⟩
  clear g1 g2 x5 k5 X4 KP KR t0 t1
  generalize w4.alloc (.cells #[.string R.name, .int .i64 R.width, .int .i64 R.height, .slice pA R.pieces.length pc, .slice sA R.start.length sc, .bool R.falls, .bool R.keeps, .slice eA R.ends.length ec, .int .i64 R.blocked, .int .i64 R.quiet, .int .i64 R.rept, .int .i64 P.turn] 140) = w5 at *
  generalize w4.heap.size = BX at *
  have g2 := KP5.out.cell
  go_wp2_with fail
  refine (HPC.out _ X5.out).mono ?_
  rintro e w6 ⟨v6, rfl, own6, x6⟩
  have HP6 := hide own6.toI
  have hp := own6.toI
  obtain ⟨g0, e0, g1, e1, g2', e2, rfl, -⟩ := hp
  have X6 := hide (ext_trans X5.out x6)
  have HX6 := hide (HPX.out.ext x6)
  clear own6 x6 g2 KP5 X5 HPX HPC
  go_wp2_with fail
  refine (HLF.out _ _ _ _ _ _ _ _ X6.out HX6.out HP6.out).mono ?_
  rintro e w7 ⟨B, c0, c1, c2, c3, c4, rfl, hB, hK, hp, x7⟩
  have hT7 : TreeP w 1 w7 B (leafN R P.turn P) (fun q => q = B) := LeafAt.tree (n := 0) ⟨c0, c1, c2, c3, c4, by rw [leafN_ex]; exact hK, by rw [leafN_pos]; exact hp⟩ (leafN_kids _ _ _) (by have := X6.out.size; omega) (fun q => Iff.rfl)
  have HT7 := hide hT7
  have X7 := hide (ext_trans X6.out x7)
  have HX7 := hide (HX6.out.ext x7)
  clear hB hK hp x7 hT7 HP6 X6 HX6 HLF
  go_wp2
  go_loopw [12] (fun c wr => ∃ (k : Nat) (S : Nat → Prop), k ≤ b ∧ c = .int .i64 k ∧ TreeP w (k + 1) wr B (itN R P.turn k (leafN R P.turn P)) S ∧ Hid (∀ j, j < k → OpenN (itN R P.turn j (leafN R P.turn P))) ∧ ProverAt w wr BX R P.turn ∧ Ext w wr) (fun c _ => b - (intOf c).toNat)
  case atStart => exact ⟨0, _, Nat.zero_le _, rfl, HT7.out, hide (fun j h => by omega), HX7.out, X7.out⟩
  case round =>
    obtain ⟨k, S, hk, rfl, hT, hO, hX, hx⟩ := hrel
    have HTr := hide hT
    have HXr := hide hX
    have XR := hide hx
    obtain ⟨n5, n6⟩ := hT.nums
    obtain ⟨i1, i2, i3⟩ := it_inv HVS.out.1 HVS.out.2 k (by omega) hO.out
    have HI := hide (And.intro i1 i2)
    have HIT := hide (show itN R P.turn (k + 1) (leafN R P.turn P) = expandN R P.turn 6000 (itN R P.turn k (leafN R P.turn P)) from rfl)
    have HPI := hide (fun (hc : k = b ∨ ¬ OpenN (itN R P.turn k (leafN R P.turn P))) => prov_it R P.turn b k (leafN R P.turn P) hO.out hk hc)
    have HKT0 : ∃ t, Hid (itN R P.turn k (leafN R P.turn P) = t) := ⟨_, rfl⟩
    obtain ⟨t, HKT⟩ := HKT0
    rw [HKT.out] at n5 n6 HI HIT HPI HTr
    clear hT hX hx i1 i2 i3
    by_cases ha : t.a = 0
    · have HF := hide (HPI.out (.inr (fun h => h.1 ha)))
      rw [ha] at n5
      clear ha HPI HIT
      go_wp2
      go_ret3
      exact ⟨B, S, k + 1, by rw [HPT.out, HF.out]; rfl, by rw [HPT.out, HF.out]; exact HTr.out, XR.out⟩
    · have t2 : (t.a != 0) = true := by simpa using ha
      by_cases hb0 : t.b = 0
      · have HF := hide (HPI.out (.inr (fun h => h.2 hb0)))
        rw [hb0] at n6
        clear ha hb0 HPI HIT
        go_wp2
        go_ret3
        exact ⟨B, S, k + 1, by rw [HPT.out, HF.out]; rfl, by rw [HPT.out, HF.out]; exact HTr.out, XR.out⟩
      · have t3 : (t.b != 0) = true := by simpa using hb0
        by_cases hlt : k < b
        · have t4 : decide ((k : Int) < (b : Int)) = true := by simpa using hlt
          have HOP : Hid (OpenN t) := hide ⟨ha, hb0⟩
          have HEX2 := hide (HEX.out (k + 1) _ BX B t S (by omega) XR.out HXr.out HTr.out HI.out.1 HOP.out (by have := HI.out.2; unfold never; omega))
          clear ha hb0 HPI HEX
          generalize t.a = ta at *
          generalize t.b = tb at *
          go_wp2_with fail
          refine HEX2.out.mono ?_
          rintro e w9 ⟨rfl, S', hT9, -, hM9, hx9⟩
          have HT9 := hide hT9
          have HX9 := hide (HXr.out.mfr hM9)
          have X9 := hide hx9
          clear hT9 hM9 hx9 HEX2
          go_wp2
          go_roundw
          case rel => exact ⟨k + 1, S', by omega, by go_num, by rw [HIT.out]; exact HT9.out, hide (fun j hj => (Nat.lt_succ_iff_lt_or_eq.1 hj).elim (fun h => hO.out j h) (fun h => by rw [h, HKT.out]; exact HOP.out)), HX9.out, X9.out⟩
          case measure => simp [intOf]; omega
        · obtain rfl : k = b := by omega
          have HF := hide (HPI.out (.inl rfl))
          have t4 : decide ((k : Int) < (k : Int)) = false := by simp
          clear ha hb0 HPI HIT
          go_wp2
          go_ret3
          exact ⟨B, S, k + 1, by rw [HPT.out, HF.out]; rfl, by rw [HPT.out, HF.out]; exact HTr.out, XR.out⟩

end Go.Proofs.Ytnaggpibfmednaa
namespace Go.Proofs.Ytnaggpibfmednaa
open Go.ChangeShapes Go.WideShapes Go.ChangeAt Go.RowKit Go.Shelf
set_option linter.unusedVariables false
set_option linter.unusedSimpArgs false
theorem Gr.cell {B : Nat} {w W : World} (h : Gr B w W) {a : Addr} {v : Value} (hc : w.cell? a = some v) (hne : a.block ≠ B) : W.cell? a = some v := by
  have hb := h.block a.block (lt_of_cell hc) (by simpa using hne)
  unfold World.cell? at hc ⊢
  rw [hb]
  exact hc
/-- The cells of a node. -/
theorem TreeAt.blk0 {w0 : World} : ∀ {n : Nat} {W : World} {B : Nat} {t : NT} {S : Nat → Prop} (h : TreeP w0 n W B t S), Blk W B 104 (Classical.choose (h.blk B h.root).2)
  | _, _, _, _, _, h => Classical.choose_spec (h.blk _ h.root).2
theorem state_any {w0 w : World} {n B : Nat} {t : NT} {S : Nat → Prop} (hT : TreeP w0 n w B t S) :
    Calls Try.prog 38 #[.pointer (some ⟨B, 0, none⟩)] w fun e w' => e = .returned (.int .i64 (stN t)) ∧ Ext w w' := by
  obtain ⟨n5, n6⟩ := hT.nums
  have HS := hide (show stN t = if t.a = 0 then 0 else if t.b = 0 then 1 else 2 from rfl)
  generalize stN t = s at *
  generalize t.a = a at *
  generalize t.b = b at *
  clear hT
  by_cases ha : a = 0
  · subst ha
    obtain rfl : s = 0 := HS.out
    go_enter Try.func38, Try.ntmps38
    go_wp2
    go_ret
    exact ⟨rfl, Below.refl _ _⟩
  · have t0 : (a == 0) = false := by simpa using ha
    by_cases hb : b = 0
    · subst hb
      obtain rfl : s = 1 := HS.out.trans (if_neg ha)
      clear ha
      go_enter Try.func38, Try.ntmps38
      go_wp2
      go_ret
      exact ⟨rfl, Below.refl _ _⟩
    · have t1 : (b == 0) = false := by simpa using hb
      obtain rfl : s = 2 := (HS.out.trans (if_neg ha)).trans (if_neg hb)
      clear ha hb
      go_enter Try.func38, Try.ntmps38
      go_wp2
      go_ret
      exact ⟨rfl, Below.refl _ _⟩
set_option maxHeartbeats 2000000 in
set_option maxRecDepth 100000 in
theorem Prove_no (R : RulesM) (P : PosM) (v u : Value) (D : Int) (w : World) (hR : RulesAt w v R) (hP : PosAt w u P) (h : provE R P D ≠ 0) :
    Calls Try.prog 19 #[v, u, .int .i64 D] w fun e w' => e = .returned (.tuple #[.agg #[.int .i64 0, .int .i64 0, .int .i64 0, .int .i64 0], .int .i64 (provE R P D)]) ∧ Ext w w' := by
  have HPR := hide (fun W (hW : Ext w W) => prove_no R P v u D W (hR.ext hW) (hP.ext hW) h)
  have t0 : (provE R P D != 0) = true := by simpa using h
  generalize provE R P D = E at *
  obtain ⟨pA, pc, sA, sc, eA, ec, rfl, -⟩ := hR
  obtain ⟨cA, cc, aA, ac, bA, bc, rfl, -⟩ := hP
  obtain ⟨x1, k1, k2, k3⟩ := blks3 w #[.string R.name, .int .i64 R.width, .int .i64 R.height, .slice pA R.pieces.length pc, .slice sA R.start.length sc, .bool R.falls, .bool R.keeps, .slice eA R.ends.length ec, .int .i64 R.blocked, .int .i64 R.quiet, .int .i64 R.rept] 26 #[.slice cA P.cells.length cc, .slice aA P.hand0.length ac, .slice bA P.hand1.length bc, .int .i64 P.turn, .int .i64 P.quiet] 29 #[.int .i64 0, .int .i64 0, .int .i64 0, .int .i64 0] 57
  have HX := hide x1
  have K3 := hide k3
  have f1 := k1.cell
  have f2 := k2.cell
  have HLT : Hid (w.heap.size ≤ w.heap.size + 1 + 1) := hide (by omega)
  clear x1 k1 k2 k3 h
  go_enter Try.func19, Try.ntmps19
  go_wp2_with fail
  refine (HPR.out _ HX.out).mono ?_
  rintro e w2 ⟨rfl, x2⟩
  have X2 := hide (ext_trans HX.out x2)
  have KO := hide (K3.out.ext x2)
  clear f1 f2 x2 HX HPR K3
  generalize w.heap.size + 1 + 1 = BO at *
  have gz := KO.out.frozen
  have gc := KO.out.cell
  go_wp2
  have K9 := blk_put (i := 3) (u := .int .i64 0) (blk_put (i := 2) (u := .int .i64 0) (blk_put (i := 1) (u := .int .i64 0) (blk_put (i := 0) (u := .int .i64 0) KO.out rfl) rfl) rfl) (cs' := #[.int .i64 0, .int .i64 0, .int .i64 0, .int .i64 0]) rfl
  have X9 := (ext_set (ext_set (ext_set (ext_set X2.out (p := ⟨BO, 0, none⟩) HLT.out (.int .i64 0)) (p := ⟨BO, 1, none⟩) HLT.out (.int .i64 0)) (p := ⟨BO, 2, none⟩) HLT.out (.int .i64 0)) (p := ⟨BO, 3, none⟩) HLT.out (.int .i64 0))
  generalize ((((w2.setCell ⟨BO, 0, none⟩ (.int .i64 0)).setCell ⟨BO, 1, none⟩ (.int .i64 0)).setCell ⟨BO, 2, none⟩ (.int .i64 0)).setCell ⟨BO, 3, none⟩ (.int .i64 0)) = Wf at *
  clear gz gc
  have rr0 : Wf.cell? ⟨BO, 0, none⟩ = some (.int .i64 0) := K9.cell 0
  have rr1 : Wf.cell? ⟨BO, 1, none⟩ = some (.int .i64 0) := K9.cell 1
  have rr2 : Wf.cell? ⟨BO, 2, none⟩ = some (.int .i64 0) := K9.cell 2
  have rr3 : Wf.cell? ⟨BO, 3, none⟩ = some (.int .i64 0) := K9.cell 3
  refine bodyPost_ret (v := .tuple #[.agg #[.int .i64 0, .int .i64 0, .int .i64 0, .int .i64 0], .int .i64 E]) ?_ rfl ?_
  · simp [results, Try.results19, go_sem, rr0, rr1, rr2, rr3]
  · exact ⟨rfl, X9⟩
set_option maxHeartbeats 4000000 in
set_option maxRecDepth 100000 in
theorem Prove_yes (R : RulesM) (P : PosM) (v u : Value) (D : Int) (w : World) (hR : RulesAt w v R) (hP : PosAt w u P) (h : provE R P D = 0) :
    Calls Try.prog 19 #[v, u, .int .i64 D] w fun e w' => e = .returned (.tuple #[.agg #[.int .i64 (stN (provT R P D).1), .int .i64 (provT R P D).1.a, .int .i64 (provT R P D).1.b, .int .i64 ((provT R P D).2 : Int)], .int .i64 0]) ∧ Ext w w' := by
  have HPR := hide (fun W (hW : Ext w W) => prove_yes R P v u D W (hR.ext hW) (hP.ext hW) h)
  unfold ProvePost at HPR
  generalize provT R P D = T at *
  obtain ⟨pA, pc, sA, sc, eA, ec, rfl, -⟩ := hR
  obtain ⟨cA, cc, aA, ac, bA, bc, rfl, -⟩ := hP
  obtain ⟨x1, k1, k2, k3⟩ := blks3 w #[.string R.name, .int .i64 R.width, .int .i64 R.height, .slice pA R.pieces.length pc, .slice sA R.start.length sc, .bool R.falls, .bool R.keeps, .slice eA R.ends.length ec, .int .i64 R.blocked, .int .i64 R.quiet, .int .i64 R.rept] 26 #[.slice cA P.cells.length cc, .slice aA P.hand0.length ac, .slice bA P.hand1.length bc, .int .i64 P.turn, .int .i64 P.quiet] 29 #[.int .i64 0, .int .i64 0, .int .i64 0, .int .i64 0] 57
  have HX := hide x1
  have K3 := hide k3
  have f1 := k1.cell
  have f2 := k2.cell
  have HLT : Hid (w.heap.size ≤ w.heap.size + 1 + 1) := hide (by omega)
  clear x1 k1 k2 k3 h
  go_enter Try.func19, Try.ntmps19
  go_wp2_with fail
  refine (HPR.out _ HX.out).mono ?_
  generalize hwb : ((w.alloc (.cells #[.string R.name, .int .i64 R.width, .int .i64 R.height, .slice pA R.pieces.length pc, .slice sA R.start.length sc, .bool R.falls, .bool R.keeps, .slice eA R.ends.length ec, .int .i64 R.blocked, .int .i64 R.quiet, .int .i64 R.rept] 26)).alloc (.cells #[.slice cA P.cells.length cc, .slice aA P.hand0.length ac, .slice bA P.hand1.length bc, .int .i64 P.turn, .int .i64 P.quiet] 29)).alloc (.cells #[.int .i64 0, .int .i64 0, .int .i64 0, .int .i64 0] 57) = wb at *
  rintro e w2 ⟨B, S, n, rfl, hT, x2⟩
  obtain ⟨n5, n6⟩ := hT.nums
  have HST := hide (fun W (x : Ext w2 W) => state_any (hT.ext ptp_ne int_ne_tnp x))
  have X2 := hide (ext_trans HX.out x2)
  have KO := hide (K3.out.ext x2)
  have HNE0 := hide (blk_ne hT.blk0 KO.out (by decide))
  clear f1 f2 x2 HX HPR K3 hT hwb
  generalize w.heap.size + 1 + 1 = BO at *
  generalize hst : stN T.1 = st at *
  generalize ha : T.1.a = a at *
  generalize hb : T.1.b = b at *
  generalize hc : T.2 = c at *
  have HQ := hide (And.intro hst (And.intro ha (And.intro hb hc)))
  clear hst ha hb hc
  have HNE : Hid (B ≠ BO) := HNE0
  clear HNE0
  go_upto_region 4 with fail
  have zz : Ext w2 w2.drew := Below.drew (Below.refl _ _)
  have keepK := hide (fun W (h : Gr BO w2 W) => (show (fun W => W.cell? ⟨B, 5, none⟩ = some (.int .i64 a) ∧ W.cell? ⟨B, 6, none⟩ = some (.int .i64 b) ∧ Gr BO w2 W) W from ⟨h.cell n5 HNE.out, h.cell n6 HNE.out, h⟩))
  have yy := Gr.of_ext (B := BO) zz
  refine region_K (fun W => W.cell? ⟨B, 5, none⟩ = some (.int .i64 a) ∧ W.cell? ⟨B, 6, none⟩ = some (.int .i64 b) ∧ Gr BO w2 W) (fun _ => True) [] (by kernel_rfl) ?_
  have hT0 := keepK.out _ yy
  refine anyK_take 0 (oi := ?oo1) ?ho1 (by kernel_rfl) (by kernel_rfl) (by kernel_rfl) (by kernel_rfl) ?hq1 ?hw1 hT0 (fun _ => trivial) (v := ?vv1) ?hy1 ?hk1
  case ho1 => (simp only [List.getElem?_toArray, List.getElem?_cons_succ, List.getElem?_cons_zero]; rfl)
  case hq1 => exact fun _ _ _ h => h
  case hw1 => rfl
  case hy1 =>
    intro W hW
    go_simp
    first | done | with_reducible rfl
  case hk1 =>
  try simp only [Act.put, List.setIfInBounds_toArray, List.set_cons_zero, List.set_cons_succ]
  refine anyK_take 2 (oi := ?oo2) ?ho2 (by kernel_rfl) (by kernel_rfl) (by kernel_rfl) (by kernel_rfl) ?hq2 ?hw2 hT0 (fun _ => trivial) (v := ?vv2) ?hy2 ?hk2
  case ho2 => (simp only [List.getElem?_toArray, List.getElem?_cons_succ, List.getElem?_cons_zero]; rfl)
  case hq2 => exact fun _ _ _ h => h
  case hw2 => rfl
  case hy2 =>
    intro W hW
    go_simp
    first | done | with_reducible rfl
  case hk2 =>
  try simp only [Act.put, List.setIfInBounds_toArray, List.set_cons_zero, List.set_cons_succ]
  refine anyK_take 3 (oi := ?oo3) ?ho3 (by kernel_rfl) (by kernel_rfl) (by kernel_rfl) (by kernel_rfl) ?hq3 ?hw3 hT0 (fun _ => trivial) (v := ?vv3) ?hy3 ?hk3
  case ho3 => (simp only [List.getElem?_toArray, List.getElem?_cons_succ, List.getElem?_cons_zero]; rfl)
  case hq3 => exact fun _ _ _ h => h
  case hw3 => rfl
  case hy3 =>
    intro W hW
    go_simp
    first | done | with_reducible rfl
  case hk3 =>
  try simp only [Act.put, List.setIfInBounds_toArray, List.set_cons_zero, List.set_cons_succ]
  refine anyK_take 4 (oi := ?oo4) ?ho4 (by kernel_rfl) (by kernel_rfl) (by kernel_rfl) (by kernel_rfl) ?hq4 ?hw4 hT0 (fun _ => trivial) (v := ?vv4) ?hy4 ?hk4
  case ho4 => (simp only [List.getElem?_toArray, List.getElem?_cons_succ, List.getElem?_cons_zero]; rfl)
  case hq4 => exact fun _ _ _ h => h
  case hw4 => rfl
  case hy4 =>
    intro W hW
    go_simp
    first | done | with_reducible rfl
  case hk4 =>
  try simp only [Act.put, List.setIfInBounds_toArray, List.set_cons_zero, List.set_cons_succ]
  refine anyK_take 5 (oi := ?oo5) ?ho5 (by kernel_rfl) (by kernel_rfl) (by kernel_rfl) (by kernel_rfl) ?hq5 ?hw5 hT0 (fun _ => trivial) (v := ?vv5) ?hy5 ?hk5
  case ho5 => (simp only [List.getElem?_toArray, List.getElem?_cons_succ, List.getElem?_cons_zero]; rfl)
  case hq5 => exact fun _ _ _ h => h
  case hw5 => rfl
  case hy5 =>
    intro W hW
    obtain ⟨z0, z1, z2⟩ := hW
    go_simp
    first | done | with_reducible rfl
  case hk5 =>
  try simp only [Act.put, List.setIfInBounds_toArray, List.set_cons_zero, List.set_cons_succ]
  refine anyK_take 6 (oi := ?oo6) ?ho6 (by kernel_rfl) (by kernel_rfl) (by kernel_rfl) (by kernel_rfl) ?hq6 ?hw6 hT0 (fun _ => trivial) (v := ?vv6) ?hy6 ?hk6
  case ho6 => (simp only [List.getElem?_toArray, List.getElem?_cons_succ, List.getElem?_cons_zero]; rfl)
  case hq6 => exact fun _ _ _ h => h
  case hw6 => rfl
  case hy6 =>
    intro W hW
    go_simp
    first | done | with_reducible rfl
  case hk6 =>
  try simp only [Act.put, List.setIfInBounds_toArray, List.set_cons_zero, List.set_cons_succ]
  refine anyK_take 7 (oi := ?oo7) ?ho7 (by kernel_rfl) (by kernel_rfl) (by kernel_rfl) (by kernel_rfl) ?hq7 ?hw7 hT0 (fun _ => trivial) (v := ?vv7) ?hy7 ?hk7
  case ho7 => (simp only [List.getElem?_toArray, List.getElem?_cons_succ, List.getElem?_cons_zero]; rfl)
  case hq7 => exact fun _ _ _ h => h
  case hw7 => rfl
  case hy7 =>
    intro W hW
    go_simp
    first | done | with_reducible rfl
  case hk7 =>
  try simp only [Act.put, List.setIfInBounds_toArray, List.set_cons_zero, List.set_cons_succ]
  refine anyK_take 8 (oi := ?oo8) ?ho8 (by kernel_rfl) (by kernel_rfl) (by kernel_rfl) (by kernel_rfl) ?hq8 ?hw8 hT0 (fun _ => trivial) (v := ?vv8) ?hy8 ?hk8
  case ho8 => (simp only [List.getElem?_toArray, List.getElem?_cons_succ, List.getElem?_cons_zero]; rfl)
  case hq8 => exact fun _ _ _ h => h
  case hw8 => rfl
  case hy8 =>
    intro W hW
    go_simp
    first | done | with_reducible rfl
  case hk8 =>
  try simp only [Act.put, List.setIfInBounds_toArray, List.set_cons_zero, List.set_cons_succ]
  refine anyK_take 9 (oi := ?oo9) ?ho9 (by kernel_rfl) (by kernel_rfl) (by kernel_rfl) (by kernel_rfl) ?hq9 ?hw9 hT0 (fun _ => trivial) (v := ?vv9) ?hy9 ?hk9
  case ho9 => (simp only [List.getElem?_toArray, List.getElem?_cons_succ, List.getElem?_cons_zero]; rfl)
  case hq9 => exact fun _ _ _ h => h
  case hw9 => rfl
  case hy9 =>
    intro W hW
    obtain ⟨z0, z1, z2⟩ := hW
    go_simp
    first | done | with_reducible rfl
  case hk9 =>
  try simp only [Act.put, List.setIfInBounds_toArray, List.set_cons_zero, List.set_cons_succ]
  refine anyK_take 10 (oi := ?oo10) ?ho10 (by kernel_rfl) (by kernel_rfl) (by kernel_rfl) (by kernel_rfl) ?hq10 ?hw10 hT0 (fun _ => trivial) (v := ?vv10) ?hy10 ?hk10
  case ho10 => (simp only [List.getElem?_toArray, List.getElem?_cons_succ, List.getElem?_cons_zero]; rfl)
  case hq10 => exact fun _ _ _ h => h
  case hw10 => rfl
  case hy10 =>
    intro W hW
    go_simp
    first | done | with_reducible rfl
  case hk10 =>
  try simp only [Act.put, List.setIfInBounds_toArray, List.set_cons_zero, List.set_cons_succ]
  refine anyK_on1 1 (by kernel_rfl) ?_
  refine anyK_one 1 (o := ?oo11) ?ho11 ?hk11
  case ho11 => (simp only [List.getElem?_toArray, List.getElem?_cons_succ, List.getElem?_cons_zero]; rfl)
  case hk11 =>
  intro K hK
  go_simp
  refine (HST.out _ zz).mono ?_
  rintro e wz ⟨rfl, xx⟩
  try go_wp2_with fail
  replace yy := Gr.of_ext (B := BO) (ext_trans zz xx)
  replace zz := ext_trans zz xx
  have hT1 := keepK.out _ yy
  refine hK.out _ _ hT1 (fun _ => trivial) ?_
  clear hK K
  try simp only [Act.put, List.setIfInBounds_toArray, List.set_cons_zero, List.set_cons_succ]
  refine anyK_take 11 (oi := ?oo12) ?ho12 (by kernel_rfl) (by kernel_rfl) (by kernel_rfl) (by kernel_rfl) ?hq12 ?hw12 hT1 (fun _ => trivial) (v := ?vv12) ?hy12 ?hk12
  case ho12 => (simp only [List.getElem?_toArray, List.getElem?_cons_succ, List.getElem?_cons_zero]; rfl)
  case hq12 => exact fun _ _ _ h => h
  case hw12 => rfl
  case hy12 =>
    intro W hW
    go_simp
    first | done | with_reducible rfl
  case hk12 =>
  try simp only [Act.put, List.setIfInBounds_toArray, List.set_cons_zero, List.set_cons_succ]
  refine anyK_on1 12 (by kernel_rfl) ?_
  refine anyK_one 12 (o := ?oo13) ?ho13 ?hk13
  case ho13 => (simp only [List.getElem?_toArray, List.getElem?_cons_succ, List.getElem?_cons_zero]; rfl)
  case hk13 =>
  intro K hK
  have gz := (KO.out.ext zz).frozen
  have gc := (KO.out.ext zz).cell
  have K9 := hide (blk_put (i := 3) (u := .int .i64 (c : Int)) (blk_put (i := 2) (u := .int .i64 b) (blk_put (i := 1) (u := .int .i64 a) (blk_put (i := 0) (u := .int .i64 st) (KO.out.ext zz) rfl) rfl) rfl) (cs' := #[.int .i64 st, .int .i64 a, .int .i64 b, .int .i64 (c : Int)]) rfl)
  have X9 := hide ((ext_set (ext_set (ext_set (ext_set (ext_trans X2.out zz) (p := ⟨BO, 0, none⟩) HLT.out (.int .i64 st)) (p := ⟨BO, 1, none⟩) HLT.out (.int .i64 a)) (p := ⟨BO, 2, none⟩) HLT.out (.int .i64 b)) (p := ⟨BO, 3, none⟩) HLT.out (.int .i64 (c : Int))))
  replace yy := (((((Gr.of_ext (B := BO) zz).set 0 (.int .i64 st)).set 1 (.int .i64 a)).set 2 (.int .i64 b)).set 3 (.int .i64 (c : Int)))
  go_simp
  clear gz gc
  have hT2 := keepK.out _ yy
  refine hK.out _ _ hT2 (fun _ => trivial) ?_
  clear hK K
  try simp only [Act.put, List.setIfInBounds_toArray, List.set_cons_zero, List.set_cons_succ]
  refine anyK_take 13 (oi := ?oo14) ?ho14 (by kernel_rfl) (by kernel_rfl) (by kernel_rfl) (by kernel_rfl) ?hq14 ?hw14 hT2 (fun _ => trivial) (v := ?vv14) ?hy14 ?hk14
  case ho14 => (simp only [List.getElem?_toArray, List.getElem?_cons_succ, List.getElem?_cons_zero]; rfl)
  case hq14 => exact fun _ _ _ h => h
  case hw14 => rfl
  case hy14 =>
    intro W hW
    go_simp
    first | done | with_reducible rfl
  case hk14 =>
  try simp only [Act.put, List.setIfInBounds_toArray, List.set_cons_zero, List.set_cons_succ]
  refine anyK_done (by kernel_rfl) ?_ _
  clear keepK hT0 hT1 hT2
  generalize ((((wz.setCell ⟨BO, 0, none⟩ (.int .i64 st)).setCell ⟨BO, 1, none⟩ (.int .i64 a)).setCell ⟨BO, 2, none⟩ (.int .i64 b)).setCell ⟨BO, 3, none⟩ (.int .i64 (c : Int))) = Wf at *
  have rr0 : Wf.cell? ⟨BO, 0, none⟩ = some (.int .i64 st) := K9.out.cell 0
  have rr1 : Wf.cell? ⟨BO, 1, none⟩ = some (.int .i64 a) := K9.out.cell 1
  have rr2 : Wf.cell? ⟨BO, 2, none⟩ = some (.int .i64 b) := K9.out.cell 2
  have rr3 : Wf.cell? ⟨BO, 3, none⟩ = some (.int .i64 (c : Int)) := K9.out.cell 3
  go_wp2
  refine bodyPost_ret (v := .tuple #[.agg #[.int .i64 st, .int .i64 a, .int .i64 b, .int .i64 (c : Int)], .int .i64 0]) ?_ rfl ?_
  · simp [results, Try.results19, go_sem, rr0, rr1, rr2, rr3]
  · obtain ⟨e1, e2, e3, e4⟩ := HQ.out
    exact ⟨by rw [e1, e2, e3, e4], X9.out⟩

end Go.Proofs.Ytnaggpibfmednaa
namespace Go.Proofs.Ytnaggpibfmednaa
open Go.ChangeShapes Go.WideShapes Go.ChangeAt Go.RowKit Go.Shelf
set_option linter.unusedVariables false
set_option linter.unusedSimpArgs false
theorem id_succ {w0 : World} : ∀ {n : Nat} {W : World} {B : Nat} {t : NT} {S : Nat → Prop}, TreeP w0 n W B t S → ∃ (c0 c1 c2 c3 c4 : Value) (A : Option Addr) (c : Nat) (bs : List Nat) (Ss : Nat → Nat → Prop),
      Blk W B 104 (layP c0 c1 c2 c3 c4 t.a t.b t.ex (.slice A t.kids.length c)) ∧ PosS w0 W (.agg #[c0, c1, c2, c3, c4]) t.pos ∧
      W.ownsRow w0.heap.size 98 1 (.slice A t.kids.length c) t.kids.length (bs.map ptrV) ∧ (t.kids = [] → A = none ∧ c = 0) ∧ w0.heap.size ≤ B ∧ bs.length = t.kids.length ∧
      (∀ (i : Nat) (k : NT) (b : Nat), t.kids[i]? = some k → bs[i]? = some b → TreeP w0 (n - 1) W b k (Ss i)) ∧
      (∀ i, i < t.kids.length → ¬ Ss i B) ∧ (∀ i j, i < t.kids.length → j < t.kids.length → i ≠ j → ∀ b, Ss i b → ¬ Ss j b) ∧
      (∀ b, S b ↔ b = B ∨ ∃ i, i < t.kids.length ∧ Ss i b)
  | 0, _, _, _, _, h => h.elim
  | _ + 1, _, _, _, _, h => h
def fpE (x : Option MoveM) : Int := match x with | some _ => 0 | none => 8
def fpV (x : Option MoveM) : MoveM := match x with | some m => m | none => ⟨0, 0, 0⟩
def PFirstPost (x : Option MoveM) (w : World) (e : Ending) (w' : World) : Prop := e = .returned (.tuple #[.agg #[.int .i64 (fpV x).src, .int .i64 (fpV x).dst, .int .i64 (fpV x).piece], .int .i64 (fpE x)]) ∧ Ext w w'
end Go.Proofs.Ytnaggpibfmednaa
