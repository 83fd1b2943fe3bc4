/- Walk: (*store.Store).score. Walks: (*store.Store).Score, store.New. -/
import Derived.Test.YtfkcigekbgkcmaaGreatGStoreA
import Derived.Test.YtfkcigekbgkcmaaGreatGMini
import Derived.Test.YtfkcigekbgkcmaaGreatGCopy
namespace Go.Proofs.YtfkcigekbgkcmaaGreat
open Go.ChangeShapes Go.WideShapes Go.ChangeAt Go.RowKit Go.Shelf
set_option linter.unusedVariables false
set_option linter.unusedSimpArgs false
theorem run_maxS (W : World) (ats : Array TypeId) (ty : TypeId) (a b : Int) : (Builtin.max_ ats ty #[.int .i64 a, .int .i64 b]).run Tryz.prog W = .ok (.int .i64 (max a b)) W := by
  have e : max a b = if a < b then b else a := by split <;> omega
  rw [e]
  simp [Builtin.max_, Builtin.max2]
/-- A store whose scores are right, as world W has it since world wb. -/
def SLoop (w0 W : World) (BS g : Nat) (R : RulesM) (n : Nat) (wb : World) : Prop := (∃ f L, StoreAt w0 W BS g R f L ∧ L.length = n ∧ RightS R L ∧ SoundS R L) ∧ SFr BS wb W
def ScorePost (w0 w : World) (BS g : Nat) (R : RulesM) (n : Nat) (z : Int) (e : Ending) (w' : World) : Prop := e = .returned (.int .i64 z) ∧ SLoop w0 w' BS g R n w
set_option maxHeartbeats 8000000 in
set_option maxRecDepth 100000 in
theorem score_step {w0 w : World} {BS g : Nat} {R : RulesM} {f : Int} {L : List (Option SlotM)} {d : Nat} {D : Int} {P : PosM} {u : Value} (hD : D = d) (hV : Valid R) (hd : d ≤ 12) (hG : StoreAt w0 w BS g R f L) (hn : 0 < L.length) (hl : L.length ≤ 4096) (hRS : RightS R L) (hSS : SoundS R L) (hPS : PosS w0 w u P) (hS : Sound R P)
    (ih : ∀ (k : Nat) (E : Int) (Q : PosM) (v : Value) (W : World) (f' : Int) (L' : List (Option SlotM)), k + 1 = d → E = k → StoreAt w0 W BS g R f' L' → L'.length = L.length → RightS R L' → SoundS R L' → PosS w0 W v Q → Sound R Q → Calls Tryz.prog 28 #[.pointer (some ⟨BS, 0, none⟩), v, .int .i64 E] W (ScorePost w0 W BS g R L.length (ofM R k Q))) :
    Calls Tryz.prog 28 #[.pointer (some ⟨BS, 0, none⟩), u, .int .i64 D] w (ScorePost w0 w BS g R L.length (ofM R d P)) := by
  have hPA := hPS.at_ hG.old
  obtain ⟨cA, cc, aA, ac, bA, bc, rfl, -⟩ := id hPA
  obtain ⟨pA, pc, sA, sc, eA, ec, base, cs, kS, ro, -⟩ := id hG
  have HG := hide hG
  have HPS := hide hPS
  have HRR := hide hRS
  have HSS := hide hSS
  have HRS := hide (fun W (h : Ext w W) => Result_any R P _ _ W (ro.at_.ext h) (hPA.ext h) hV hS)
  have HOV := hide (fun W (h : Ext w W) => Over_any P _ (resultM R P) W (hPA.ext h) hS.turn)
  have HLI := hide (fun W (h : Ext w W) => List_any R P _ _ W (ro.at_.ext h) (hPA.ext h) hV hS)
  obtain ⟨x1, k1⟩ := blks1 w #[.slice cA P.cells.length cc, .slice aA P.hand0.length ac, .slice bA P.hand1.length bc, .int .i64 P.turn, .int .i64 P.quiet] 29
  have X1 := hide x1
  have KP1 := hide k1
  have KS1 := hide (kS.ext x1)
  have HV := hide hV
  have HSO := hide hS
  have HNL := hide (And.intro hn hl)
  have HPA := hide hPA
  have HDD := hide hd
  have HDK := hide hD
  have HIH := hide ih
  clear hD hd x1 k1 kS ro hG hPS hRS hSS hV hS hn hl hPA ih
  go_enter Tryz.func28, Tryz.ntmps28
  go_upto_region 1 with fail
  generalize w.alloc (.cells #[.slice cA P.cells.length cc, .slice aA P.hand0.length ac, .slice bA P.hand1.length bc, .int .i64 P.turn, .int .i64 P.quiet] 29) = w1 at *
  generalize w.heap.size = BP at KP1 ⊢
  have keepK := hide (fun W (h : Ext w1 W) => (show (fun W => W.cell? ⟨BP, 0, none⟩ = some (.slice cA P.cells.length cc) ∧ W.cell? ⟨BP, 1, none⟩ = some (.slice aA P.hand0.length ac) ∧ W.cell? ⟨BP, 2, none⟩ = some (.slice bA P.hand1.length bc) ∧ W.cell? ⟨BP, 3, none⟩ = some (.int .i64 P.turn) ∧ W.cell? ⟨BP, 4, none⟩ = some (.int .i64 P.quiet) ∧ W.cell? ⟨BS, 0, none⟩ = some (.string R.name) ∧ W.cell? ⟨BS, 1, none⟩ = some (.int .i64 R.width) ∧ W.cell? ⟨BS, 2, none⟩ = some (.int .i64 R.height) ∧ W.cell? ⟨BS, 3, none⟩ = some (.slice pA R.pieces.length pc) ∧ W.cell? ⟨BS, 4, none⟩ = some (.slice sA R.start.length sc) ∧ W.cell? ⟨BS, 5, none⟩ = some (.bool R.falls) ∧ W.cell? ⟨BS, 6, none⟩ = some (.bool R.keeps) ∧ W.cell? ⟨BS, 7, none⟩ = some (.slice eA R.ends.length ec) ∧ W.cell? ⟨BS, 8, none⟩ = some (.int .i64 R.blocked) ∧ W.cell? ⟨BS, 9, none⟩ = some (.int .i64 R.quiet) ∧ W.cell? ⟨BS, 10, none⟩ = some (.int .i64 R.rept) ∧ Ext w1 W) W from ⟨(KP1.out.ext h).cell 0, (KP1.out.ext h).cell 1, (KP1.out.ext h).cell 2, (KP1.out.ext h).cell 3, (KP1.out.ext h).cell 4, (KS1.out.ext h).cell 0, (KS1.out.ext h).cell 1, (KS1.out.ext h).cell 2, (KS1.out.ext h).cell 3, (KS1.out.ext h).cell 4, (KS1.out.ext h).cell 5, (KS1.out.ext h).cell 6, (KS1.out.ext h).cell 7, (KS1.out.ext h).cell 8, (KS1.out.ext h).cell 9, (KS1.out.ext h).cell 10, h⟩))
  have yy : Ext w1 w1.drew := Below.drew (Below.refl _ _)
  refine region_K (fun W => W.cell? ⟨BP, 0, none⟩ = some (.slice cA P.cells.length cc) ∧ W.cell? ⟨BP, 1, none⟩ = some (.slice aA P.hand0.length ac) ∧ W.cell? ⟨BP, 2, none⟩ = some (.slice bA P.hand1.length bc) ∧ W.cell? ⟨BP, 3, none⟩ = some (.int .i64 P.turn) ∧ W.cell? ⟨BP, 4, none⟩ = some (.int .i64 P.quiet) ∧ W.cell? ⟨BS, 0, none⟩ = some (.string R.name) ∧ W.cell? ⟨BS, 1, none⟩ = some (.int .i64 R.width) ∧ W.cell? ⟨BS, 2, none⟩ = some (.int .i64 R.height) ∧ W.cell? ⟨BS, 3, none⟩ = some (.slice pA R.pieces.length pc) ∧ W.cell? ⟨BS, 4, none⟩ = some (.slice sA R.start.length sc) ∧ W.cell? ⟨BS, 5, none⟩ = some (.bool R.falls) ∧ W.cell? ⟨BS, 6, none⟩ = some (.bool R.keeps) ∧ W.cell? ⟨BS, 7, none⟩ = some (.slice eA R.ends.length ec) ∧ W.cell? ⟨BS, 8, none⟩ = some (.int .i64 R.blocked) ∧ W.cell? ⟨BS, 9, none⟩ = some (.int .i64 R.quiet) ∧ W.cell? ⟨BS, 10, none⟩ = some (.int .i64 R.rept) ∧ Ext w1 W) (fun _ => True) [] (by kernel_rfl) ?_
  have hT0 := keepK.out _ yy
  refine anyK_take 0 (oi := ?oo1) ?ho1 (by kernel_rfl) (by kernel_rfl) (by kernel_rfl) (by kernel_rfl) ?hq1 ?hw1 hT0 (fun _ => trivial) (v := ?vv1) ?hy1 ?hk1
  case ho1 => (simp only [List.getElem?_toArray, List.getElem?_cons_succ, List.getElem?_cons_zero]; rfl)
  case hq1 => exact fun _ _ _ h => h
  case hw1 => rfl
  case hy1 =>
    intro W hW
    go_simp
    first | done | with_reducible rfl
  case hk1 =>
  try simp only [Act.put, List.setIfInBounds_toArray, List.set_cons_zero, List.set_cons_succ]
  refine anyK_take 1 (oi := ?oo2) ?ho2 (by kernel_rfl) (by kernel_rfl) (by kernel_rfl) (by kernel_rfl) ?hq2 ?hw2 hT0 (fun _ => trivial) (v := ?vv2) ?hy2 ?hk2
  case ho2 => (simp only [List.getElem?_toArray, List.getElem?_cons_succ, List.getElem?_cons_zero]; rfl)
  case hq2 => exact fun _ _ _ h => h
  case hw2 => rfl
  case hy2 =>
    intro W hW
    go_simp
    first | done | with_reducible rfl
  case hk2 =>
  try simp only [Act.put, List.setIfInBounds_toArray, List.set_cons_zero, List.set_cons_succ]
  refine anyK_take 2 (oi := ?oo3) ?ho3 (by kernel_rfl) (by kernel_rfl) (by kernel_rfl) (by kernel_rfl) ?hq3 ?hw3 hT0 (fun _ => trivial) (v := ?vv3) ?hy3 ?hk3
  case ho3 => (simp only [List.getElem?_toArray, List.getElem?_cons_succ, List.getElem?_cons_zero]; rfl)
  case hq3 => exact fun _ _ _ h => h
  case hw3 => rfl
  case hy3 =>
    intro W hW
    go_simp
    first | done | with_reducible rfl
  case hk3 =>
  try simp only [Act.put, List.setIfInBounds_toArray, List.set_cons_zero, List.set_cons_succ]
  refine anyK_take 3 (oi := ?oo4) ?ho4 (by kernel_rfl) (by kernel_rfl) (by kernel_rfl) (by kernel_rfl) ?hq4 ?hw4 hT0 (fun _ => trivial) (v := ?vv4) ?hy4 ?hk4
  case ho4 => (simp only [List.getElem?_toArray, List.getElem?_cons_succ, List.getElem?_cons_zero]; rfl)
  case hq4 => exact fun _ _ _ h => h
  case hw4 => rfl
  case hy4 =>
    intro W hW
    obtain ⟨z0, z1, z2, z3, z4, z5, z6, z7, z8, z9, z10, z11, z12, z13, z14, z15, z16⟩ := hW
    go_simp
    first | done | with_reducible rfl
  case hk4 =>
  try simp only [Act.put, List.setIfInBounds_toArray, List.set_cons_zero, List.set_cons_succ]
  refine anyK_take 4 (oi := ?oo5) ?ho5 (by kernel_rfl) (by kernel_rfl) (by kernel_rfl) (by kernel_rfl) ?hq5 ?hw5 hT0 (fun _ => trivial) (v := ?vv5) ?hy5 ?hk5
  case ho5 => (simp only [List.getElem?_toArray, List.getElem?_cons_succ, List.getElem?_cons_zero]; rfl)
  case hq5 => exact fun _ _ _ h => h
  case hw5 => rfl
  case hy5 =>
    intro W hW
    obtain ⟨z0, z1, z2, z3, z4, z5, z6, z7, z8, z9, z10, z11, z12, z13, z14, z15, z16⟩ := hW
    go_simp
    first | done | with_reducible rfl
  case hk5 =>
  try simp only [Act.put, List.setIfInBounds_toArray, List.set_cons_zero, List.set_cons_succ]
  refine anyK_on1 5 (by kernel_rfl) ?_
  refine anyK_one 5 (o := ?oo6) ?ho6 ?hk6
  case ho6 => (simp only [List.getElem?_toArray, List.getElem?_cons_succ, List.getElem?_cons_zero]; rfl)
  case hk6 =>
  intro K hK
  go_simp
  refine (HRS.out _ (ext_trans X1.out yy)).mono ?_
  rintro e w2 ⟨rfl, xx⟩
  try go_wp2_with fail
  replace yy := ext_trans yy xx
  have hT1 := keepK.out _ yy
  refine hK.out _ _ hT1 (fun _ => trivial) ?_
  clear hK K
  try simp only [Act.put, List.setIfInBounds_toArray, List.set_cons_zero, List.set_cons_succ]
  refine anyK_take 6 (oi := ?oo7) ?ho7 (by kernel_rfl) (by kernel_rfl) (by kernel_rfl) (by kernel_rfl) ?hq7 ?hw7 hT1 (fun _ => trivial) (v := ?vv7) ?hy7 ?hk7
  case ho7 => (simp only [List.getElem?_toArray, List.getElem?_cons_succ, List.getElem?_cons_zero]; rfl)
  case hq7 => exact fun _ _ _ h => h
  case hw7 => rfl
  case hy7 =>
    intro W hW
    go_simp
    first | done | with_reducible rfl
  case hk7 =>
  try simp only [Act.put, List.setIfInBounds_toArray, List.set_cons_zero, List.set_cons_succ]
  refine anyK_done (by kernel_rfl) ?_ _
  clear keepK hT0 hT1
  have X2 := hide (ext_trans X1.out yy)
  have KP2 := hide (KP1.out.ext yy)
  have KS2 := hide (KS1.out.ext yy)
  clear yy xx KP1 KS1 X1 HRS
  by_cases hz : resultM R P = 0
  · rw [hz]
    have HZ := hide hz
    clear HOV
    rcases d with _ | k
    · obtain rfl : D = 0 := by simpa using HDK.out
      clear hz
      go_wp2
      go_ret
      exact ⟨ret_int (show (0 : Int) = ofM R 0 P from (if_pos HZ.out).symm), ⟨f, L, HG.out.ext X2.out, rfl, HRR.out, HSS.out⟩, SFr.of_ext X2.out⟩
    · have t0 : (D == 0) = false := by have := HDK.out; simp; omega
      have hwd : IntKind.i64.wrap (D - 1) = D - 1 := by have := HDK.out; have := HDD.out; rw [IntKind.wrap_i64]; omega
      have f1 := KP2.out.cell
      clear hz
      cases hb : hasB (L.getD (slotI P L.length) none) P D
      · have HGN := hide (fun W (h : Ext w W) => sget_no (D := D) (HG.out.ext h) HNL.out.1 HNL.out.2 (HPA.out.ext h) HV.out HSO.out HSS.out hb)
        clear hb
        go_wp2_with fail
        refine (HGN.out _ X2.out).mono ?_
        rintro e w4 ⟨rfl, x4⟩
        have X4 := hide (ext_trans X2.out x4)
        have KP4 := hide (KP2.out.ext x4)
        have KS4 := hide (KS2.out.ext x4)
        clear f1 x4 X2 KP2 KS2 HGN
        go_upto_region 10 with fail
        have keepK := hide (fun W (h : Ext w4 W) => (show (fun W => W.cell? ⟨BP, 0, none⟩ = some (.slice cA P.cells.length cc) ∧ W.cell? ⟨BP, 1, none⟩ = some (.slice aA P.hand0.length ac) ∧ W.cell? ⟨BP, 2, none⟩ = some (.slice bA P.hand1.length bc) ∧ W.cell? ⟨BP, 3, none⟩ = some (.int .i64 P.turn) ∧ W.cell? ⟨BP, 4, none⟩ = some (.int .i64 P.quiet) ∧ W.cell? ⟨BS, 0, none⟩ = some (.string R.name) ∧ W.cell? ⟨BS, 1, none⟩ = some (.int .i64 R.width) ∧ W.cell? ⟨BS, 2, none⟩ = some (.int .i64 R.height) ∧ W.cell? ⟨BS, 3, none⟩ = some (.slice pA R.pieces.length pc) ∧ W.cell? ⟨BS, 4, none⟩ = some (.slice sA R.start.length sc) ∧ W.cell? ⟨BS, 5, none⟩ = some (.bool R.falls) ∧ W.cell? ⟨BS, 6, none⟩ = some (.bool R.keeps) ∧ W.cell? ⟨BS, 7, none⟩ = some (.slice eA R.ends.length ec) ∧ W.cell? ⟨BS, 8, none⟩ = some (.int .i64 R.blocked) ∧ W.cell? ⟨BS, 9, none⟩ = some (.int .i64 R.quiet) ∧ W.cell? ⟨BS, 10, none⟩ = some (.int .i64 R.rept) ∧ Ext w4 W) W from ⟨(KP4.out.ext h).cell 0, (KP4.out.ext h).cell 1, (KP4.out.ext h).cell 2, (KP4.out.ext h).cell 3, (KP4.out.ext h).cell 4, (KS4.out.ext h).cell 0, (KS4.out.ext h).cell 1, (KS4.out.ext h).cell 2, (KS4.out.ext h).cell 3, (KS4.out.ext h).cell 4, (KS4.out.ext h).cell 5, (KS4.out.ext h).cell 6, (KS4.out.ext h).cell 7, (KS4.out.ext h).cell 8, (KS4.out.ext h).cell 9, (KS4.out.ext h).cell 10, h⟩))
        have yy : Ext w4 w4.drew := Below.drew (Below.refl _ _)
        refine region_K (fun W => W.cell? ⟨BP, 0, none⟩ = some (.slice cA P.cells.length cc) ∧ W.cell? ⟨BP, 1, none⟩ = some (.slice aA P.hand0.length ac) ∧ W.cell? ⟨BP, 2, none⟩ = some (.slice bA P.hand1.length bc) ∧ W.cell? ⟨BP, 3, none⟩ = some (.int .i64 P.turn) ∧ W.cell? ⟨BP, 4, none⟩ = some (.int .i64 P.quiet) ∧ W.cell? ⟨BS, 0, none⟩ = some (.string R.name) ∧ W.cell? ⟨BS, 1, none⟩ = some (.int .i64 R.width) ∧ W.cell? ⟨BS, 2, none⟩ = some (.int .i64 R.height) ∧ W.cell? ⟨BS, 3, none⟩ = some (.slice pA R.pieces.length pc) ∧ W.cell? ⟨BS, 4, none⟩ = some (.slice sA R.start.length sc) ∧ W.cell? ⟨BS, 5, none⟩ = some (.bool R.falls) ∧ W.cell? ⟨BS, 6, none⟩ = some (.bool R.keeps) ∧ W.cell? ⟨BS, 7, none⟩ = some (.slice eA R.ends.length ec) ∧ W.cell? ⟨BS, 8, none⟩ = some (.int .i64 R.blocked) ∧ W.cell? ⟨BS, 9, none⟩ = some (.int .i64 R.quiet) ∧ W.cell? ⟨BS, 10, none⟩ = some (.int .i64 R.rept) ∧ Ext w4 W) (fun _ => True) [] (by kernel_rfl) ?_
        have hT0 := keepK.out _ yy
        refine anyK_take 0 (oi := ?oo8) ?ho8 (by kernel_rfl) (by kernel_rfl) (by kernel_rfl) (by kernel_rfl) ?hq8 ?hw8 hT0 (fun _ => trivial) (v := ?vv8) ?hy8 ?hk8
        case ho8 => (simp only [List.getElem?_toArray, List.getElem?_cons_succ, List.getElem?_cons_zero]; rfl)
        case hq8 => exact fun _ _ _ h => h
        case hw8 => rfl
        case hy8 =>
          intro W hW
          go_simp
          first | done | with_reducible rfl
        case hk8 =>
        try simp only [Act.put, List.setIfInBounds_toArray, List.set_cons_zero, List.set_cons_succ]
        refine anyK_take 1 (oi := ?oo9) ?ho9 (by kernel_rfl) (by kernel_rfl) (by kernel_rfl) (by kernel_rfl) ?hq9 ?hw9 hT0 (fun _ => trivial) (v := ?vv9) ?hy9 ?hk9
        case ho9 => (simp only [List.getElem?_toArray, List.getElem?_cons_succ, List.getElem?_cons_zero]; rfl)
        case hq9 => exact fun _ _ _ h => h
        case hw9 => rfl
        case hy9 =>
          intro W hW
          go_simp
          first | done | with_reducible rfl
        case hk9 =>
        try simp only [Act.put, List.setIfInBounds_toArray, List.set_cons_zero, List.set_cons_succ]
        refine anyK_take 2 (oi := ?oo10) ?ho10 (by kernel_rfl) (by kernel_rfl) (by kernel_rfl) (by kernel_rfl) ?hq10 ?hw10 hT0 (fun _ => trivial) (v := ?vv10) ?hy10 ?hk10
        case ho10 => (simp only [List.getElem?_toArray, List.getElem?_cons_succ, List.getElem?_cons_zero]; rfl)
        case hq10 => exact fun _ _ _ h => h
        case hw10 => rfl
        case hy10 =>
          intro W hW
          go_simp
          first | done | with_reducible rfl
        case hk10 =>
        try simp only [Act.put, List.setIfInBounds_toArray, List.set_cons_zero, List.set_cons_succ]
        refine anyK_take 3 (oi := ?oo11) ?ho11 (by kernel_rfl) (by kernel_rfl) (by kernel_rfl) (by kernel_rfl) ?hq11 ?hw11 hT0 (fun _ => trivial) (v := ?vv11) ?hy11 ?hk11
        case ho11 => (simp only [List.getElem?_toArray, List.getElem?_cons_succ, List.getElem?_cons_zero]; rfl)
        case hq11 => exact fun _ _ _ h => h
        case hw11 => rfl
        case hy11 =>
          intro W hW
          obtain ⟨z0, z1, z2, z3, z4, z5, z6, z7, z8, z9, z10, z11, z12, z13, z14, z15, z16⟩ := hW
          go_simp
          first | done | with_reducible rfl
        case hk11 =>
        try simp only [Act.put, List.setIfInBounds_toArray, List.set_cons_zero, List.set_cons_succ]
        refine anyK_take 4 (oi := ?oo12) ?ho12 (by kernel_rfl) (by kernel_rfl) (by kernel_rfl) (by kernel_rfl) ?hq12 ?hw12 hT0 (fun _ => trivial) (v := ?vv12) ?hy12 ?hk12
        case ho12 => (simp only [List.getElem?_toArray, List.getElem?_cons_succ, List.getElem?_cons_zero]; rfl)
        case hq12 => exact fun _ _ _ h => h
        case hw12 => rfl
        case hy12 =>
          intro W hW
          obtain ⟨z0, z1, z2, z3, z4, z5, z6, z7, z8, z9, z10, z11, z12, z13, z14, z15, z16⟩ := hW
          go_simp
          first | done | with_reducible rfl
        case hk12 =>
        try simp only [Act.put, List.setIfInBounds_toArray, List.set_cons_zero, List.set_cons_succ]
        refine anyK_take 7 (oi := ?oo13) ?ho13 (by kernel_rfl) (by kernel_rfl) (by kernel_rfl) (by kernel_rfl) ?hq13 ?hw13 hT0 (fun _ => trivial) (v := ?vv13) ?hy13 ?hk13
        case ho13 => (simp only [List.getElem?_toArray, List.getElem?_cons_succ, List.getElem?_cons_zero]; rfl)
        case hq13 => exact fun _ _ _ h => h
        case hw13 => rfl
        case hy13 =>
          intro W hW
          go_simp
          first | done | with_reducible rfl
        case hk13 =>
        try simp only [Act.put, List.setIfInBounds_toArray, List.set_cons_zero, List.set_cons_succ]
        refine anyK_on1 5 (by kernel_rfl) ?_
        refine anyK_one 5 (o := ?oo14) ?ho14 ?hk14
        case ho14 => (simp only [List.getElem?_toArray, List.getElem?_cons_succ, List.getElem?_cons_zero]; rfl)
        case hk14 =>
        intro K hK
        go_simp
        refine (HLI.out _ (ext_trans X4.out yy)).mono ?_
        rintro e wl ⟨v5, rfl, own5, xx⟩
        try go_wp2_with fail
        replace yy := ext_trans yy xx
        have OW5 := hide own5
        obtain ⟨A5, c5, rfl, -⟩ := own5
        have hT1 := keepK.out _ yy
        refine hK.out _ _ hT1 (fun _ => trivial) ?_
        clear hK K
        try simp only [Act.put, List.setIfInBounds_toArray, List.set_cons_zero, List.set_cons_succ]
        refine anyK_take 6 (oi := ?oo15) ?ho15 (by kernel_rfl) (by kernel_rfl) (by kernel_rfl) (by kernel_rfl) ?hq15 ?hw15 hT1 (fun _ => trivial) (v := ?vv15) ?hy15 ?hk15
        case ho15 => (simp only [List.getElem?_toArray, List.getElem?_cons_succ, List.getElem?_cons_zero]; rfl)
        case hq15 => exact fun _ _ _ h => h
        case hw15 => rfl
        case hy15 =>
          intro W hW
          go_simp
          first | done | with_reducible rfl
        case hk15 =>
        try simp only [Act.put, List.setIfInBounds_toArray, List.set_cons_zero, List.set_cons_succ]
        refine anyK_done (by kernel_rfl) ?_ _
        clear keepK hT0 hT1
        have XL := hide (ext_trans X4.out yy)
        have KPL := hide (KP4.out.ext yy)
        have KSL := hide (KS4.out.ext yy)
        clear yy xx KP4 KS4 X4 HLI
        obtain ⟨q, hq⟩ : ∃ q : MoveM → Int, ∀ m, q m = nearM (-(ofM R k (makeM R P m))) := ⟨_, fun _ => rfl⟩
        have HFE : Hid ((bestL q (⟨0, 0, 0⟩, -2000) (listM R P)).2 = ofM R (k + 1) P) := hide (by rw [of_open HZ.out, show q = fun m => nearM (-(ofM R k (makeM R P m))) from funext hq])
        have HFM := hide hq
        have HBD := hide (fun m => of_bound R k (makeM R P m) (turn_make HSO.out.turn m) (by have := HDD.out; omega))
        have HMR := hide (fun m (hm : m ∈ listM R P) => mem_listM.1 hm)
        have HLL := hide (listM_len HV.out HSO.out)
        clear hq
        generalize hML : listM R P = L1 at *
        clear hML
        have hll := HLL.out
        go_wp2
        go_loopw [10, 42] (fun b i wr => ∃ j : Nat, j ≤ L1.length ∧ i = .int .i64 j ∧ b = .int .i64 (bestL q (⟨0, 0, 0⟩, -2000) (L1.take j)).2 ∧ SLoop w0 wr BS g R L.length wl) (fun _ i _ => L1.length - (intOf i).toNat)
        case atStart => exact ⟨0, Nat.zero_le _, rfl, rfl, ⟨f, L, HG.out.ext XL.out, rfl, HRR.out, HSS.out⟩, SFr.refl _ _⟩
        case round =>
          obtain ⟨j, hj, rfl, rfl, ⟨f5, L5, hg5, hl5, hr5, hs5⟩, fr5⟩ := hrel
          have FR := hide fr5
          have HGR := hide hg5
          have HL5 := hide hl5
          have HR5 := hide hr5
          have HS5 := hide hs5
          clear hg5 hl5 hr5 hs5 fr5
          by_cases hlt : j < L1.length
          · obtain ⟨m, hm⟩ : ∃ m, L1[j]? = some m := ⟨L1[j], List.getElem?_eq_getElem _⟩
            have HBT := hide (bestL_take (f := q) (a := (⟨0, 0, 0⟩, -2000)) hm)
            obtain ⟨A', c', e', hc'⟩ := OW5.out
            simp only [Value.slice.injEq] at e'
            obtain ⟨rfl, -, rfl⟩ := e'
            have hcr := own_tfr hc' (by decide) FR.out.1
            obtain ⟨b5, o5, rfl, m0, m1, m2⟩ := moves_get (own_cells hcr).1 hm
            have hml := HMR.out m (List.mem_of_getElem? hm)
            have HMK := hide (fun W (v1 : Value) (rr : RulesAt W v1 R) (pp : PosAt W (.agg #[.slice cA P.cells.length cc, .slice aA P.hand0.length ac, .slice bA P.hand1.length bc, .int .i64 P.turn, .int .i64 P.quiet]) P) => Make_any R P m _ _ W rr pp HV.out HSO.out hml)
            have HSQ := hide (sound_make HV.out HSO.out hml)
            have hb := HBD.out m
            have hfm := HFM.out m
            have HIH1 := hide (fun Q v W f' L' h1 h2 h3 h4 h5 h6 => HIH.out k (D - 1) Q v W f' L' rfl (by have := HDK.out; omega) h1 h2 h3 h4 h5 h6)
            generalize makeM R P m = Q at *
            have HIH2 := hide (fun v W f' L' h1 h2 h3 h4 h5 => HIH1.out Q v W f' L' h1 h2 h3 h4 h5 HSQ.out)
            generalize ofM R k Q = z at *
            have HZZ : Hid (-1000 ≤ z ∧ z ≤ 1000 ∧ q m = nearM (-z)) := hide ⟨by have := HDD.out; unfold boundB at hb; omega, by have := HDD.out; unfold boundB at hb; omega, hfm⟩
            have hwn : IntKind.i64.wrap (-z) = -z := by have := HZZ.out; rw [IntKind.wrap_i64]; omega
            have HNE2 : Hid (∀ W, Calls Tryz.prog 52 #[.int .i64 (-z)] W fun e w' => e = .returned (.int .i64 (q m)) ∧ Ext W w') := hide (fun W => by rw [HZZ.out.2.2]; exact Nearer_any (-z) W (by have := HZZ.out; omega) (by have := HZZ.out; omega))
            generalize q m = qm at *
            generalize bestL q (⟨0, 0, 0⟩, -2000) (L1.take j) = y at *
            have hmax : ∀ W ats ty, (Builtin.max_ ats ty #[.int .i64 y.2, .int .i64 qm]).run Tryz.prog W = .ok (.int .i64 (max y.2 qm)) W := fun W ats ty => run_maxS W ats ty y.2 qm
            clear hb hfm hml hm hc' hcr HIH1
            go_upto_region 13 with fail
            obtain ⟨xm, km⟩ := blks1 wr #[.int .i64 m.src, .int .i64 m.dst, .int .i64 m.piece] 46
            have FR5 := hide (FR.out.trans (SFr.of_ext xm))
            have HG5 := hide (HGR.out.ext xm)
            have KM5 := hide km
            have KP5 := hide (FR5.out.blk (by decide) KPL.out)
            clear m0 m1 m2 xm km HGR
            generalize wr.alloc (.cells #[.int .i64 m.src, .int .i64 m.dst, .int .i64 m.piece] 46) = w5 at *
            generalize wr.heap.size = BM at *
            obtain ⟨pA, pc, sA, sc, eA, ec, base, cs, kS5, ro5, -⟩ := id HG5.out
            have KS5 := hide kS5
            have HPS5 := hide (HPS.out.tfr int_tsS ((TFr.of_ext XL.out).trans FR5.out.1))
            have HMK2 := hide (fun W (h : SFr BS w5 W ∧ Ext w0 W) => HMK.out W _ (ro5.tfr rules_tsS h.1.1).at_ ((HPS5.out.tfr int_tsS h.1.1).at_ h.2))
            clear kS5 ro5 HMK
            have keepK := hide (fun W (h : (SFr BS w5 W ∧ Ext w0 W)) => (show (fun W => W.cell? ⟨BP, 0, none⟩ = some (.slice cA P.cells.length cc) ∧ W.cell? ⟨BP, 1, none⟩ = some (.slice aA P.hand0.length ac) ∧ W.cell? ⟨BP, 2, none⟩ = some (.slice bA P.hand1.length bc) ∧ W.cell? ⟨BP, 3, none⟩ = some (.int .i64 P.turn) ∧ W.cell? ⟨BP, 4, none⟩ = some (.int .i64 P.quiet) ∧ W.cell? ⟨BM, 0, none⟩ = some (.int .i64 m.src) ∧ W.cell? ⟨BM, 1, none⟩ = some (.int .i64 m.dst) ∧ W.cell? ⟨BM, 2, none⟩ = some (.int .i64 m.piece) ∧ W.cell? ⟨BS, 0, none⟩ = some (.string R.name) ∧ W.cell? ⟨BS, 1, none⟩ = some (.int .i64 R.width) ∧ W.cell? ⟨BS, 2, none⟩ = some (.int .i64 R.height) ∧ W.cell? ⟨BS, 3, none⟩ = some (.slice pA R.pieces.length pc) ∧ W.cell? ⟨BS, 4, none⟩ = some (.slice sA R.start.length sc) ∧ W.cell? ⟨BS, 5, none⟩ = some (.bool R.falls) ∧ W.cell? ⟨BS, 6, none⟩ = some (.bool R.keeps) ∧ W.cell? ⟨BS, 7, none⟩ = some (.slice eA R.ends.length ec) ∧ W.cell? ⟨BS, 8, none⟩ = some (.int .i64 R.blocked) ∧ W.cell? ⟨BS, 9, none⟩ = some (.int .i64 R.quiet) ∧ W.cell? ⟨BS, 10, none⟩ = some (.int .i64 R.rept) ∧ (SFr BS w5 W ∧ Ext w0 W)) W from ⟨(h.1.blk (by decide) KP5.out).cell 0, (h.1.blk (by decide) KP5.out).cell 1, (h.1.blk (by decide) KP5.out).cell 2, (h.1.blk (by decide) KP5.out).cell 3, (h.1.blk (by decide) KP5.out).cell 4, (h.1.blk (by decide) KM5.out).cell 0, (h.1.blk (by decide) KM5.out).cell 1, (h.1.blk (by decide) KM5.out).cell 2, h.1.2 0 _ (by omega) (KS5.out.cell 0), h.1.2 1 _ (by omega) (KS5.out.cell 1), h.1.2 2 _ (by omega) (KS5.out.cell 2), h.1.2 3 _ (by omega) (KS5.out.cell 3), h.1.2 4 _ (by omega) (KS5.out.cell 4), h.1.2 5 _ (by omega) (KS5.out.cell 5), h.1.2 6 _ (by omega) (KS5.out.cell 6), h.1.2 7 _ (by omega) (KS5.out.cell 7), h.1.2 8 _ (by omega) (KS5.out.cell 8), h.1.2 9 _ (by omega) (KS5.out.cell 9), h.1.2 10 _ (by omega) (KS5.out.cell 10), h⟩))
            have yy := (show SFr BS w5 w5.drew ∧ Ext w0 w5.drew from ⟨SFr.of_ext (Below.drew (Below.refl _ _)), Below.drew HG5.out.old⟩)
            refine region_K (fun W => W.cell? ⟨BP, 0, none⟩ = some (.slice cA P.cells.length cc) ∧ W.cell? ⟨BP, 1, none⟩ = some (.slice aA P.hand0.length ac) ∧ W.cell? ⟨BP, 2, none⟩ = some (.slice bA P.hand1.length bc) ∧ W.cell? ⟨BP, 3, none⟩ = some (.int .i64 P.turn) ∧ W.cell? ⟨BP, 4, none⟩ = some (.int .i64 P.quiet) ∧ W.cell? ⟨BM, 0, none⟩ = some (.int .i64 m.src) ∧ W.cell? ⟨BM, 1, none⟩ = some (.int .i64 m.dst) ∧ W.cell? ⟨BM, 2, none⟩ = some (.int .i64 m.piece) ∧ W.cell? ⟨BS, 0, none⟩ = some (.string R.name) ∧ W.cell? ⟨BS, 1, none⟩ = some (.int .i64 R.width) ∧ W.cell? ⟨BS, 2, none⟩ = some (.int .i64 R.height) ∧ W.cell? ⟨BS, 3, none⟩ = some (.slice pA R.pieces.length pc) ∧ W.cell? ⟨BS, 4, none⟩ = some (.slice sA R.start.length sc) ∧ W.cell? ⟨BS, 5, none⟩ = some (.bool R.falls) ∧ W.cell? ⟨BS, 6, none⟩ = some (.bool R.keeps) ∧ W.cell? ⟨BS, 7, none⟩ = some (.slice eA R.ends.length ec) ∧ W.cell? ⟨BS, 8, none⟩ = some (.int .i64 R.blocked) ∧ W.cell? ⟨BS, 9, none⟩ = some (.int .i64 R.quiet) ∧ W.cell? ⟨BS, 10, none⟩ = some (.int .i64 R.rept) ∧ (SFr BS w5 W ∧ Ext w0 W)) (fun _ => True) [] (by kernel_rfl) ?_
            have hT0 := keepK.out _ yy
            refine anyK_take 0 (oi := ?oo16) ?ho16 (by kernel_rfl) (by kernel_rfl) (by kernel_rfl) (by kernel_rfl) ?hq16 ?hw16 hT0 (fun _ => trivial) (v := ?vv16) ?hy16 ?hk16
            case ho16 => (simp only [List.getElem?_toArray, List.getElem?_cons_succ, List.getElem?_cons_zero]; rfl)
            case hq16 => exact fun _ _ _ h => h
            case hw16 => rfl
            case hy16 =>
              intro W hW
              go_simp
              first | done | with_reducible rfl
            case hk16 =>
            try simp only [Act.put, List.setIfInBounds_toArray, List.set_cons_zero, List.set_cons_succ]
            refine anyK_take 1 (oi := ?oo17) ?ho17 (by kernel_rfl) (by kernel_rfl) (by kernel_rfl) (by kernel_rfl) ?hq17 ?hw17 hT0 (fun _ => trivial) (v := ?vv17) ?hy17 ?hk17
            case ho17 => (simp only [List.getElem?_toArray, List.getElem?_cons_succ, List.getElem?_cons_zero]; rfl)
            case hq17 => exact fun _ _ _ h => h
            case hw17 => rfl
            case hy17 =>
              intro W hW
              go_simp
              first | done | with_reducible rfl
            case hk17 =>
            try simp only [Act.put, List.setIfInBounds_toArray, List.set_cons_zero, List.set_cons_succ]
            refine anyK_take 2 (oi := ?oo18) ?ho18 (by kernel_rfl) (by kernel_rfl) (by kernel_rfl) (by kernel_rfl) ?hq18 ?hw18 hT0 (fun _ => trivial) (v := ?vv18) ?hy18 ?hk18
            case ho18 => (simp only [List.getElem?_toArray, List.getElem?_cons_succ, List.getElem?_cons_zero]; rfl)
            case hq18 => exact fun _ _ _ h => h
            case hw18 => rfl
            case hy18 =>
              intro W hW
              go_simp
              first | done | with_reducible rfl
            case hk18 =>
            try simp only [Act.put, List.setIfInBounds_toArray, List.set_cons_zero, List.set_cons_succ]
            refine anyK_take 3 (oi := ?oo19) ?ho19 (by kernel_rfl) (by kernel_rfl) (by kernel_rfl) (by kernel_rfl) ?hq19 ?hw19 hT0 (fun _ => trivial) (v := ?vv19) ?hy19 ?hk19
            case ho19 => (simp only [List.getElem?_toArray, List.getElem?_cons_succ, List.getElem?_cons_zero]; rfl)
            case hq19 => exact fun _ _ _ h => h
            case hw19 => rfl
            case hy19 =>
              intro W hW
              go_simp
              first | done | with_reducible rfl
            case hk19 =>
            try simp only [Act.put, List.setIfInBounds_toArray, List.set_cons_zero, List.set_cons_succ]
            refine anyK_take 4 (oi := ?oo20) ?ho20 (by kernel_rfl) (by kernel_rfl) (by kernel_rfl) (by kernel_rfl) ?hq20 ?hw20 hT0 (fun _ => trivial) (v := ?vv20) ?hy20 ?hk20
            case ho20 => (simp only [List.getElem?_toArray, List.getElem?_cons_succ, List.getElem?_cons_zero]; rfl)
            case hq20 => exact fun _ _ _ h => h
            case hw20 => rfl
            case hy20 =>
              intro W hW
              go_simp
              first | done | with_reducible rfl
            case hk20 =>
            try simp only [Act.put, List.setIfInBounds_toArray, List.set_cons_zero, List.set_cons_succ]
            refine anyK_take 5 (oi := ?oo21) ?ho21 (by kernel_rfl) (by kernel_rfl) (by kernel_rfl) (by kernel_rfl) ?hq21 ?hw21 hT0 (fun _ => trivial) (v := ?vv21) ?hy21 ?hk21
            case ho21 => (simp only [List.getElem?_toArray, List.getElem?_cons_succ, List.getElem?_cons_zero]; rfl)
            case hq21 => exact fun _ _ _ h => h
            case hw21 => rfl
            case hy21 =>
              intro W hW
              obtain ⟨z0, z1, z2, z3, z4, z5, z6, z7, z8, z9, z10, z11, z12, z13, z14, z15, z16, z17, z18, z19⟩ := hW
              go_simp
              first | done | with_reducible rfl
            case hk21 =>
            try simp only [Act.put, List.setIfInBounds_toArray, List.set_cons_zero, List.set_cons_succ]
            refine anyK_take 6 (oi := ?oo22) ?ho22 (by kernel_rfl) (by kernel_rfl) (by kernel_rfl) (by kernel_rfl) ?hq22 ?hw22 hT0 (fun _ => trivial) (v := ?vv22) ?hy22 ?hk22
            case ho22 => (simp only [List.getElem?_toArray, List.getElem?_cons_succ, List.getElem?_cons_zero]; rfl)
            case hq22 => exact fun _ _ _ h => h
            case hw22 => rfl
            case hy22 =>
              intro W hW
              obtain ⟨z0, z1, z2, z3, z4, z5, z6, z7, z8, z9, z10, z11, z12, z13, z14, z15, z16, z17, z18, z19⟩ := hW
              go_simp
              first | done | with_reducible rfl
            case hk22 =>
            try simp only [Act.put, List.setIfInBounds_toArray, List.set_cons_zero, List.set_cons_succ]
            refine anyK_take 7 (oi := ?oo23) ?ho23 (by kernel_rfl) (by kernel_rfl) (by kernel_rfl) (by kernel_rfl) ?hq23 ?hw23 hT0 (fun _ => trivial) (v := ?vv23) ?hy23 ?hk23
            case ho23 => (simp only [List.getElem?_toArray, List.getElem?_cons_succ, List.getElem?_cons_zero]; rfl)
            case hq23 => exact fun _ _ _ h => h
            case hw23 => rfl
            case hy23 =>
              intro W hW
              obtain ⟨z0, z1, z2, z3, z4, z5, z6, z7, z8, z9, z10, z11, z12, z13, z14, z15, z16, z17, z18, z19⟩ := hW
              go_simp
              first | done | with_reducible rfl
            case hk23 =>
            try simp only [Act.put, List.setIfInBounds_toArray, List.set_cons_zero, List.set_cons_succ]
            refine anyK_take 9 (oi := ?oo24) ?ho24 (by kernel_rfl) (by kernel_rfl) (by kernel_rfl) (by kernel_rfl) ?hq24 ?hw24 hT0 (fun _ => trivial) (v := ?vv24) ?hy24 ?hk24
            case ho24 => (simp only [List.getElem?_toArray, List.getElem?_cons_succ, List.getElem?_cons_zero]; rfl)
            case hq24 => exact fun _ _ _ h => h
            case hw24 => rfl
            case hy24 =>
              intro W hW
              go_simp
              first | done | with_reducible rfl
            case hk24 =>
            try simp only [Act.put, List.setIfInBounds_toArray, List.set_cons_zero, List.set_cons_succ]
            refine anyK_take 10 (oi := ?oo25) ?ho25 (by kernel_rfl) (by kernel_rfl) (by kernel_rfl) (by kernel_rfl) ?hq25 ?hw25 hT0 (fun _ => trivial) (v := ?vv25) ?hy25 ?hk25
            case ho25 => (simp only [List.getElem?_toArray, List.getElem?_cons_succ, List.getElem?_cons_zero]; rfl)
            case hq25 => exact fun _ _ _ h => h
            case hw25 => rfl
            case hy25 =>
              intro W hW
              go_simp
              first | done | with_reducible rfl
            case hk25 =>
            try simp only [Act.put, List.setIfInBounds_toArray, List.set_cons_zero, List.set_cons_succ]
            refine anyK_on1 8 (by kernel_rfl) ?_
            refine anyK_one 8 (o := ?oo26) ?ho26 ?hk26
            case ho26 => (simp only [List.getElem?_toArray, List.getElem?_cons_succ, List.getElem?_cons_zero]; rfl)
            case hk26 =>
            intro K hK
            go_simp
            refine (HMK2.out _ yy).mono ?_
            rintro e wk ⟨v6, rfl, hp6, xx⟩
            try go_wp2_with fail
            replace yy := (And.intro (yy.1.trans (SFr.of_ext xx)) (ext_trans yy.2 xx))
            have HP6 := hide hp6.toI
            have HG6 := hide ((HG5.out.ext (Below.drew (Below.refl _ _))).ext xx)
            clear hp6
            have hT1 := keepK.out _ yy
            refine hK.out _ _ hT1 (fun _ => trivial) ?_
            clear hK K
            try simp only [Act.put, List.setIfInBounds_toArray, List.set_cons_zero, List.set_cons_succ]
            refine anyK_on1 11 (by kernel_rfl) ?_
            refine anyK_one 11 (o := ?oo27) ?ho27 ?hk27
            case ho27 => (simp only [List.getElem?_toArray, List.getElem?_cons_succ, List.getElem?_cons_zero]; rfl)
            case hk27 =>
            intro K hK
            go_simp
            refine (HIH2.out _ _ _ _ HG6.out HL5.out HR5.out HS5.out (.inr HP6.out)).mono ?_
            rintro e wz ⟨rfl, ⟨f7, L7, hg7, hl7, hr7, hs7⟩, xx⟩
            try go_wp2_with fail
            replace yy := (And.intro (yy.1.trans xx) hg7.old)
            have HG7 := hide hg7
            have HL7 := hide hl7
            have HR7 := hide hr7
            have HS7 := hide hs7
            clear hg7 hl7 hr7 hs7
            have hT2 := keepK.out _ yy
            refine hK.out _ _ hT2 (fun _ => trivial) ?_
            clear hK K
            try simp only [Act.put, List.setIfInBounds_toArray, List.set_cons_zero, List.set_cons_succ]
            refine anyK_take 12 (oi := ?oo28) ?ho28 (by kernel_rfl) (by kernel_rfl) (by kernel_rfl) (by kernel_rfl) ?hq28 ?hw28 hT2 (fun _ => trivial) (v := ?vv28) ?hy28 ?hk28
            case ho28 => (simp only [List.getElem?_toArray, List.getElem?_cons_succ, List.getElem?_cons_zero]; rfl)
            case hq28 => exact fun _ _ _ h => h
            case hw28 => rfl
            case hy28 =>
              intro W hW
              go_simp
              first | done | with_reducible rfl
            case hk28 =>
            try simp only [Act.put, List.setIfInBounds_toArray, List.set_cons_zero, List.set_cons_succ]
            refine anyK_on1 13 (by kernel_rfl) ?_
            refine anyK_one 13 (o := ?oo29) ?ho29 ?hk29
            case ho29 => (simp only [List.getElem?_toArray, List.getElem?_cons_succ, List.getElem?_cons_zero]; rfl)
            case hk29 =>
            intro K hK
            go_simp
            refine (HNE2.out _).mono ?_
            rintro e wy ⟨rfl, xx⟩
            try go_wp2_with fail
            replace yy := (And.intro (yy.1.trans (SFr.of_ext xx)) (ext_trans yy.2 xx))
            have HG9 := hide (HG7.out.ext xx)
            have hT3 := keepK.out _ yy
            refine hK.out _ _ hT3 (fun _ => trivial) ?_
            clear hK K
            try simp only [Act.put, List.setIfInBounds_toArray, List.set_cons_zero, List.set_cons_succ]
            refine anyK_take 14 (oi := ?oo30) ?ho30 (by kernel_rfl) (by kernel_rfl) (by kernel_rfl) (by kernel_rfl) ?hq30 ?hw30 hT3 (fun _ => trivial) (v := ?vv30) ?hy30 ?hk30
            case ho30 => (simp only [List.getElem?_toArray, List.getElem?_cons_succ, List.getElem?_cons_zero]; rfl)
            case hq30 => exact fun _ _ _ h => h
            case hw30 => rfl
            case hy30 =>
              intro W hW
              go_simp
              first | done | with_reducible rfl
            case hk30 =>
            try simp only [Act.put, List.setIfInBounds_toArray, List.set_cons_zero, List.set_cons_succ]
            refine anyK_take 15 (oi := ?oo31) ?ho31 (by kernel_rfl) (by kernel_rfl) (by kernel_rfl) (by kernel_rfl) ?hq31 ?hw31 hT3 (fun _ => trivial) (v := ?vv31) ?hy31 ?hk31
            case ho31 => (simp only [List.getElem?_toArray, List.getElem?_cons_succ, List.getElem?_cons_zero]; rfl)
            case hq31 => exact fun _ _ _ h => h
            case hw31 => rfl
            case hy31 =>
              intro W hW
              go_simp
              first | done | with_reducible rfl
            case hk31 =>
            try simp only [Act.put, List.setIfInBounds_toArray, List.set_cons_zero, List.set_cons_succ]
            refine anyK_done (by kernel_rfl) ?_ _
            clear keepK hT0 hT1 hT2 hT3
            have YY := hide yy.1
            clear yy xx hwn HNE2 HMK2 HIH2 HP6 HG6 HG7 HG5 KP5 KM5 KS5 hmax
            go_wp2
            go_roundw
            case rel => exact ⟨j + 1, by omega, by go_num, by rw [HBT.out]; split <;> (congr 1; omega), ⟨f7, L7, HG9.out, HL7.out, HR7.out, HS7.out⟩, FR5.out.trans YY.out⟩
            case measure => simp [intOf]; omega
          · obtain rfl : j = L1.length := by omega
            rw [List.take_length, HFE.out]
            have HPT := hide (sput_any (D := D) (s := ofM R (k + 1) P) HGR.out (by have := HNL.out; have := HL5.out; omega) (by have := HNL.out; have := HL5.out; omega) ((HPS.out.tfr int_tsS ((TFr.of_ext XL.out).trans FR.out.1)).at_ HGR.out.old) HV.out HSO.out)
            have HRN : Hid (RightS R (putS L5 P D (ofM R (k + 1) P))) := hide (HR5.out.put (by have := HDK.out; omega) (by have := HDK.out; rw [show D.toNat = k + 1 by omega]))
            have HSN := hide (HS5.out.put (D := D) (s := ofM R (k + 1) P) HSO.out)
            have HLN : Hid ((putS L5 P D (ofM R (k + 1) P)).length = L.length) := hide (by rw [putS_len, HL5.out])
            have KPR := hide (FR.out.blk (by decide) KPL.out)
            generalize putS L5 P D (ofM R (k + 1) P) = L8 at *
            generalize hzz : ofM R (k + 1) P = z at *
            have HZV := hide hzz
            clear hzz
            have g1 := KPR.out.cell
            go_wp2_with fail
            refine HPT.out.mono ?_
            rintro e w8 ⟨rfl, S8, F8⟩
            have SH := hide S8
            have FH := hide F8
            clear S8 F8 g1 HPT
            go_wp2
            go_ret
            exact ⟨by first | rfl | (rw [HZV.out]; rfl), ⟨f5, L8, SH.out, HLN.out, HRN.out, HSN.out⟩, ((SFr.of_ext XL.out).trans FR.out).trans FH.out⟩
      · have HGY := hide (fun W (h : Ext w W) => sget_yes (D := D) (HG.out.ext h) HNL.out.1 HNL.out.2 (HPA.out.ext h) HV.out HSO.out HSS.out hb)
        have he : scoreS (L.getD (slotI P L.length) none) = ofM R (k + 1) P := by
          have := HDK.out
          rw [HRR.out.get hb, show D.toNat = k + 1 by omega]
        rw [he] at HGY
        clear hb he
        generalize hzz : ofM R (k + 1) P = z at *
        have HZV := hide hzz
        clear hzz
        go_wp2_with fail
        refine (HGY.out _ X2.out).mono ?_
        rintro e w4 ⟨rfl, S4, F4⟩
        have SH := hide S4
        have FH := hide F4
        clear S4 F4 f1 HGY
        go_wp2
        go_ret
        exact ⟨by first | rfl | (rw [HZV.out]; rfl), ⟨_, L, SH.out, rfl, HRR.out, HSS.out⟩, (SFr.of_ext X2.out).trans FH.out⟩
  · have t0 : (resultM R P != 0) = true := by simpa using hz
    have HOZ := hide (of_over hz d)
    have f1 := KP2.out.cell
    clear hz
    generalize overM P (resultM R P) = y at *
    generalize resultM R P = z at *
    go_wp2_with fail
    refine (HOV.out _ X2.out).mono ?_
    rintro e w3 ⟨rfl, x3⟩
    have X3 := hide (ext_trans X2.out x3)
    clear f1 x3 HOV
    go_wp2
    go_ret
    exact ⟨by first | rfl | (rw [HOZ.out]; rfl), ⟨f, L, HG.out.ext X3.out, rfl, HRR.out, HSS.out⟩, SFr.of_ext X3.out⟩
theorem score_any {w0 : World} {BS g : Nat} {R : RulesM} {n : Nat} (hV : Valid R) (hn : 0 < n) (hl : n ≤ 4096) : ∀ (d : Nat) (D : Int) (P : PosM) (u : Value) (w : World) (f : Int) (L : List (Option SlotM)), d ≤ 12 → D = d → StoreAt w0 w BS g R f L → L.length = n → RightS R L → SoundS R L → PosS w0 w u P → Sound R P →
    Calls Tryz.prog 28 #[.pointer (some ⟨BS, 0, none⟩), u, .int .i64 D] w (ScorePost w0 w BS g R n (ofM R d P))
  | 0, D, P, u, w, f, L, hd, hD, hG, hL, hRS, hSS, hPS, hS => by
    subst hL
    exact score_step hD hV hd hG hn hl hRS hSS hPS hS (fun k E Q v W f' L' h => by omega)
  | d + 1, D, P, u, w, f, L, hd, hD, hG, hL, hRS, hSS, hPS, hS => by
    subst hL
    exact score_step hD hV hd hG hn hl hRS hSS hPS hS (fun k E Q v W f' L' h hE h1 h2 h3 h4 h5 h6 => by
      obtain rfl : k = d := by omega
      exact score_any hV hn hl k E Q v W f' L' (by omega) hE h1 h2 h3 h4 h5 h6)

end Go.Proofs.YtfkcigekbgkcmaaGreat
namespace Go.Proofs.YtfkcigekbgkcmaaGreat
open Go.ChangeShapes Go.WideShapes Go.ChangeAt Go.RowKit Go.Shelf
set_option linter.unusedVariables false
set_option linter.unusedSimpArgs false
def SScorePost (w0 w : World) (BS g : Nat) (R : RulesM) (n : Nat) (z : Int) (e : Ending) (w' : World) : Prop := e = .returned (.tuple #[.int .i64 z, .int .i64 0]) ∧ SLoop w0 w' BS g R n w
set_option maxHeartbeats 4000000 in
set_option maxRecDepth 100000 in
theorem sScore_no {w0 w : World} {BS g : Nat} {R : RulesM} {f : Int} {L : List (Option SlotM)} {D : Int} {P : PosM} {u : Value} (hG : StoreAt w0 w BS g R f L) (hn : 0 < L.length) (hl : L.length ≤ 4096) (hRS : RightS R L) (hSS : SoundS R L) (hPS : PosS w0 w u P) (he : perftE R P D ≠ 0) :
    Calls Tryz.prog 9 #[.pointer (some ⟨BS, 0, none⟩), u, .int .i64 D] w fun e w' => e = .returned (.tuple #[.int .i64 0, .int .i64 (perftE R P D)]) ∧ Ext w w' := by
  have hPA := hPS.at_ hG.old
  obtain ⟨cA, cc, aA, ac, bA, bc, rfl, -⟩ := id hPA
  obtain ⟨pA, pc, sA, sc, eA, ec, base, cs, kS, ro, -⟩ := id hG
  have HT := hide (fun W (h : Ext w W) => PfTree_any R P _ _ D W (ro.at_.ext h) (hPA.ext h))
  have t0 : (perftE R P D != 0) = true := by simpa using he
  clear he
  generalize perftE R P D = E at *
  generalize perftN R P D = N at *
  obtain ⟨x1, k1⟩ := blks1 w #[.slice cA P.cells.length cc, .slice aA P.hand0.length ac, .slice bA P.hand1.length bc, .int .i64 P.turn, .int .i64 P.quiet] 29
  have X1 := hide x1
  have KP1 := hide k1
  have KS1 := hide (kS.ext x1)
  clear x1 k1 kS ro hG hn hl hRS hSS hPS hPA
  go_enter Tryz.func9, Tryz.ntmps9
  go_upto_region 1 with fail
  generalize w.alloc (.cells #[.slice cA P.cells.length cc, .slice aA P.hand0.length ac, .slice bA P.hand1.length bc, .int .i64 P.turn, .int .i64 P.quiet] 29) = w1 at *
  generalize w.heap.size = BP at KP1 ⊢
  have keepK := hide (fun W (h : Ext w1 W) => (show (fun W => W.cell? ⟨BP, 0, none⟩ = some (.slice cA P.cells.length cc) ∧ W.cell? ⟨BP, 1, none⟩ = some (.slice aA P.hand0.length ac) ∧ W.cell? ⟨BP, 2, none⟩ = some (.slice bA P.hand1.length bc) ∧ W.cell? ⟨BP, 3, none⟩ = some (.int .i64 P.turn) ∧ W.cell? ⟨BP, 4, none⟩ = some (.int .i64 P.quiet) ∧ W.cell? ⟨BS, 0, none⟩ = some (.string R.name) ∧ W.cell? ⟨BS, 1, none⟩ = some (.int .i64 R.width) ∧ W.cell? ⟨BS, 2, none⟩ = some (.int .i64 R.height) ∧ W.cell? ⟨BS, 3, none⟩ = some (.slice pA R.pieces.length pc) ∧ W.cell? ⟨BS, 4, none⟩ = some (.slice sA R.start.length sc) ∧ W.cell? ⟨BS, 5, none⟩ = some (.bool R.falls) ∧ W.cell? ⟨BS, 6, none⟩ = some (.bool R.keeps) ∧ W.cell? ⟨BS, 7, none⟩ = some (.slice eA R.ends.length ec) ∧ W.cell? ⟨BS, 8, none⟩ = some (.int .i64 R.blocked) ∧ W.cell? ⟨BS, 9, none⟩ = some (.int .i64 R.quiet) ∧ W.cell? ⟨BS, 10, none⟩ = some (.int .i64 R.rept) ∧ Ext w1 W) W from ⟨(KP1.out.ext h).cell 0, (KP1.out.ext h).cell 1, (KP1.out.ext h).cell 2, (KP1.out.ext h).cell 3, (KP1.out.ext h).cell 4, (KS1.out.ext h).cell 0, (KS1.out.ext h).cell 1, (KS1.out.ext h).cell 2, (KS1.out.ext h).cell 3, (KS1.out.ext h).cell 4, (KS1.out.ext h).cell 5, (KS1.out.ext h).cell 6, (KS1.out.ext h).cell 7, (KS1.out.ext h).cell 8, (KS1.out.ext h).cell 9, (KS1.out.ext h).cell 10, h⟩))
  have yy : Ext w1 w1.drew := Below.drew (Below.refl _ _)
  refine region_K (fun W => W.cell? ⟨BP, 0, none⟩ = some (.slice cA P.cells.length cc) ∧ W.cell? ⟨BP, 1, none⟩ = some (.slice aA P.hand0.length ac) ∧ W.cell? ⟨BP, 2, none⟩ = some (.slice bA P.hand1.length bc) ∧ W.cell? ⟨BP, 3, none⟩ = some (.int .i64 P.turn) ∧ W.cell? ⟨BP, 4, none⟩ = some (.int .i64 P.quiet) ∧ W.cell? ⟨BS, 0, none⟩ = some (.string R.name) ∧ W.cell? ⟨BS, 1, none⟩ = some (.int .i64 R.width) ∧ W.cell? ⟨BS, 2, none⟩ = some (.int .i64 R.height) ∧ W.cell? ⟨BS, 3, none⟩ = some (.slice pA R.pieces.length pc) ∧ W.cell? ⟨BS, 4, none⟩ = some (.slice sA R.start.length sc) ∧ W.cell? ⟨BS, 5, none⟩ = some (.bool R.falls) ∧ W.cell? ⟨BS, 6, none⟩ = some (.bool R.keeps) ∧ W.cell? ⟨BS, 7, none⟩ = some (.slice eA R.ends.length ec) ∧ W.cell? ⟨BS, 8, none⟩ = some (.int .i64 R.blocked) ∧ W.cell? ⟨BS, 9, none⟩ = some (.int .i64 R.quiet) ∧ W.cell? ⟨BS, 10, none⟩ = some (.int .i64 R.rept) ∧ Ext w1 W) (fun _ => True) [] (by kernel_rfl) ?_
  have hT0 := keepK.out _ yy
  refine anyK_take 0 (oi := ?oo1) ?ho1 (by kernel_rfl) (by kernel_rfl) (by kernel_rfl) (by kernel_rfl) ?hq1 ?hw1 hT0 (fun _ => trivial) (v := ?vv1) ?hy1 ?hk1
  case ho1 => (simp only [List.getElem?_toArray, List.getElem?_cons_succ, List.getElem?_cons_zero]; rfl)
  case hq1 => exact fun _ _ _ h => h
  case hw1 => rfl
  case hy1 =>
    intro W hW
    go_simp
    first | done | with_reducible rfl
  case hk1 =>
  try simp only [Act.put, List.setIfInBounds_toArray, List.set_cons_zero, List.set_cons_succ]
  refine anyK_take 1 (oi := ?oo2) ?ho2 (by kernel_rfl) (by kernel_rfl) (by kernel_rfl) (by kernel_rfl) ?hq2 ?hw2 hT0 (fun _ => trivial) (v := ?vv2) ?hy2 ?hk2
  case ho2 => (simp only [List.getElem?_toArray, List.getElem?_cons_succ, List.getElem?_cons_zero]; rfl)
  case hq2 => exact fun _ _ _ h => h
  case hw2 => rfl
  case hy2 =>
    intro W hW
    go_simp
    first | done | with_reducible rfl
  case hk2 =>
  try simp only [Act.put, List.setIfInBounds_toArray, List.set_cons_zero, List.set_cons_succ]
  refine anyK_take 2 (oi := ?oo3) ?ho3 (by kernel_rfl) (by kernel_rfl) (by kernel_rfl) (by kernel_rfl) ?hq3 ?hw3 hT0 (fun _ => trivial) (v := ?vv3) ?hy3 ?hk3
  case ho3 => (simp only [List.getElem?_toArray, List.getElem?_cons_succ, List.getElem?_cons_zero]; rfl)
  case hq3 => exact fun _ _ _ h => h
  case hw3 => rfl
  case hy3 =>
    intro W hW
    go_simp
    first | done | with_reducible rfl
  case hk3 =>
  try simp only [Act.put, List.setIfInBounds_toArray, List.set_cons_zero, List.set_cons_succ]
  refine anyK_take 3 (oi := ?oo4) ?ho4 (by kernel_rfl) (by kernel_rfl) (by kernel_rfl) (by kernel_rfl) ?hq4 ?hw4 hT0 (fun _ => trivial) (v := ?vv4) ?hy4 ?hk4
  case ho4 => (simp only [List.getElem?_toArray, List.getElem?_cons_succ, List.getElem?_cons_zero]; rfl)
  case hq4 => exact fun _ _ _ h => h
  case hw4 => rfl
  case hy4 =>
    intro W hW
    obtain ⟨z0, z1, z2, z3, z4, z5, z6, z7, z8, z9, z10, z11, z12, z13, z14, z15, z16⟩ := hW
    go_simp
    first | done | with_reducible rfl
  case hk4 =>
  try simp only [Act.put, List.setIfInBounds_toArray, List.set_cons_zero, List.set_cons_succ]
  refine anyK_take 4 (oi := ?oo5) ?ho5 (by kernel_rfl) (by kernel_rfl) (by kernel_rfl) (by kernel_rfl) ?hq5 ?hw5 hT0 (fun _ => trivial) (v := ?vv5) ?hy5 ?hk5
  case ho5 => (simp only [List.getElem?_toArray, List.getElem?_cons_succ, List.getElem?_cons_zero]; rfl)
  case hq5 => exact fun _ _ _ h => h
  case hw5 => rfl
  case hy5 =>
    intro W hW
    obtain ⟨z0, z1, z2, z3, z4, z5, z6, z7, z8, z9, z10, z11, z12, z13, z14, z15, z16⟩ := hW
    go_simp
    first | done | with_reducible rfl
  case hk5 =>
  try simp only [Act.put, List.setIfInBounds_toArray, List.set_cons_zero, List.set_cons_succ]
  refine anyK_take 5 (oi := ?oo6) ?ho6 (by kernel_rfl) (by kernel_rfl) (by kernel_rfl) (by kernel_rfl) ?hq6 ?hw6 hT0 (fun _ => trivial) (v := ?vv6) ?hy6 ?hk6
  case ho6 => (simp only [List.getElem?_toArray, List.getElem?_cons_succ, List.getElem?_cons_zero]; rfl)
  case hq6 => exact fun _ _ _ h => h
  case hw6 => rfl
  case hy6 =>
    intro W hW
    go_simp
    first | done | with_reducible rfl
  case hk6 =>
  try simp only [Act.put, List.setIfInBounds_toArray, List.set_cons_zero, List.set_cons_succ]
  refine anyK_on1 6 (by kernel_rfl) ?_
  refine anyK_one 6 (o := ?oo7) ?ho7 ?hk7
  case ho7 => (simp only [List.getElem?_toArray, List.getElem?_cons_succ, List.getElem?_cons_zero]; rfl)
  case hk7 =>
  intro K hK
  go_simp
  refine (HT.out _ (ext_trans X1.out yy)).mono ?_
  rintro e w2 ⟨rfl, xx⟩
  try go_wp2_with fail
  replace yy := ext_trans yy xx
  have hT1 := keepK.out _ yy
  refine hK.out _ _ hT1 (fun _ => trivial) ?_
  clear hK K
  try simp only [Act.put, List.setIfInBounds_toArray, List.set_cons_zero, List.set_cons_succ]
  refine anyK_take 7 (oi := ?oo8) ?ho8 (by kernel_rfl) (by kernel_rfl) (by kernel_rfl) (by kernel_rfl) ?hq8 ?hw8 hT1 (fun _ => trivial) (v := ?vv8) ?hy8 ?hk8
  case ho8 => (simp only [List.getElem?_toArray, List.getElem?_cons_succ, List.getElem?_cons_zero]; rfl)
  case hq8 => exact fun _ _ _ h => h
  case hw8 => rfl
  case hy8 =>
    intro W hW
    go_simp
    first | done | with_reducible rfl
  case hk8 =>
  try simp only [Act.put, List.setIfInBounds_toArray, List.set_cons_zero, List.set_cons_succ]
  refine anyK_take 8 (oi := ?oo9) ?ho9 (by kernel_rfl) (by kernel_rfl) (by kernel_rfl) (by kernel_rfl) ?hq9 ?hw9 hT1 (fun _ => trivial) (v := ?vv9) ?hy9 ?hk9
  case ho9 => (simp only [List.getElem?_toArray, List.getElem?_cons_succ, List.getElem?_cons_zero]; rfl)
  case hq9 => exact fun _ _ _ h => h
  case hw9 => rfl
  case hy9 =>
    intro W hW
    go_simp
    first | done | with_reducible rfl
  case hk9 =>
  try simp only [Act.put, List.setIfInBounds_toArray, List.set_cons_zero, List.set_cons_succ]
  refine anyK_take 9 (oi := ?oo10) ?ho10 (by kernel_rfl) (by kernel_rfl) (by kernel_rfl) (by kernel_rfl) ?hq10 ?hw10 hT1 (fun _ => trivial) (v := ?vv10) ?hy10 ?hk10
  case ho10 => (simp only [List.getElem?_toArray, List.getElem?_cons_succ, List.getElem?_cons_zero]; rfl)
  case hq10 => exact fun _ _ _ h => h
  case hw10 => rfl
  case hy10 =>
    intro W hW
    go_simp
    first | done | with_reducible rfl
  case hk10 =>
  try simp only [Act.put, List.setIfInBounds_toArray, List.set_cons_zero, List.set_cons_succ]
  refine anyK_take 10 (oi := ?oo11) ?ho11 (by kernel_rfl) (by kernel_rfl) (by kernel_rfl) (by kernel_rfl) ?hq11 ?hw11 hT1 (fun _ => trivial) (v := ?vv11) ?hy11 ?hk11
  case ho11 => (simp only [List.getElem?_toArray, List.getElem?_cons_succ, List.getElem?_cons_zero]; rfl)
  case hq11 => exact fun _ _ _ h => h
  case hw11 => rfl
  case hy11 =>
    intro W hW
    go_simp
    first | done | with_reducible rfl
  case hk11 =>
  try simp only [Act.put, List.setIfInBounds_toArray, List.set_cons_zero, List.set_cons_succ]
  refine anyK_take 11 (oi := ?oo12) ?ho12 (by kernel_rfl) (by kernel_rfl) (by kernel_rfl) (by kernel_rfl) ?hq12 ?hw12 hT1 (fun _ => trivial) (v := ?vv12) ?hy12 ?hk12
  case ho12 => (simp only [List.getElem?_toArray, List.getElem?_cons_succ, List.getElem?_cons_zero]; rfl)
  case hq12 => exact fun _ _ _ h => h
  case hw12 => rfl
  case hy12 =>
    intro W hW
    go_simp
    first | done | with_reducible rfl
  case hk12 =>
  try simp only [Act.put, List.setIfInBounds_toArray, List.set_cons_zero, List.set_cons_succ]
  refine anyK_done (by kernel_rfl) ?_ _
  clear keepK hT0 hT1
  go_wp2
  go_ret2
  exact ⟨rfl, ext_trans X1.out yy⟩
set_option maxHeartbeats 4000000 in
set_option maxRecDepth 100000 in
theorem sScore_yes {w0 w : World} {BS g : Nat} {R : RulesM} {f : Int} {L : List (Option SlotM)} {D : Int} {P : PosM} {u : Value} (hG : StoreAt w0 w BS g R f L) (hn : 0 < L.length) (hl : L.length ≤ 4096) (hRS : RightS R L) (hSS : SoundS R L) (hPS : PosS w0 w u P) (he : perftE R P D = 0) :
    Calls Tryz.prog 9 #[.pointer (some ⟨BS, 0, none⟩), u, .int .i64 D] w (SScorePost w0 w BS g R L.length (ofM R D.toNat P)) := by
  have hPA := hPS.at_ hG.old
  obtain ⟨cA, cc, aA, ac, bA, bc, rfl, -⟩ := id hPA
  obtain ⟨pA, pc, sA, sc, eA, ec, base, cs, kS, ro, -⟩ := id hG
  have HT := hide (fun W (h : Ext w W) => PfTree_any R P _ _ D W (ro.at_.ext h) (hPA.ext h))
  rw [he] at HT
  obtain ⟨hV, hS, d0, d1, -⟩ := perft_zero he
  have HSC := hide (fun W (h : Ext w W) => score_any hV hn hl D.toNat D P _ W f L (by omega) (by omega) (hG.ext h) rfl hRS hSS (hPS.tfr (ts := []) (by simp) (TFr.of_ext h)) hS)
  unfold SScorePost
  clear he hV hS d0 d1
  generalize ofM R D.toNat P = z at *
  generalize perftN R P D = N at *
  obtain ⟨x1, k1⟩ := blks1 w #[.slice cA P.cells.length cc, .slice aA P.hand0.length ac, .slice bA P.hand1.length bc, .int .i64 P.turn, .int .i64 P.quiet] 29
  have X1 := hide x1
  have KP1 := hide k1
  have KS1 := hide (kS.ext x1)
  clear x1 k1 kS ro hG hn hl hRS hSS hPS hPA
  go_enter Tryz.func9, Tryz.ntmps9
  go_upto_region 1 with fail
  generalize w.alloc (.cells #[.slice cA P.cells.length cc, .slice aA P.hand0.length ac, .slice bA P.hand1.length bc, .int .i64 P.turn, .int .i64 P.quiet] 29) = w1 at *
  generalize w.heap.size = BP at KP1 ⊢
  have keepK := hide (fun W (h : Ext w1 W) => (show (fun W => W.cell? ⟨BP, 0, none⟩ = some (.slice cA P.cells.length cc) ∧ W.cell? ⟨BP, 1, none⟩ = some (.slice aA P.hand0.length ac) ∧ W.cell? ⟨BP, 2, none⟩ = some (.slice bA P.hand1.length bc) ∧ W.cell? ⟨BP, 3, none⟩ = some (.int .i64 P.turn) ∧ W.cell? ⟨BP, 4, none⟩ = some (.int .i64 P.quiet) ∧ W.cell? ⟨BS, 0, none⟩ = some (.string R.name) ∧ W.cell? ⟨BS, 1, none⟩ = some (.int .i64 R.width) ∧ W.cell? ⟨BS, 2, none⟩ = some (.int .i64 R.height) ∧ W.cell? ⟨BS, 3, none⟩ = some (.slice pA R.pieces.length pc) ∧ W.cell? ⟨BS, 4, none⟩ = some (.slice sA R.start.length sc) ∧ W.cell? ⟨BS, 5, none⟩ = some (.bool R.falls) ∧ W.cell? ⟨BS, 6, none⟩ = some (.bool R.keeps) ∧ W.cell? ⟨BS, 7, none⟩ = some (.slice eA R.ends.length ec) ∧ W.cell? ⟨BS, 8, none⟩ = some (.int .i64 R.blocked) ∧ W.cell? ⟨BS, 9, none⟩ = some (.int .i64 R.quiet) ∧ W.cell? ⟨BS, 10, none⟩ = some (.int .i64 R.rept) ∧ Ext w1 W) W from ⟨(KP1.out.ext h).cell 0, (KP1.out.ext h).cell 1, (KP1.out.ext h).cell 2, (KP1.out.ext h).cell 3, (KP1.out.ext h).cell 4, (KS1.out.ext h).cell 0, (KS1.out.ext h).cell 1, (KS1.out.ext h).cell 2, (KS1.out.ext h).cell 3, (KS1.out.ext h).cell 4, (KS1.out.ext h).cell 5, (KS1.out.ext h).cell 6, (KS1.out.ext h).cell 7, (KS1.out.ext h).cell 8, (KS1.out.ext h).cell 9, (KS1.out.ext h).cell 10, h⟩))
  have yy : Ext w1 w1.drew := Below.drew (Below.refl _ _)
  refine region_K (fun W => W.cell? ⟨BP, 0, none⟩ = some (.slice cA P.cells.length cc) ∧ W.cell? ⟨BP, 1, none⟩ = some (.slice aA P.hand0.length ac) ∧ W.cell? ⟨BP, 2, none⟩ = some (.slice bA P.hand1.length bc) ∧ W.cell? ⟨BP, 3, none⟩ = some (.int .i64 P.turn) ∧ W.cell? ⟨BP, 4, none⟩ = some (.int .i64 P.quiet) ∧ W.cell? ⟨BS, 0, none⟩ = some (.string R.name) ∧ W.cell? ⟨BS, 1, none⟩ = some (.int .i64 R.width) ∧ W.cell? ⟨BS, 2, none⟩ = some (.int .i64 R.height) ∧ W.cell? ⟨BS, 3, none⟩ = some (.slice pA R.pieces.length pc) ∧ W.cell? ⟨BS, 4, none⟩ = some (.slice sA R.start.length sc) ∧ W.cell? ⟨BS, 5, none⟩ = some (.bool R.falls) ∧ W.cell? ⟨BS, 6, none⟩ = some (.bool R.keeps) ∧ W.cell? ⟨BS, 7, none⟩ = some (.slice eA R.ends.length ec) ∧ W.cell? ⟨BS, 8, none⟩ = some (.int .i64 R.blocked) ∧ W.cell? ⟨BS, 9, none⟩ = some (.int .i64 R.quiet) ∧ W.cell? ⟨BS, 10, none⟩ = some (.int .i64 R.rept) ∧ Ext w1 W) (fun _ => True) [] (by kernel_rfl) ?_
  have hT0 := keepK.out _ yy
  refine anyK_take 0 (oi := ?oo13) ?ho13 (by kernel_rfl) (by kernel_rfl) (by kernel_rfl) (by kernel_rfl) ?hq13 ?hw13 hT0 (fun _ => trivial) (v := ?vv13) ?hy13 ?hk13
  case ho13 => (simp only [List.getElem?_toArray, List.getElem?_cons_succ, List.getElem?_cons_zero]; rfl)
  case hq13 => exact fun _ _ _ h => h
  case hw13 => rfl
  case hy13 =>
    intro W hW
    go_simp
    first | done | with_reducible rfl
  case hk13 =>
  try simp only [Act.put, List.setIfInBounds_toArray, List.set_cons_zero, List.set_cons_succ]
  refine anyK_take 1 (oi := ?oo14) ?ho14 (by kernel_rfl) (by kernel_rfl) (by kernel_rfl) (by kernel_rfl) ?hq14 ?hw14 hT0 (fun _ => trivial) (v := ?vv14) ?hy14 ?hk14
  case ho14 => (simp only [List.getElem?_toArray, List.getElem?_cons_succ, List.getElem?_cons_zero]; rfl)
  case hq14 => exact fun _ _ _ h => h
  case hw14 => rfl
  case hy14 =>
    intro W hW
    go_simp
    first | done | with_reducible rfl
  case hk14 =>
  try simp only [Act.put, List.setIfInBounds_toArray, List.set_cons_zero, List.set_cons_succ]
  refine anyK_take 2 (oi := ?oo15) ?ho15 (by kernel_rfl) (by kernel_rfl) (by kernel_rfl) (by kernel_rfl) ?hq15 ?hw15 hT0 (fun _ => trivial) (v := ?vv15) ?hy15 ?hk15
  case ho15 => (simp only [List.getElem?_toArray, List.getElem?_cons_succ, List.getElem?_cons_zero]; rfl)
  case hq15 => exact fun _ _ _ h => h
  case hw15 => rfl
  case hy15 =>
    intro W hW
    go_simp
    first | done | with_reducible rfl
  case hk15 =>
  try simp only [Act.put, List.setIfInBounds_toArray, List.set_cons_zero, List.set_cons_succ]
  refine anyK_take 3 (oi := ?oo16) ?ho16 (by kernel_rfl) (by kernel_rfl) (by kernel_rfl) (by kernel_rfl) ?hq16 ?hw16 hT0 (fun _ => trivial) (v := ?vv16) ?hy16 ?hk16
  case ho16 => (simp only [List.getElem?_toArray, List.getElem?_cons_succ, List.getElem?_cons_zero]; rfl)
  case hq16 => exact fun _ _ _ h => h
  case hw16 => rfl
  case hy16 =>
    intro W hW
    obtain ⟨z0, z1, z2, z3, z4, z5, z6, z7, z8, z9, z10, z11, z12, z13, z14, z15, z16⟩ := hW
    go_simp
    first | done | with_reducible rfl
  case hk16 =>
  try simp only [Act.put, List.setIfInBounds_toArray, List.set_cons_zero, List.set_cons_succ]
  refine anyK_take 4 (oi := ?oo17) ?ho17 (by kernel_rfl) (by kernel_rfl) (by kernel_rfl) (by kernel_rfl) ?hq17 ?hw17 hT0 (fun _ => trivial) (v := ?vv17) ?hy17 ?hk17
  case ho17 => (simp only [List.getElem?_toArray, List.getElem?_cons_succ, List.getElem?_cons_zero]; rfl)
  case hq17 => exact fun _ _ _ h => h
  case hw17 => rfl
  case hy17 =>
    intro W hW
    obtain ⟨z0, z1, z2, z3, z4, z5, z6, z7, z8, z9, z10, z11, z12, z13, z14, z15, z16⟩ := hW
    go_simp
    first | done | with_reducible rfl
  case hk17 =>
  try simp only [Act.put, List.setIfInBounds_toArray, List.set_cons_zero, List.set_cons_succ]
  refine anyK_take 5 (oi := ?oo18) ?ho18 (by kernel_rfl) (by kernel_rfl) (by kernel_rfl) (by kernel_rfl) ?hq18 ?hw18 hT0 (fun _ => trivial) (v := ?vv18) ?hy18 ?hk18
  case ho18 => (simp only [List.getElem?_toArray, List.getElem?_cons_succ, List.getElem?_cons_zero]; rfl)
  case hq18 => exact fun _ _ _ h => h
  case hw18 => rfl
  case hy18 =>
    intro W hW
    go_simp
    first | done | with_reducible rfl
  case hk18 =>
  try simp only [Act.put, List.setIfInBounds_toArray, List.set_cons_zero, List.set_cons_succ]
  refine anyK_on1 6 (by kernel_rfl) ?_
  refine anyK_one 6 (o := ?oo19) ?ho19 ?hk19
  case ho19 => (simp only [List.getElem?_toArray, List.getElem?_cons_succ, List.getElem?_cons_zero]; rfl)
  case hk19 =>
  intro K hK
  go_simp
  refine (HT.out _ (ext_trans X1.out yy)).mono ?_
  rintro e w2 ⟨rfl, xx⟩
  try go_wp2_with fail
  replace yy := ext_trans yy xx
  have hT1 := keepK.out _ yy
  refine hK.out _ _ hT1 (fun _ => trivial) ?_
  clear hK K
  try simp only [Act.put, List.setIfInBounds_toArray, List.set_cons_zero, List.set_cons_succ]
  refine anyK_take 7 (oi := ?oo20) ?ho20 (by kernel_rfl) (by kernel_rfl) (by kernel_rfl) (by kernel_rfl) ?hq20 ?hw20 hT1 (fun _ => trivial) (v := ?vv20) ?hy20 ?hk20
  case ho20 => (simp only [List.getElem?_toArray, List.getElem?_cons_succ, List.getElem?_cons_zero]; rfl)
  case hq20 => exact fun _ _ _ h => h
  case hw20 => rfl
  case hy20 =>
    intro W hW
    go_simp
    first | done | with_reducible rfl
  case hk20 =>
  try simp only [Act.put, List.setIfInBounds_toArray, List.set_cons_zero, List.set_cons_succ]
  refine anyK_take 8 (oi := ?oo21) ?ho21 (by kernel_rfl) (by kernel_rfl) (by kernel_rfl) (by kernel_rfl) ?hq21 ?hw21 hT1 (fun _ => trivial) (v := ?vv21) ?hy21 ?hk21
  case ho21 => (simp only [List.getElem?_toArray, List.getElem?_cons_succ, List.getElem?_cons_zero]; rfl)
  case hq21 => exact fun _ _ _ h => h
  case hw21 => rfl
  case hy21 =>
    intro W hW
    go_simp
    first | done | with_reducible rfl
  case hk21 =>
  try simp only [Act.put, List.setIfInBounds_toArray, List.set_cons_zero, List.set_cons_succ]
  refine anyK_take 9 (oi := ?oo22) ?ho22 (by kernel_rfl) (by kernel_rfl) (by kernel_rfl) (by kernel_rfl) ?hq22 ?hw22 hT1 (fun _ => trivial) (v := ?vv22) ?hy22 ?hk22
  case ho22 => (simp only [List.getElem?_toArray, List.getElem?_cons_succ, List.getElem?_cons_zero]; rfl)
  case hq22 => exact fun _ _ _ h => h
  case hw22 => rfl
  case hy22 =>
    intro W hW
    go_simp
    first | done | with_reducible rfl
  case hk22 =>
  try simp only [Act.put, List.setIfInBounds_toArray, List.set_cons_zero, List.set_cons_succ]
  refine anyK_take 10 (oi := ?oo23) ?ho23 (by kernel_rfl) (by kernel_rfl) (by kernel_rfl) (by kernel_rfl) ?hq23 ?hw23 hT1 (fun _ => trivial) (v := ?vv23) ?hy23 ?hk23
  case ho23 => (simp only [List.getElem?_toArray, List.getElem?_cons_succ, List.getElem?_cons_zero]; rfl)
  case hq23 => exact fun _ _ _ h => h
  case hw23 => rfl
  case hy23 =>
    intro W hW
    go_simp
    first | done | with_reducible rfl
  case hk23 =>
  try simp only [Act.put, List.setIfInBounds_toArray, List.set_cons_zero, List.set_cons_succ]
  refine anyK_take 11 (oi := ?oo24) ?ho24 (by kernel_rfl) (by kernel_rfl) (by kernel_rfl) (by kernel_rfl) ?hq24 ?hw24 hT1 (fun _ => trivial) (v := ?vv24) ?hy24 ?hk24
  case ho24 => (simp only [List.getElem?_toArray, List.getElem?_cons_succ, List.getElem?_cons_zero]; rfl)
  case hq24 => exact fun _ _ _ h => h
  case hw24 => rfl
  case hy24 =>
    intro W hW
    go_simp
    first | done | with_reducible rfl
  case hk24 =>
  try simp only [Act.put, List.setIfInBounds_toArray, List.set_cons_zero, List.set_cons_succ]
  refine anyK_done (by kernel_rfl) ?_ _
  clear keepK hT0 hT1
  have X2 := hide (ext_trans X1.out yy)
  have KP2 := hide (KP1.out.ext yy)
  have f1 := KP2.out.cell
  clear yy xx
  go_wp2_with fail
  refine (HSC.out _ X2.out).mono ?_
  rintro e w5 ⟨rfl, hs, fr⟩
  have HS := hide hs
  have FR := hide fr
  clear hs fr f1 HSC
  go_wp2
  go_ret2
  exact ⟨rfl, HS.out, (SFr.of_ext X2.out).trans FR.out⟩

theorem slotInfo : (Tryz.prog.info? 67).map (fun i => (i.zero, i.size, i.bytes)) = some (some (.agg #[.bool false, .slice none 0 0, .slice none 0 0, .slice none 0 0, .int .i64 0, .int .i64 0, .int .i64 0, .int .i64 0]), 8, 112) := by kernel_rfl
def slotZ (n : Nat) : Array Value := madeCells #[.bool false, .slice none 0 0, .slice none 0 0, .slice none 0 0, .int .i64 0, .int .i64 0, .int .i64 0, .int .i64 0] (n * 8)
theorem make_slots (n : Nat) (hn : n ≤ 4096) (w : World) : (Instr.makeSlice 61 (.int .i64 (n : Int)) (.int .i64 (n : Int))).run Tryz.prog w = .ok (.slice (some ⟨w.heap.size, 0, none⟩) n n) (w.alloc (.cells (slotZ n) 67)) := by
  obtain ⟨i, hi, hz, hs, hb⟩ := info_parts slotInfo
  have hr := run_make (P := Tryz.prog) w 61 67 i _ (by kernel_rfl) hi hz .i64 .i64 (n : Int) (n : Int) (by omega) (by omega) (by rw [hb]; omega) (by omega)
  rw [hr, hs, Int.toNat_natCast]
  rfl
theorem slotZ_get (n k j : Nat) (hk : k < n) (hj : j < 8) : (slotZ n)[k * 8 + j]? = #[Value.bool false, .slice none 0 0, .slice none 0 0, .slice none 0 0, .int .i64 0, .int .i64 0, .int .i64 0, .int .i64 0][j]? := by
  unfold slotZ madeCells
  have hl : k * 8 + j < n * 8 := by omega
  have hm : (k * 8 + j) % 8 = j := by omega
  rw [Array.getElem?_map, Array.getElem?_eq_getElem (by simpa using hl)]
  simp only [Array.getElem_range, Option.map_some]
  have hsz : (#[Value.bool false, .slice none 0 0, .slice none 0 0, .slice none 0 0, .int .i64 0, .int .i64 0, .int .i64 0, .int .i64 0] : Array Value).size = 8 := rfl
  rw [hsz, hm]
  have h8 : j = 0 ∨ j = 1 ∨ j = 2 ∨ j = 3 ∨ j = 4 ∨ j = 5 ∨ j = 6 ∨ j = 7 := by omega
  rcases h8 with rfl | rfl | rfl | rfl | rfl | rfl | rfl | rfl <;> rfl
theorem store_new {w0 W : World} {BS g n base : Nat} {R : RulesM} {pA sA eA : Option Addr} {pc sc ec : Nat} (kS : Blk W BS 63 #[.string R.name, .int .i64 R.width, .int .i64 R.height, .slice pA R.pieces.length pc, .slice sA R.start.length sc, .bool R.falls, .bool R.keeps, .slice eA R.ends.length ec, .int .i64 R.blocked, .int .i64 R.quiet, .int .i64 R.rept, .slice (some ⟨g, 0, none⟩) n n, .int .i64 0]) (ro : RulesOwn W base (.agg #[.string R.name, .int .i64 R.width, .int .i64 R.height, .slice pA R.pieces.length pc, .slice sA R.start.length sc, .bool R.falls, .bool R.keeps, .slice eA R.ends.length ec, .int .i64 R.blocked, .int .i64 R.quiet, .int .i64 R.rept]) R) (kg : Blk W g 67 (slotZ n)) (h1 : w0.heap.size ≤ BS) (h2 : w0.heap.size ≤ g) (x : Ext w0 W) :
    StoreAt w0 W BS g R 0 (List.replicate n none) := by
  refine ⟨pA, pc, sA, sc, eA, ec, base, slotZ n, by rw [List.length_replicate]; exact kS, ro, kg, by rw [List.length_replicate]; simp [slotZ, madeCells], fun i y hi => ?_, h1, h2, x⟩
  have hlt : i < n := by have := (List.getElem?_eq_some_iff.1 hi).1; simpa using this
  rw [List.getElem?_replicate, if_pos hlt] at hi
  cases hi
  have hr := fun j (hj : j < 8) => (kg.cell (i * 8 + j)).trans (slotZ_get n i j hlt hj)
  exact ⟨false, none, 0, 0, none, 0, 0, none, 0, 0, 0, 0, 0, 0, hr 0 (by omega), hr 1 (by omega), hr 2 (by omega), hr 3 (by omega), hr 4 (by omega), hr 5 (by omega), hr 6 (by omega), hr 7 (by omega), rfl⟩
set_option maxHeartbeats 2000000 in
set_option maxRecDepth 100000 in
theorem sNew_no (R : RulesM) (v : Value) (n : Int) (w : World) (hR : RulesAt w v R) (h : rulesE R ≠ 0) :
    Calls Tryz.prog 7 #[v, .int .i64 n] w fun e w' => e = .returned (.tuple #[.pointer none, .int .i64 (rulesE R)]) ∧ Ext w w' := by
  have HC := hide (fun W (h : Ext w W) => Check_any v R W (hR.ext h))
  obtain ⟨pA, pc, sA, sc, eA, ec, rfl, -⟩ := hR
  have t0 : (rulesE R != 0) = true := by simpa using h
  obtain ⟨x1, k1⟩ := blks1 w #[.string R.name, .int .i64 R.width, .int .i64 R.height, .slice pA R.pieces.length pc, .slice sA R.start.length sc, .bool R.falls, .bool R.keeps, .slice eA R.ends.length ec, .int .i64 R.blocked, .int .i64 R.quiet, .int .i64 R.rept] 26
  have X1 := hide x1
  have f1 := k1.cell
  unfold ECode at HC
  clear x1 k1 h
  generalize rulesE R = E at *
  go_enter Tryz.func7, Tryz.ntmps7
  go_wp2_with fail
  refine (HC.out _ X1.out).mono ?_
  rintro e w2 ⟨rfl, x2⟩
  have X2 := hide (ext_trans X1.out x2)
  clear f1 x2 X1 HC
  go_wp2
  go_ret2
  exact ⟨rfl, X2.out⟩
def SNewPost (w : World) (R : RulesM) (n : Nat) (e : Ending) (w' : World) : Prop := ∃ BS g, e = .returned (.tuple #[.pointer (some ⟨BS, 0, none⟩), .int .i64 0]) ∧ StoreAt w w' BS g R 0 (List.replicate n none)
set_option maxHeartbeats 4000000 in
set_option maxRecDepth 100000 in
theorem sNew_yes (R : RulesM) (v : Value) (n : Nat) (w : World) (hR : RulesAt w v R) (hV : Valid R) (h0 : 1 ≤ n) (h1 : n ≤ 4096) :
    Calls Tryz.prog 7 #[v, .int .i64 (n : Int)] w (SNewPost w R n) := by
  have HC := hide (fun W (h : Ext w W) => Check_any v R W (hR.ext h))
  have HCP := hide (fun W (h : Ext w W) => Copy_any v R W (hR.ext h) hV)
  have hmk := make_slots n h1
  have t0 : decide ((n : Int) < 1) = false := decide_eq_false (by omega)
  have t1 : decide ((4096 : Int) < (n : Int)) = false := decide_eq_false (by omega)
  unfold SNewPost
  obtain ⟨pA, pc, sA, sc, eA, ec, rfl, -⟩ := hR
  obtain ⟨x1, k1⟩ := blks1 w #[.string R.name, .int .i64 R.width, .int .i64 R.height, .slice pA R.pieces.length pc, .slice sA R.start.length sc, .bool R.falls, .bool R.keeps, .slice eA R.ends.length ec, .int .i64 R.blocked, .int .i64 R.quiet, .int .i64 R.rept] 26
  have X1 := hide x1
  have K1 := hide k1
  have f1 := k1.cell
  unfold ECode at HC
  rw [of_valid hV] at HC
  clear x1 k1 hV h0 h1
  go_enter Tryz.func7, Tryz.ntmps7
  go_wp2_with fail
  refine (HC.out _ X1.out).mono ?_
  rintro e w4 ⟨rfl, x2⟩
  have KR := hide (K1.out.ext x2)
  have X4 := hide (ext_trans X1.out x2)
  clear f1 x2 X1 HC K1
  go_upto_region 6 with fail
  generalize hBR : w.heap.size = BR at KR ⊢
  clear hBR
  have keepK := hide (fun W (h : Ext w4 W) => (show (fun W => W.cell? ⟨BR, 0, none⟩ = some (.string R.name) ∧ W.cell? ⟨BR, 1, none⟩ = some (.int .i64 R.width) ∧ W.cell? ⟨BR, 2, none⟩ = some (.int .i64 R.height) ∧ W.cell? ⟨BR, 3, none⟩ = some (.slice pA R.pieces.length pc) ∧ W.cell? ⟨BR, 4, none⟩ = some (.slice sA R.start.length sc) ∧ W.cell? ⟨BR, 5, none⟩ = some (.bool R.falls) ∧ W.cell? ⟨BR, 6, none⟩ = some (.bool R.keeps) ∧ W.cell? ⟨BR, 7, none⟩ = some (.slice eA R.ends.length ec) ∧ W.cell? ⟨BR, 8, none⟩ = some (.int .i64 R.blocked) ∧ W.cell? ⟨BR, 9, none⟩ = some (.int .i64 R.quiet) ∧ W.cell? ⟨BR, 10, none⟩ = some (.int .i64 R.rept) ∧ Ext w4 W) W from ⟨(KR.out.ext h).cell 0, (KR.out.ext h).cell 1, (KR.out.ext h).cell 2, (KR.out.ext h).cell 3, (KR.out.ext h).cell 4, (KR.out.ext h).cell 5, (KR.out.ext h).cell 6, (KR.out.ext h).cell 7, (KR.out.ext h).cell 8, (KR.out.ext h).cell 9, (KR.out.ext h).cell 10, h⟩))
  have yy : Ext w4 w4.drew := Below.drew (Below.refl _ _)
  refine region_K (fun W => W.cell? ⟨BR, 0, none⟩ = some (.string R.name) ∧ W.cell? ⟨BR, 1, none⟩ = some (.int .i64 R.width) ∧ W.cell? ⟨BR, 2, none⟩ = some (.int .i64 R.height) ∧ W.cell? ⟨BR, 3, none⟩ = some (.slice pA R.pieces.length pc) ∧ W.cell? ⟨BR, 4, none⟩ = some (.slice sA R.start.length sc) ∧ W.cell? ⟨BR, 5, none⟩ = some (.bool R.falls) ∧ W.cell? ⟨BR, 6, none⟩ = some (.bool R.keeps) ∧ W.cell? ⟨BR, 7, none⟩ = some (.slice eA R.ends.length ec) ∧ W.cell? ⟨BR, 8, none⟩ = some (.int .i64 R.blocked) ∧ W.cell? ⟨BR, 9, none⟩ = some (.int .i64 R.quiet) ∧ W.cell? ⟨BR, 10, none⟩ = some (.int .i64 R.rept) ∧ Ext w4 W) (fun _ => True) [] (by kernel_rfl) ?_
  have hT0 := keepK.out _ yy
  refine anyK_take 0 (oi := ?oo25) ?ho25 (by kernel_rfl) (by kernel_rfl) (by kernel_rfl) (by kernel_rfl) ?hq25 ?hw25 hT0 (fun _ => trivial) (v := ?vv25) ?hy25 ?hk25
  case ho25 => (simp only [List.getElem?_toArray, List.getElem?_cons_succ, List.getElem?_cons_zero]; rfl)
  case hq25 => exact fun _ _ _ h => h
  case hw25 => rfl
  case hy25 =>
    intro W hW
    obtain ⟨z0, z1, z2, z3, z4, z5, z6, z7, z8, z9, z10, z11⟩ := hW
    go_simp
    first | done | with_reducible rfl
  case hk25 =>
  try simp only [Act.put, List.setIfInBounds_toArray, List.set_cons_zero, List.set_cons_succ]
  refine anyK_take 2 (oi := ?oo26) ?ho26 (by kernel_rfl) (by kernel_rfl) (by kernel_rfl) (by kernel_rfl) ?hq26 ?hw26 hT0 (fun _ => trivial) (v := ?vv26) ?hy26 ?hk26
  case ho26 => (simp only [List.getElem?_toArray, List.getElem?_cons_succ, List.getElem?_cons_zero]; rfl)
  case hq26 => exact fun _ _ _ h => h
  case hw26 => rfl
  case hy26 =>
    intro W hW
    go_simp
    first | done | with_reducible rfl
  case hk26 =>
  try simp only [Act.put, List.setIfInBounds_toArray, List.set_cons_zero, List.set_cons_succ]
  refine anyK_on2 1 3 (by kernel_rfl) ?_ ?_
  · skip
    refine anyK_one 1 (o := ?oo27) ?ho27 ?hk27
    case ho27 => (simp only [List.getElem?_toArray, List.getElem?_cons_succ, List.getElem?_cons_zero]; rfl)
    case hk27 =>
    intro K hK
    go_simp
    refine (HCP.out _ (ext_trans X4.out yy)).mono ?_
    rintro e wk ⟨vr, bs, rfl, -, own, xx⟩
    try go_wp2_with fail
    replace yy := ext_trans yy xx
    have HRO := hide own
    obtain ⟨pA2, pc2, sA2, sc2, eA2, ec2, vss2, rfl, -⟩ := own
    try (replace KN := hide (KN.out.ext xx))
    have hT1 := keepK.out _ yy
    refine hK.out _ _ hT1 (fun _ => trivial) ?_
    clear hK K
    try simp only [Act.put, List.setIfInBounds_toArray, List.set_cons_zero, List.set_cons_succ]
    refine anyK_on1 3 (by kernel_rfl) ?_
    refine anyK_one 3 (o := ?oo28) ?ho28 ?hk28
    case ho28 => (simp only [List.getElem?_toArray, List.getElem?_cons_succ, List.getElem?_cons_zero]; rfl)
    case hk28 =>
    intro K hK
    go_simp
    have KN : Hid (Blk (wk.alloc (.cells (slotZ n) 67)) wk.heap.size 67 (slotZ n)) := hide (Blk.new wk 67 (slotZ n))
    try (replace HRO := hide (HRO.out.ext (ext_alloc (Below.refl _ _) (.cells (slotZ n) 67))))
    generalize hBN : wk.heap.size = BN at *
    have HNB : Hid (w.heap.size ≤ BN) := hide (by have h : w.heap.size ≤ wk.heap.size := (ext_trans X4.out (show Ext w4 wk from yy)).size; omega)
    clear hBN
    replace yy := ext_alloc yy (.cells (slotZ n) 67)
    have hT2 := keepK.out _ yy
    refine hK.out _ _ hT2 (fun _ => trivial) ?_
    clear hK K
    try simp only [Act.put, List.setIfInBounds_toArray, List.set_cons_zero, List.set_cons_succ]
    refine anyK_take 4 (oi := ?oo29) ?ho29 (by kernel_rfl) (by kernel_rfl) (by kernel_rfl) (by kernel_rfl) ?hq29 ?hw29 hT2 (fun _ => trivial) (v := ?vv29) ?hy29 ?hk29
    case ho29 => (simp only [List.getElem?_toArray, List.getElem?_cons_succ, List.getElem?_cons_zero]; rfl)
    case hq29 => exact fun _ _ _ h => h
    case hw29 => rfl
    case hy29 =>
      intro W hW
      go_simp
      first | done | with_reducible rfl
    case hk29 =>
    try simp only [Act.put, List.setIfInBounds_toArray, List.set_cons_zero, List.set_cons_succ]
    refine anyK_on1 5 (by kernel_rfl) ?_
    refine anyK_one 5 (o := ?oo30) ?ho30 ?hk30
    case ho30 => (simp only [List.getElem?_toArray, List.getElem?_cons_succ, List.getElem?_cons_zero]; rfl)
    case hk30 =>
    intro K hK
    go_simp
    have hsz : w.heap.size ≤ (wk.alloc (.cells (slotZ n) 67)).heap.size := (ext_trans X4.out yy).size
    have KB := hide (Blk.new (wk.alloc (.cells (slotZ n) 67)) 63 #[.string R.name, .int .i64 R.width, .int .i64 R.height, .slice pA2 R.pieces.length pc2, .slice sA2 R.start.length sc2, .bool R.falls, .bool R.keeps, .slice eA2 R.ends.length ec2, .int .i64 R.blocked, .int .i64 R.quiet, .int .i64 R.rept, .slice (some ⟨BN, 0, none⟩) n n, .int .i64 0])
    replace HRO := hide (HRO.out.ext (ext_alloc (Below.refl _ _) (.cells #[.string R.name, .int .i64 R.width, .int .i64 R.height, .slice pA2 R.pieces.length pc2, .slice sA2 R.start.length sc2, .bool R.falls, .bool R.keeps, .slice eA2 R.ends.length ec2, .int .i64 R.blocked, .int .i64 R.quiet, .int .i64 R.rept, .slice (some ⟨BN, 0, none⟩) n n, .int .i64 0] 63)))
    replace KN := hide (KN.out.ext (ext_alloc (Below.refl _ _) (.cells #[.string R.name, .int .i64 R.width, .int .i64 R.height, .slice pA2 R.pieces.length pc2, .slice sA2 R.start.length sc2, .bool R.falls, .bool R.keeps, .slice eA2 R.ends.length ec2, .int .i64 R.blocked, .int .i64 R.quiet, .int .i64 R.rept, .slice (some ⟨BN, 0, none⟩) n n, .int .i64 0] 63)))
    replace yy := ext_alloc yy (.cells #[.string R.name, .int .i64 R.width, .int .i64 R.height, .slice pA2 R.pieces.length pc2, .slice sA2 R.start.length sc2, .bool R.falls, .bool R.keeps, .slice eA2 R.ends.length ec2, .int .i64 R.blocked, .int .i64 R.quiet, .int .i64 R.rept, .slice (some ⟨BN, 0, none⟩) n n, .int .i64 0] 63)
    have HBB : Hid (w.heap.size ≤ (wk.alloc (.cells (slotZ n) 67)).heap.size) := hide hsz
    clear hsz
    have X9 := hide (ext_trans X4.out yy)
    have HST := hide (store_new KB.out HRO.out KN.out HBB.out HNB.out X9.out)
    clear KB HRO KN HBB HNB
    have hT3 := keepK.out _ yy
    refine hK.out _ _ hT3 (fun _ => trivial) ?_
    clear hK K
    try simp only [Act.put, List.setIfInBounds_toArray, List.set_cons_zero, List.set_cons_succ]
    refine anyK_take 6 (oi := ?oo31) ?ho31 (by kernel_rfl) (by kernel_rfl) (by kernel_rfl) (by kernel_rfl) ?hq31 ?hw31 hT3 (fun _ => trivial) (v := ?vv31) ?hy31 ?hk31
    case ho31 => (simp only [List.getElem?_toArray, List.getElem?_cons_succ, List.getElem?_cons_zero]; rfl)
    case hq31 => exact fun _ _ _ h => h
    case hw31 => rfl
    case hy31 =>
      intro W hW
      go_simp
      first | done | with_reducible rfl
    case hk31 =>
    try simp only [Act.put, List.setIfInBounds_toArray, List.set_cons_zero, List.set_cons_succ]
    refine anyK_take 7 (oi := ?oo32) ?ho32 (by kernel_rfl) (by kernel_rfl) (by kernel_rfl) (by kernel_rfl) ?hq32 ?hw32 hT3 (fun _ => trivial) (v := ?vv32) ?hy32 ?hk32
    case ho32 => (simp only [List.getElem?_toArray, List.getElem?_cons_succ, List.getElem?_cons_zero]; rfl)
    case hq32 => exact fun _ _ _ h => h
    case hw32 => rfl
    case hy32 =>
      intro W hW
      go_simp
      first | done | with_reducible rfl
    case hk32 =>
    try simp only [Act.put, List.setIfInBounds_toArray, List.set_cons_zero, List.set_cons_succ]
    refine anyK_done (by kernel_rfl) ?_ _
    clear keepK hT0 hT1 hT2 hT3
    go_wp2
    go_ret2
    exact ⟨_, _, rfl, by simpa using HST.out⟩
  · skip
    refine anyK_one 3 (o := ?oo33) ?ho33 ?hk33
    case ho33 => (simp only [List.getElem?_toArray, List.getElem?_cons_succ, List.getElem?_cons_zero]; rfl)
    case hk33 =>
    intro K hK
    go_simp
    have KN : Hid (Blk (w4.drew.alloc (.cells (slotZ n) 67)) w4.heap.size 67 (slotZ n)) := hide (Blk.new w4.drew 67 (slotZ n))
    try (replace HRO := hide (HRO.out.ext (ext_alloc (Below.refl _ _) (.cells (slotZ n) 67))))
    generalize hBN : w4.heap.size = BN at *
    have HNB : Hid (w.heap.size ≤ BN) := hide (by have h : w.heap.size ≤ w4.heap.size := (ext_trans X4.out (show Ext w4 w4 from Below.refl _ _)).size; omega)
    clear hBN
    replace yy := ext_alloc yy (.cells (slotZ n) 67)
    have hT1 := keepK.out _ yy
    refine hK.out _ _ hT1 (fun _ => trivial) ?_
    clear hK K
    try simp only [Act.put, List.setIfInBounds_toArray, List.set_cons_zero, List.set_cons_succ]
    refine anyK_on1 1 (by kernel_rfl) ?_
    refine anyK_one 1 (o := ?oo34) ?ho34 ?hk34
    case ho34 => (simp only [List.getElem?_toArray, List.getElem?_cons_succ, List.getElem?_cons_zero]; rfl)
    case hk34 =>
    intro K hK
    go_simp
    refine (HCP.out _ (ext_trans X4.out yy)).mono ?_
    rintro e wk ⟨vr, bs, rfl, -, own, xx⟩
    try go_wp2_with fail
    replace yy := ext_trans yy xx
    have HRO := hide own
    obtain ⟨pA2, pc2, sA2, sc2, eA2, ec2, vss2, rfl, -⟩ := own
    try (replace KN := hide (KN.out.ext xx))
    have hT2 := keepK.out _ yy
    refine hK.out _ _ hT2 (fun _ => trivial) ?_
    clear hK K
    try simp only [Act.put, List.setIfInBounds_toArray, List.set_cons_zero, List.set_cons_succ]
    refine anyK_take 4 (oi := ?oo35) ?ho35 (by kernel_rfl) (by kernel_rfl) (by kernel_rfl) (by kernel_rfl) ?hq35 ?hw35 hT2 (fun _ => trivial) (v := ?vv35) ?hy35 ?hk35
    case ho35 => (simp only [List.getElem?_toArray, List.getElem?_cons_succ, List.getElem?_cons_zero]; rfl)
    case hq35 => exact fun _ _ _ h => h
    case hw35 => rfl
    case hy35 =>
      intro W hW
      go_simp
      first | done | with_reducible rfl
    case hk35 =>
    try simp only [Act.put, List.setIfInBounds_toArray, List.set_cons_zero, List.set_cons_succ]
    refine anyK_on1 5 (by kernel_rfl) ?_
    refine anyK_one 5 (o := ?oo36) ?ho36 ?hk36
    case ho36 => (simp only [List.getElem?_toArray, List.getElem?_cons_succ, List.getElem?_cons_zero]; rfl)
    case hk36 =>
    intro K hK
    go_simp
    have hsz : w.heap.size ≤ wk.heap.size := (ext_trans X4.out yy).size
    have KB := hide (Blk.new wk 63 #[.string R.name, .int .i64 R.width, .int .i64 R.height, .slice pA2 R.pieces.length pc2, .slice sA2 R.start.length sc2, .bool R.falls, .bool R.keeps, .slice eA2 R.ends.length ec2, .int .i64 R.blocked, .int .i64 R.quiet, .int .i64 R.rept, .slice (some ⟨BN, 0, none⟩) n n, .int .i64 0])
    replace HRO := hide (HRO.out.ext (ext_alloc (Below.refl _ _) (.cells #[.string R.name, .int .i64 R.width, .int .i64 R.height, .slice pA2 R.pieces.length pc2, .slice sA2 R.start.length sc2, .bool R.falls, .bool R.keeps, .slice eA2 R.ends.length ec2, .int .i64 R.blocked, .int .i64 R.quiet, .int .i64 R.rept, .slice (some ⟨BN, 0, none⟩) n n, .int .i64 0] 63)))
    replace KN := hide (KN.out.ext (ext_alloc (Below.refl _ _) (.cells #[.string R.name, .int .i64 R.width, .int .i64 R.height, .slice pA2 R.pieces.length pc2, .slice sA2 R.start.length sc2, .bool R.falls, .bool R.keeps, .slice eA2 R.ends.length ec2, .int .i64 R.blocked, .int .i64 R.quiet, .int .i64 R.rept, .slice (some ⟨BN, 0, none⟩) n n, .int .i64 0] 63)))
    replace yy := ext_alloc yy (.cells #[.string R.name, .int .i64 R.width, .int .i64 R.height, .slice pA2 R.pieces.length pc2, .slice sA2 R.start.length sc2, .bool R.falls, .bool R.keeps, .slice eA2 R.ends.length ec2, .int .i64 R.blocked, .int .i64 R.quiet, .int .i64 R.rept, .slice (some ⟨BN, 0, none⟩) n n, .int .i64 0] 63)
    have HBB : Hid (w.heap.size ≤ wk.heap.size) := hide hsz
    clear hsz
    have X9 := hide (ext_trans X4.out yy)
    have HST := hide (store_new KB.out HRO.out KN.out HBB.out HNB.out X9.out)
    clear KB HRO KN HBB HNB
    have hT3 := keepK.out _ yy
    refine hK.out _ _ hT3 (fun _ => trivial) ?_
    clear hK K
    try simp only [Act.put, List.setIfInBounds_toArray, List.set_cons_zero, List.set_cons_succ]
    refine anyK_take 6 (oi := ?oo37) ?ho37 (by kernel_rfl) (by kernel_rfl) (by kernel_rfl) (by kernel_rfl) ?hq37 ?hw37 hT3 (fun _ => trivial) (v := ?vv37) ?hy37 ?hk37
    case ho37 => (simp only [List.getElem?_toArray, List.getElem?_cons_succ, List.getElem?_cons_zero]; rfl)
    case hq37 => exact fun _ _ _ h => h
    case hw37 => rfl
    case hy37 =>
      intro W hW
      go_simp
      first | done | with_reducible rfl
    case hk37 =>
    try simp only [Act.put, List.setIfInBounds_toArray, List.set_cons_zero, List.set_cons_succ]
    refine anyK_take 7 (oi := ?oo38) ?ho38 (by kernel_rfl) (by kernel_rfl) (by kernel_rfl) (by kernel_rfl) ?hq38 ?hw38 hT3 (fun _ => trivial) (v := ?vv38) ?hy38 ?hk38
    case ho38 => (simp only [List.getElem?_toArray, List.getElem?_cons_succ, List.getElem?_cons_zero]; rfl)
    case hq38 => exact fun _ _ _ h => h
    case hw38 => rfl
    case hy38 =>
      intro W hW
      go_simp
      first | done | with_reducible rfl
    case hk38 =>
    try simp only [Act.put, List.setIfInBounds_toArray, List.set_cons_zero, List.set_cons_succ]
    refine anyK_done (by kernel_rfl) ?_ _
    clear keepK hT0 hT1 hT2 hT3
    go_wp2
    go_ret2
    exact ⟨_, _, rfl, by simpa using HST.out⟩

end Go.Proofs.YtfkcigekbgkcmaaGreat
