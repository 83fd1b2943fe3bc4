/- Walk: the law SymmScores. Walk: the law SymmScores, the case of sound arguments. The law SymmScores: both cases. -/
import Derived.Test.YtmofipijjokjfaaScored
import Derived.Test.YtmofipijjokjfaaGSymmW
import Derived.Test.YtmofipijjokjfaaGHalf
import Derived.Test.YtmofipijjokjfaaGSamples
import Derived.Test.YtmofipijjokjfaaGPerft
import Derived.Test.YtmofipijjokjfaaGPlays
import Derived.Test.YtmofipijjokjfaaWindow
import Derived.Deep.AppendLies
import Derived.Test.YtmofipijjokjfaaRegionK
namespace Go.Proofs.Ytmofipijjokjfaa
open Go.ChangeShapes Go.WideShapes Go.ChangeAt Go.RowKit Go.Shelf
set_option linter.unusedVariables false
set_option linter.unusedSimpArgs false
set_option maxHeartbeats 4000000 in
set_option maxRecDepth 100000 in
theorem symmScores_bad (R : RulesM) (P : PosM) (v u : Value) (D : Int) (w : World) (hR : RulesAt w v R) (hP : PosAt w u P) (he : checkE R P ≠ 0) :
    Calls Try.prog 14 #[v, u, .int .i64 D] w fun e w' => e = .returned (.bool true) ∧ Ext w w' := by
  have HCK := hide (fun W (v1 v2 : Value) (h1 : RulesAt W v1 threeR) (h2 : PosAt W v2 nearP) => PCheck_any threeR nearP v1 v2 W h1 h2)
  rw [check_iff.2 ⟨valid_three, sound_near⟩] at HCK
  have HC := hide (fun W (v1 v2 : Value) (h1 : RulesAt W v1 R) (h2 : PosAt W v2 P) => PCheck_any R P v1 v2 W h1 h2)
  have t0 : (checkE R P != 0) = true := by simpa using he
  clear he
  generalize checkE R P = E at *
  have hR0 := hR
  have hP0 := hP
  obtain ⟨pA, pc, sA, sc, eA, ec, rfl, -⟩ := hR0
  obtain ⟨cA, cc, aA, ac, bA, bc, rfl, -⟩ := hP0
  go_enter Try.func14, Try.ntmps14
  go_wp2_with fail
  obtain ⟨xa, kR, kP⟩ := blks2 w #[.string R.name, .int .i64 R.width, .int .i64 R.height, .slice pA R.pieces.length pc, .slice sA R.start.length sc, .bool R.falls, .bool R.keeps, .slice eA R.ends.length ec, .int .i64 R.blocked, .int .i64 R.quiet, .int .i64 R.rept] 26 #[.slice cA P.cells.length cc, .slice aA P.hand0.length ac, .slice bA P.hand1.length bc, .int .i64 P.turn, .int .i64 P.quiet] 29
  replace hR := hR.ext xa
  replace hP := hP.ext xa
  have X := xa
  clear xa
  generalize ((w.alloc (.cells #[.string R.name, .int .i64 R.width, .int .i64 R.height, .slice pA R.pieces.length pc, .slice sA R.start.length sc, .bool R.falls, .bool R.keeps, .slice eA R.ends.length ec, .int .i64 R.blocked, .int .i64 R.quiet, .int .i64 R.rept] 26)).alloc (.cells #[.slice cA P.cells.length cc, .slice aA P.hand0.length ac, .slice bA P.hand1.length bc, .int .i64 P.turn, .int .i64 P.quiet] 29)) = w2 at *
  generalize w.heap.size + 1 = BP at *
  generalize w.heap.size = BR at *
  refine (moved_any _).mono ?_
  rintro e w3 ⟨rfl, x⟩
  replace hR := hR.ext x
  replace hP := hP.ext x
  replace kR := kR.ext x
  replace kP := kP.ext x
  replace X := ext_trans X x
  clear x
  go_wp2_with fail
  refine (scored_any _).mono ?_
  rintro e w4 ⟨rfl, x⟩
  replace hR := hR.ext x
  replace hP := hP.ext x
  replace kR := kR.ext x
  replace kP := kP.ext x
  replace X := ext_trans X x
  clear x
  go_wp2_with fail
  refine (three_any _).mono ?_
  rintro e w5 ⟨v1, rfl, h1, x⟩
  replace hR := hR.ext x
  replace hP := hP.ext x
  replace kR := kR.ext x
  replace kP := kP.ext x
  replace X := ext_trans X x
  clear x
  go_wp2_with fail
  refine (near_any _).mono ?_
  rintro e w6 ⟨v2, rfl, h2, x⟩
  replace hR := hR.ext x
  replace hP := hP.ext x
  replace kR := kR.ext x
  replace kP := kP.ext x
  replace h1 := h1.ext x
  replace X := ext_trans X x
  clear x
  replace h2 := h2.at_
  go_wp2_with fail
  refine (HCK.out _ _ _ h1 h2).mono ?_
  rintro e w7 ⟨rfl, x⟩
  replace hR := hR.ext x
  replace hP := hP.ext x
  replace kR := kR.ext x
  replace kP := kP.ext x
  replace h1 := h1.ext x
  replace h2 := h2.ext x
  replace X := ext_trans X x
  clear x
  clear h1 h2
  clear HCK
  have fR := kR.cell
  have fP := kP.cell
  go_wp2_with fail
  refine (HC.out _ _ _ hR hP).mono ?_
  rintro e w8 ⟨rfl, x⟩
  replace hR := hR.ext x
  replace hP := hP.ext x
  replace kR := kR.ext x
  replace kP := kP.ext x
  replace X := ext_trans X x
  replace fR := kR.cell
  replace fP := kP.cell
  clear x
  clear HC
  clear fR fP
  go_wp2
  all_goals go_ret
  all_goals exact ⟨by first | rfl | simp, X⟩

end Go.Proofs.Ytmofipijjokjfaa
namespace Go.Proofs.Ytmofipijjokjfaa
open Go.ChangeShapes Go.WideShapes Go.ChangeAt Go.RowKit Go.Shelf
set_option linter.unusedVariables false
set_option linter.unusedSimpArgs false
set_option maxHeartbeats 4000000 in
set_option maxRecDepth 100000 in
theorem symmScores_good (R : RulesM) (P : PosM) (v u : Value) (D : Int) (w : World) (hR : RulesAt w v R) (hP : PosAt w u P) (hC : RulesCap w v R) (he : checkE R P = 0) :
    Calls Try.prog 14 #[v, u, .int .i64 D] w fun e w' => e = .returned (.bool true) ∧ Ext w w' := by
  have HCK := hide (fun W (v1 v2 : Value) (h1 : RulesAt W v1 threeR) (h2 : PosAt W v2 nearP) => PCheck_any threeR nearP v1 v2 W h1 h2)
  rw [check_iff.2 ⟨valid_three, sound_near⟩] at HCK
  have HC := hide (fun W (v1 v2 : Value) (h1 : RulesAt W v1 R) (h2 : PosAt W v2 P) => PCheck_any R P v1 v2 W h1 h2)
  obtain ⟨hV, hS⟩ := check_iff.1 he
  rw [he] at HC
  clear he
  obtain ⟨i0, hi, hz0, hz1, hz2⟩ := info_parts info_Ways
  have HHV := hide (fun W (v1 v2 : Value) (h1 : RulesAt W v1 (bothR R)) (h2 : PosAt W v2 P) => heavy_any (bothR R) P v1 v2 D W h1 h2)
  have HSA := hide (fun W (v1 v2 : Value) (h1 : RulesAt W v1 (bothR R)) (h2 : PosAt W v2 P) => MScore_any (bothR R) P v1 v2 D W h1 h2)
  have HSB := hide (fun W (v1 v2 : Value) (h1 : RulesAt W v1 (bothR R)) (h2 : PosAt W v2 (mirP (bothR R) P)) => MScore_any (bothR R) (mirP (bothR R) P) v1 v2 D W h1 h2)
  have HRW := hide hR
  have HAB : Above w w.heap.size := Nat.le_refl _
  have HPW := hide hP
  have hR0 := hR
  have hP0 := hP
  obtain ⟨pA, pc, sA, sc, eA, ec, rfl, -⟩ := hR0
  obtain ⟨cA, cc, aA, ac, bA, bc, rfl, -⟩ := hP0
  go_enter Try.func14, Try.ntmps14
  go_wp2_with fail
  obtain ⟨xa, kR, kP⟩ := blks2 w #[.string R.name, .int .i64 R.width, .int .i64 R.height, .slice pA R.pieces.length pc, .slice sA R.start.length sc, .bool R.falls, .bool R.keeps, .slice eA R.ends.length ec, .int .i64 R.blocked, .int .i64 R.quiet, .int .i64 R.rept] 26 #[.slice cA P.cells.length cc, .slice aA P.hand0.length ac, .slice bA P.hand1.length bc, .int .i64 P.turn, .int .i64 P.quiet] 29
  replace hR := hR.ext xa
  replace hP := hP.ext xa
  have X := xa
  clear xa
  generalize ((w.alloc (.cells #[.string R.name, .int .i64 R.width, .int .i64 R.height, .slice pA R.pieces.length pc, .slice sA R.start.length sc, .bool R.falls, .bool R.keeps, .slice eA R.ends.length ec, .int .i64 R.blocked, .int .i64 R.quiet, .int .i64 R.rept] 26)).alloc (.cells #[.slice cA P.cells.length cc, .slice aA P.hand0.length ac, .slice bA P.hand1.length bc, .int .i64 P.turn, .int .i64 P.quiet] 29)) = w2 at *
  generalize w.heap.size + 1 = BP at *
  generalize w.heap.size = BR at *
  refine (moved_any _).mono ?_
  rintro e w3 ⟨rfl, x⟩
  replace hR := hR.ext x
  replace hP := hP.ext x
  replace kR := kR.ext x
  replace kP := kP.ext x
  replace X := ext_trans X x
  clear x
  go_wp2_with fail
  refine (scored_any _).mono ?_
  rintro e w4 ⟨rfl, x⟩
  replace hR := hR.ext x
  replace hP := hP.ext x
  replace kR := kR.ext x
  replace kP := kP.ext x
  replace X := ext_trans X x
  clear x
  go_wp2_with fail
  refine (three_any _).mono ?_
  rintro e w5 ⟨v1, rfl, h1, x⟩
  replace hR := hR.ext x
  replace hP := hP.ext x
  replace kR := kR.ext x
  replace kP := kP.ext x
  replace X := ext_trans X x
  clear x
  go_wp2_with fail
  refine (near_any _).mono ?_
  rintro e w6 ⟨v2, rfl, h2, x⟩
  replace hR := hR.ext x
  replace hP := hP.ext x
  replace kR := kR.ext x
  replace kP := kP.ext x
  replace h1 := h1.ext x
  replace X := ext_trans X x
  clear x
  replace h2 := h2.at_
  go_wp2_with fail
  refine (HCK.out _ _ _ h1 h2).mono ?_
  rintro e w7 ⟨rfl, x⟩
  replace hR := hR.ext x
  replace hP := hP.ext x
  replace kR := kR.ext x
  replace kP := kP.ext x
  replace h1 := h1.ext x
  replace h2 := h2.ext x
  replace X := ext_trans X x
  clear x
  clear h1 h2
  clear HCK
  have fR := kR.cell
  have fP := kP.cell
  go_wp2_with fail
  refine (HC.out _ _ _ hR hP).mono ?_
  rintro e w8 ⟨rfl, x⟩
  replace hR := hR.ext x
  replace hP := hP.ext x
  replace kR := kR.ext x
  replace kP := kP.ext x
  replace X := ext_trans X x
  replace fR := kR.cell
  replace fP := kP.cell
  clear x
  clear HC
  go_wp2_with fail
  clear fR fP
  obtain ⟨cs, qA, qn, qc, ecs, e3, hpc⟩ := hC
  cases ecs
  simp at e3
  obtain ⟨rfl, rfl, rfl⟩ := e3
  obtain ⟨vss, hcells, hvl, hvv⟩ := hpc
  have half : HalfAt w w8 w8.heap.size R.pieces 0 vss := ⟨hvl, fun i p l a b => ⟨fun h => absurd h (by omega), fun _ => hvv i p l a b⟩⟩
  have hwB := X.size
  have hRB := kR.lt
  have hPB := kP.lt
  refine (clone_Pieces pA R.pieces.length pc vss _ hvl (by have := hV.pieces6; omega) half.four half.one (hcells.ext X)).mono ?_
  rintro e w9 ⟨A9, c9, rfl, own, x⟩
  replace hR := hR.ext x
  replace hP := hP.ext x
  replace kR := kR.ext x
  replace kP := kP.ext x
  replace half := half.ext x
  replace X := ext_trans X x
  clear x
  obtain ⟨g, cg, ev, hg0, hg1⟩ := own.form (by have := hV.pieces0; omega)
  cases ev
  clear hcells hvl hvv hR hP
  have HV := hide hV
  have HS := hide hS
  have hn6 := hV.pieces6
  have HW16 : Hid (∀ q ∈ R.pieces, q.ways.length ≤ 16) := hide (fun q hq => (piece_facts hV.piece hq).2.2.2.1)
  have HWB : Hid (∀ q ∈ R.pieces, ∀ x ∈ q.ways, wayB x = true) := hide (fun q hq => (piece_facts hV.piece hq).2.2.2.2)
  generalize hn : R.pieces.length = n at *
  have HN := hide hn
  clear hV hS hn hg1
  generalize w8.heap.size = B4 at *
  go_wp2
  go_loopw [40] (fun i wr => ∃ (k : Nat) (ls : List (List Value)), k ≤ n ∧ i = .int .i64 k ∧ Blk wr BR 26 #[.string R.name, .int .i64 R.width, .int .i64 R.height, .slice pA n pc, .slice sA R.start.length sc, .bool R.falls, .bool R.keeps, .slice eA R.ends.length ec, .int .i64 R.blocked, .int .i64 R.quiet, .int .i64 R.rept] ∧ Blk wr BP 29 #[.slice cA P.cells.length cc, .slice aA P.hand0.length ac, .slice bA P.hand1.length bc, .int .i64 P.turn, .int .i64 P.quiet] ∧ wr.ownsRow B4 82 4 (.slice (some ⟨g, 0, none⟩) n c9) n ls.flatten ∧ HalfAt w wr B4 R.pieces k ls ∧ Ext w wr) (fun i _ => n - (intOf i).toNat)
  case atStart => exact ⟨0, vss, Nat.zero_le _, rfl, kR, kP, own, half, X⟩
  case round =>
    obtain ⟨k, ls, hk, rfl, kR', kP', own', half', X'⟩ := hrel
    clear kR kP own half X
    by_cases hlt : k < n
    · obtain ⟨q, wA, wc, hq, hl, hways, hcap, hcell⟩ := half'.next own' HN.out hlt
      have h16 := HW16.out q (List.mem_of_getElem? hq)
      obtain ⟨ws, hws⟩ : ∃ ws, q.ways.take 8 = ws := ⟨_, rfl⟩
      have hm : min q.ways.length 8 = ws.length := by rw [← hws, List.length_take]; omega
      have h8 : ws.length ≤ 8 := by omega
      have hmin : ∀ W ats ty, (Builtin.min_ ats ty #[.int .i64 (q.ways.length : Nat), .int .i64 8]).run Try.prog W = .ok (.int .i64 (ws.length : Nat)) W := fun W ats ty => by rw [run_min2' W ats ty, ← hm]; congr 1; congr 1; omega
      have hwt := ways_take hways 8
      rw [hws] at hwt
      have HCL := hide (fun W (hW : Ext w W) => clone_Ways wA ws.length wc ws W rfl (by omega) (CellsAt.ext hwt hW))
      have HWS := hide hws
      have HDX : Hid (∀ x ∈ ws, -7 ≤ x.dx ∧ x.dx ≤ 7) := hide (fun x hx => by have hb := HWB.out q (List.mem_of_getElem? hq) x (by rw [← hws] at hx; exact List.mem_of_mem_take hx); unfold wayB inB at hb; simp only [Bool.and_eq_true, decide_eq_true_eq] at hb; omega)
      have HQ := hide hq
      have HL := hide hl
      have HC3 := hide hcell
      have hmc : ws.length ≤ wc := by omega
      have hml : ws.length ≤ q.ways.length := by omega
      have hBr : B4 ≤ wr.heap.size := by have := own'.lt g rfl; omega
      clear hm hws hwt hq hl
      have X1 := hide X'
      clear hcell hways
      go_wp2
  
      have keepK := hide (fun W (h : Ext wr W) => (show (fun W => W.cell? ⟨g, k * 4 + 3, none⟩ = some (.slice wA q.ways.length wc) ∧ Ext wr W) W from ⟨HC3.out _ h, h⟩))
      have yy : Ext wr wr.drew := Below.drew (Below.refl _ _)
      refine region_K (fun W => W.cell? ⟨g, k * 4 + 3, none⟩ = some (.slice wA q.ways.length wc) ∧ Ext wr W) (fun _ => True) [] (by kernel_rfl) ?_
      have hT0 := keepK.out _ yy
      refine anyK_take 0 (oi := ?oo1) ?ho1 (by kernel_rfl) (by kernel_rfl) (by kernel_rfl) (by kernel_rfl) ?hq1 ?hw1 hT0 (fun _ => trivial) (v := ?vv1) ?hy1 ?hk1
      case ho1 => (simp only [List.getElem?_toArray, List.getElem?_cons_succ, List.getElem?_cons_zero]; rfl)
      case hq1 => exact fun _ _ _ h => h
      case hw1 => rfl
      case hy1 =>
        intro W hW
        go_simp
        first | done | with_reducible rfl
      case hk1 =>
      try simp only [Act.put, List.setIfInBounds_toArray, List.set_cons_zero, List.set_cons_succ]
      refine anyK_take 1 (oi := ?oo2) ?ho2 (by kernel_rfl) (by kernel_rfl) (by kernel_rfl) (by kernel_rfl) ?hq2 ?hw2 hT0 (fun _ => trivial) (v := ?vv2) ?hy2 ?hk2
      case ho2 => (simp only [List.getElem?_toArray, List.getElem?_cons_succ, List.getElem?_cons_zero]; rfl)
      case hq2 => exact fun _ _ _ h => h
      case hw2 => rfl
      case hy2 =>
        intro W hW
        go_simp
        first | done | with_reducible rfl
      case hk2 =>
      try simp only [Act.put, List.setIfInBounds_toArray, List.set_cons_zero, List.set_cons_succ]
      refine anyK_take 2 (oi := ?oo3) ?ho3 (by kernel_rfl) (by kernel_rfl) (by kernel_rfl) (by kernel_rfl) ?hq3 ?hw3 hT0 (fun _ => trivial) (v := ?vv3) ?hy3 ?hk3
      case ho3 => (simp only [List.getElem?_toArray, List.getElem?_cons_succ, List.getElem?_cons_zero]; rfl)
      case hq3 => exact fun _ _ _ h => h
      case hw3 => rfl
      case hy3 =>
        intro W hW
        go_simp
        first | done | with_reducible rfl
      case hk3 =>
      try simp only [Act.put, List.setIfInBounds_toArray, List.set_cons_zero, List.set_cons_succ]
      refine anyK_take 3 (oi := ?oo4) ?ho4 (by kernel_rfl) (by kernel_rfl) (by kernel_rfl) (by kernel_rfl) ?hq4 ?hw4 hT0 (fun _ => trivial) (v := ?vv4) ?hy4 ?hk4
      case ho4 => (simp only [List.getElem?_toArray, List.getElem?_cons_succ, List.getElem?_cons_zero]; rfl)
      case hq4 => exact fun _ _ _ h => h
      case hw4 => rfl
      case hy4 =>
        intro W hW
        go_simp
        first | done | with_reducible rfl
      case hk4 =>
      try simp only [Act.put, List.setIfInBounds_toArray, List.set_cons_zero, List.set_cons_succ]
      refine anyK_take 4 (oi := ?oo5) ?ho5 (by kernel_rfl) (by kernel_rfl) (by kernel_rfl) (by kernel_rfl) ?hq5 ?hw5 hT0 (fun _ => trivial) (v := ?vv5) ?hy5 ?hk5
      case ho5 => (simp only [List.getElem?_toArray, List.getElem?_cons_succ, List.getElem?_cons_zero]; rfl)
      case hq5 => exact fun _ _ _ h => h
      case hw5 => rfl
      case hy5 =>
        intro W hW
        obtain ⟨z0, z1⟩ := hW
        go_simp
        first | done | with_reducible rfl
      case hk5 =>
      try simp only [Act.put, List.setIfInBounds_toArray, List.set_cons_zero, List.set_cons_succ]
      refine anyK_take 5 (oi := ?oo6) ?ho6 (by kernel_rfl) (by kernel_rfl) (by kernel_rfl) (by kernel_rfl) ?hq6 ?hw6 hT0 (fun _ => trivial) (v := ?vv6) ?hy6 ?hk6
      case ho6 => (simp only [List.getElem?_toArray, List.getElem?_cons_succ, List.getElem?_cons_zero]; rfl)
      case hq6 => exact fun _ _ _ h => h
      case hw6 => rfl
      case hy6 =>
        intro W hW
        go_simp
        first | done | with_reducible rfl
      case hk6 =>
      try simp only [Act.put, List.setIfInBounds_toArray, List.set_cons_zero, List.set_cons_succ]
      refine anyK_take 6 (oi := ?oo7) ?ho7 (by kernel_rfl) (by kernel_rfl) (by kernel_rfl) (by kernel_rfl) ?hq7 ?hw7 hT0 (fun _ => trivial) (v := ?vv7) ?hy7 ?hk7
      case ho7 => (simp only [List.getElem?_toArray, List.getElem?_cons_succ, List.getElem?_cons_zero]; rfl)
      case hq7 => exact fun _ _ _ h => h
      case hw7 => rfl
      case hy7 =>
        intro W hW
        go_simp
        first | done | with_reducible rfl
      case hk7 =>
      try simp only [Act.put, List.setIfInBounds_toArray, List.set_cons_zero, List.set_cons_succ]
      refine anyK_take 7 (oi := ?oo8) ?ho8 (by kernel_rfl) (by kernel_rfl) (by kernel_rfl) (by kernel_rfl) ?hq8 ?hw8 hT0 (fun _ => trivial) (v := ?vv8) ?hy8 ?hk8
      case ho8 => (simp only [List.getElem?_toArray, List.getElem?_cons_succ, List.getElem?_cons_zero]; rfl)
      case hq8 => exact fun _ _ _ h => h
      case hw8 => rfl
      case hy8 =>
        intro W hW
        go_simp
        first | done | with_reducible rfl
      case hk8 =>
      try simp only [Act.put, List.setIfInBounds_toArray, List.set_cons_zero, List.set_cons_succ]
      refine anyK_take 8 (oi := ?oo9) ?ho9 (by kernel_rfl) (by kernel_rfl) (by kernel_rfl) (by kernel_rfl) ?hq9 ?hw9 hT0 (fun _ => trivial) (v := ?vv9) ?hy9 ?hk9
      case ho9 => (simp only [List.getElem?_toArray, List.getElem?_cons_succ, List.getElem?_cons_zero]; rfl)
      case hq9 => exact fun _ _ _ h => h
      case hw9 => rfl
      case hy9 =>
        intro W hW
        go_simp
        first | done | with_reducible rfl
      case hk9 =>
      try simp only [Act.put, List.setIfInBounds_toArray, List.set_cons_zero, List.set_cons_succ]
      refine anyK_take 9 (oi := ?oo10) ?ho10 (by kernel_rfl) (by kernel_rfl) (by kernel_rfl) (by kernel_rfl) ?hq10 ?hw10 hT0 (fun _ => trivial) (v := ?vv10) ?hy10 ?hk10
      case ho10 => (simp only [List.getElem?_toArray, List.getElem?_cons_succ, List.getElem?_cons_zero]; rfl)
      case hq10 => exact fun _ _ _ h => h
      case hw10 => rfl
      case hy10 =>
        intro W hW
        obtain ⟨z0, z1⟩ := hW
        go_simp
        first | done | with_reducible rfl
      case hk10 =>
      try simp only [Act.put, List.setIfInBounds_toArray, List.set_cons_zero, List.set_cons_succ]
      refine anyK_take 10 (oi := ?oo11) ?ho11 (by kernel_rfl) (by kernel_rfl) (by kernel_rfl) (by kernel_rfl) ?hq11 ?hw11 hT0 (fun _ => trivial) (v := ?vv11) ?hy11 ?hk11
      case ho11 => (simp only [List.getElem?_toArray, List.getElem?_cons_succ, List.getElem?_cons_zero]; rfl)
      case hq11 => exact fun _ _ _ h => h
      case hw11 => rfl
      case hy11 =>
        intro W hW
        go_simp
        first | done | with_reducible rfl
      case hk11 =>
      try simp only [Act.put, List.setIfInBounds_toArray, List.set_cons_zero, List.set_cons_succ]
      refine anyK_take 11 (oi := ?oo12) ?ho12 (by kernel_rfl) (by kernel_rfl) (by kernel_rfl) (by kernel_rfl) ?hq12 ?hw12 hT0 (fun _ => trivial) (v := ?vv12) ?hy12 ?hk12
      case ho12 => (simp only [List.getElem?_toArray, List.getElem?_cons_succ, List.getElem?_cons_zero]; rfl)
      case hq12 => exact fun _ _ _ h => h
      case hw12 => rfl
      case hy12 =>
        intro W hW
        go_simp
        first | done | with_reducible rfl
      case hk12 =>
      try simp only [Act.put, List.setIfInBounds_toArray, List.set_cons_zero, List.set_cons_succ]
      refine anyK_take 12 (oi := ?oo13) ?ho13 (by kernel_rfl) (by kernel_rfl) (by kernel_rfl) (by kernel_rfl) ?hq13 ?hw13 hT0 (fun _ => trivial) (v := ?vv13) ?hy13 ?hk13
      case ho13 => (simp only [List.getElem?_toArray, List.getElem?_cons_succ, List.getElem?_cons_zero]; rfl)
      case hq13 => exact fun _ _ _ h => h
      case hw13 => rfl
      case hy13 =>
        intro W hW
        go_simp
        first | done | with_reducible rfl
      case hk13 =>
      try simp only [Act.put, List.setIfInBounds_toArray, List.set_cons_zero, List.set_cons_succ]
      refine anyK_on1 13 (by kernel_rfl) ?_
      refine anyK_one 13 (o := ?oo14) ?ho14 ?hk14
      case ho14 => (simp only [List.getElem?_toArray, List.getElem?_cons_succ, List.getElem?_cons_zero]; rfl)
      case hk14 =>
      intro K hK
      go_simp
      refine (HCL.out _ (ext_trans X1.out yy)).mono ?_
      rintro e w5 ⟨A5, c5, rfl, own5, xx⟩
      try go_wp2_with fail
      replace yy := ext_trans yy xx
      have hT1 := keepK.out _ yy
      refine hK.out _ _ hT1 (fun _ => trivial) ?_
      clear hK K
      try simp only [Act.put, List.setIfInBounds_toArray, List.set_cons_zero, List.set_cons_succ]
      refine anyK_take 14 (oi := ?oo15) ?ho15 (by kernel_rfl) (by kernel_rfl) (by kernel_rfl) (by kernel_rfl) ?hq15 ?hw15 hT1 (fun _ => trivial) (v := ?vv15) ?hy15 ?hk15
      case ho15 => (simp only [List.getElem?_toArray, List.getElem?_cons_succ, List.getElem?_cons_zero]; rfl)
      case hq15 => exact fun _ _ _ h => h
      case hw15 => rfl
      case hy15 =>
        intro W hW
        go_simp
        first | done | with_reducible rfl
      case hk15 =>
      try simp only [Act.put, List.setIfInBounds_toArray, List.set_cons_zero, List.set_cons_succ]
      refine anyK_done (by kernel_rfl) ?_ _
      clear keepK hT0 hT1
      have O5 : w5.ownsRow wr.heap.size 85 4 (.slice A5 ws.length c5) ws.length (ws.flatMap WayM.vals) := own5
      clear own5
      have hsz5 : wr.heap.size ≤ w5.heap.size := yy.size
      go_wp2_with fail
      refine (clone_Ways A5 ws.length c5 ws w5 rfl (by omega) (own_cells O5).1).mono ?_
      rintro e w6 ⟨A6, c6, rfl, O6, x6⟩
      replace yy := ext_trans yy x6
      have hne : (Value.slice A5 ws.length c5).ownBlock = none ∨ (Value.slice A5 ws.length c5).ownBlock ≠ (Value.slice A6 ws.length c6).ownBlock := by
        cases e5 : (Value.slice A5 ws.length c5).ownBlock with
        | none => exact .inl rfl
        | some b5 => exact .inr fun e6 => by have h1 := O5.lt b5 e5; have h2 := O6.lt b5 e6.symm; omega
      replace O5 := own_ext O5 x6
      replace O6 := own_mono (base' := wr.heap.size) O6 hsz5
      clear x6
      generalize wr = wo at *
      go_wp2
      go_loopw [9, 60] (fun a9 a60 wr => ∃ (j : Nat) (A : Option Addr) (c : Nat), j ≤ ws.length ∧ a60 = .int .i64 j ∧ a9 = .slice A (ws.length + j) c ∧ wr.ownsRow wo.heap.size 85 4 (.slice A (ws.length + j) c) (ws.length + j) ((ws ++ (ws.take j).map negX).flatMap WayM.vals) ∧ wr.ownsRow wo.heap.size 85 4 (.slice A6 ws.length c6) ws.length (ws.flatMap WayM.vals) ∧ ((Value.slice A (ws.length + j) c).ownBlock = none ∨ (Value.slice A (ws.length + j) c).ownBlock ≠ (Value.slice A6 ws.length c6).ownBlock) ∧ Ext wo wr) (fun _ a60 _ => ws.length - (intOf a60).toNat)
      case atStart => exact ⟨0, A5, c5, Nat.zero_le _, rfl, rfl, by simpa using O5, O6, hne, yy⟩
      case round =>
        obtain ⟨j, A, c, hj, rfl, rfl, O7, O8, hn7, x7⟩ := hrel
        clear O5 O6 hne yy
        by_cases hjl : j < ws.length
        · obtain ⟨g6, cc6, ev6, hg6, hg6'⟩ := O8.form (by omega)
          cases ev6
          have hx : ws[j]? = some ws[j] := List.getElem?_eq_getElem hjl
          have hdx := HDX.out ws[j] (List.getElem_mem _)
          have hc : ∀ t, t < 4 → wr.cell? ⟨g6, j * 4 + t, none⟩ = (ws[j]).vals[t]? := fun t ht => by rw [O8.cellAt _ (by omega), flat_get WayM.vals 4 (fun _ => rfl) ws j t _ hx ht]
          have HX := hide hx
          clear hx
          generalize ws[j] = x at *
          have d0 : wr.cell? ⟨g6, j * 4, none⟩ = some (.int .i64 x.dx) := hc 0 (by omega)
          have d1 : wr.cell? ⟨g6, j * 4 + 1, none⟩ = some (.int .i64 x.dy) := hc 1 (by omega)
          have d2 : wr.cell? ⟨g6, j * 4 + 2, none⟩ = some (.int .i64 x.most) := hc 2 (by omega)
          have d3 : wr.cell? ⟨g6, j * 4 + 3, none⟩ = some (.int .i64 x.take) := hc 3 (by omega)
          have hwx : IntKind.i64.wrap (-x.dx) = -x.dx := by rw [IntKind.wrap_i64]; omega
          clear hc
          go_upto_region 14 with (fail)
          have kw := Blk.new wr 85 #[.int .i64 (-x.dx), .int .i64 x.dy, .int .i64 x.most, .int .i64 x.take]
          have xw := ext_alloc x7 (.cells #[.int .i64 (-x.dx), .int .i64 x.dy, .int .i64 x.most, .int .i64 x.take] 85)
          have O7' := O7.alloc (.cells #[.int .i64 (-x.dx), .int .i64 x.dy, .int .i64 x.most, .int .i64 x.take] 85)
          have O8' := O8.alloc (.cells #[.int .i64 (-x.dx), .int .i64 x.dy, .int .i64 x.most, .int .i64 x.take] 85)
          have hs1 : wr.heap.size ≤ (wr.alloc (.cells #[.int .i64 (-x.dx), .int .i64 x.dy, .int .i64 x.most, .int .i64 x.take] 85)).heap.size := by simp
          clear O7 O8 x7 d0 d1 d2 d3
          generalize wr.alloc (.cells #[.int .i64 (-x.dx), .int .i64 x.dy, .int .i64 x.most, .int .i64 x.take] 85) = wb at *
          generalize wr.heap.size = BW at *
          have e0 : wb.cell? ⟨BW, 0, none⟩ = some (.int .i64 (-x.dx)) := kw.cell 0
          have e1 : wb.cell? ⟨BW, 1, none⟩ = some (.int .i64 x.dy) := kw.cell 1
          have e2 : wb.cell? ⟨BW, 2, none⟩ = some (.int .i64 x.most) := kw.cell 2
          have e3 : wb.cell? ⟨BW, 3, none⟩ = some (.int .i64 x.take) := kw.cell 3
          have hxe : (ws ++ (ws.take (j + 1)).map negX).flatMap WayM.vals = (ws ++ (ws.take j).map negX).flatMap WayM.vals ++ [.int .i64 (-x.dx), .int .i64 x.dy, .int .i64 x.most, .int .i64 x.take] := by rw [List.take_add_one, HX.out]; simp [negX, WayM.vals]
          generalize (ws ++ (ws.take j).map negX).flatMap WayM.vals = vs at *
          have HXE := hide hxe
          have HO7 := hide O7'
          have HO8 := hide O8'
          have HXW := hide xw
          have hs2 := xw.size
          clear hxe O7' O8' xw kw
          go_wp2_with (at_builtin; refine wpList_append_lies _ rfl (.tmp 68) (.tmp 70) 80 rfl wo.heap.size 85 i0 _ 4 32 Try.underlying80 hi hz0 hz1 hz2 rfl (by decide) (.slice A (ws.length + j) c) (ws.length + j) _ rfl (HO7.out.alloc _) ⟨wb.heap.size, 0, none⟩ 1 1 [.int .i64 (-x.dx), .int .i64 x.dy, .int .i64 x.most, .int .i64 x.take] rfl rfl (fun j u hu => World.news_of_block (heap_alloc_new wb _) j u hu) ?one (by omega) (by simp only [maxLen]; omega) (by omega) ?base _ rfl ?_)
          case one => intro u hu; simp at hu; rcases hu with rfl | rfl | rfl | rfl <;> rfl
          case base => simp; omega
          intro g7 cap7 w7 own7 hgrow hat hlt7
          have hn8 : (Value.slice (some ⟨g6, 0, none⟩) ws.length c6).ownBlock ≠ (Value.slice A (ws.length + j) c).ownBlock := by
            rcases hn7 with h | h
            · rw [h]; simp [Value.ownBlock]
            · exact fun h2 => h h2.symm
          have O9 := (HO8.out.alloc _).kept hgrow (.inr hn8)
          have x9 := ext_grown (ext_alloc HXW.out _) hgrow (own_row HO7.out)
          have hn9 : (Value.slice (some ⟨g7, 0, none⟩) (ws.length + (j + 1)) cap7).ownBlock ≠ (Value.slice (some ⟨g6, 0, none⟩) ws.length c6).ownBlock := by
            intro h
            simp [Value.ownBlock] at h
            subst h
            rcases hat with h | h
            · exact hn8 h.symm
            · first | omega | (simp at h; omega)
          clear hgrow hat hlt7 hn8 hn7 HO7 HO8 HXW
          go_wp2
          go_roundw
          case rel => exact ⟨j + 1, some ⟨g7, 0, none⟩, cap7, by omega, by go_num, rfl, by rw [HXE.out]; exact own7, O9, .inr hn9, x9⟩
          case measure => simp [intOf]; omega
        · obtain rfl : j = ws.length := by omega
          have hbw : bothW q.ways = ws ++ ws.map negX := by unfold bothW; rw [HWS.out]
          have hbl : (bothW q.ways).length = ws.length + ws.length := by rw [hbw]; simp
          rw [List.take_length, ← hbw, ← hbl] at O7
          have OP := own_ext own' x7
          obtain ⟨ls', O10, H10⟩ := (half'.ext x7).put OP HQ.out HL.out (own_mono O7 hBr)
          rw [hbl] at O10 H10
          have f0 := HC3.out wr x7
          have fz := OP.frozenAt (k * 4 + 3)
          have e1 := hide ((kR'.ext x7).far (p := ⟨g, k * 4 + 3, none⟩) (by show BR ≠ g; omega) (.slice A (ws.length + ws.length) c))
          have e2 := hide ((kP'.ext x7).far (p := ⟨g, k * 4 + 3, none⟩) (by show BP ≠ g; omega) (.slice A (ws.length + ws.length) c))
          have e3 := hide O10
          have e4 := hide H10
          have e5 := hide (ext_set (ext_trans X1.out x7) (p := ⟨g, k * 4 + 3, none⟩) (by show w.heap.size ≤ g; omega) (.slice A (ws.length + ws.length) c))
          clear O7 O8 O10 H10 OP hn7 hbw hbl x7
          go_wp2
          go_roundw
          case rel => exact ⟨k + 1, ls', by omega, by go_num, e1.out, e2.out, e3.out, e4.out, e5.out⟩
          case measure => simp [intOf]; omega
    · obtain rfl : k = n := by omega
      have f3 := kR'.cell 3
      have z3 := kR'.frozen 3
      have hPR : ¬ BP = BR := by
        rintro rfl
        have e := kP'.symm.trans kR'
        simp only [Option.some.injEq, Obj.cells.injEq] at e
        exact absurd e.2.1 (by decide)
      have own2 := own_set own' (p := ⟨BR, 3, none⟩) (fun e => by simp [Value.ownBlock] at e; omega) (.slice (some ⟨g, 0, none⟩) k c9)
      have half2 := half'.keep (fun v m xs h => own_set h (p := ⟨BR, 3, none⟩) (fun e => by have := (h.lt BR e).1; omega) (.slice (some ⟨g, 0, none⟩) k c9))
      have kR := kR'.set_ 3 (.slice (some ⟨g, 0, none⟩) k c9)
      have kP := kP'.far (p := ⟨BR, 3, none⟩) hPR (.slice (some ⟨g, 0, none⟩) k c9)
      have XS := ext_set X' (p := ⟨BR, 3, none⟩) (show w.heap.size ≤ BR from HAB) (.slice (some ⟨g, 0, none⟩) k c9)
      have hR := rules_both HRW.out XS HN.out (own_cap own2) (half2.done HN.out own2)
      have hP := HPW.out.ext XS
      clear own' half' own2 half2 kR' kP' X'
      have q1 := hide kR
      have q2 := hide kP
      have q3 := hide XS
      have q4 := hide hR
      have q5 := hide hP
      clear kR kP XS hR hP
      go_upto_region 19 with (fail)
      have kR := q1.out
      have kP := q2.out
      have XS := q3.out
      have hR := q4.out
      have hP := q5.out
      clear q1 q2 q3 q4 q5 f3 z3
      generalize wr.setCell ⟨BR, 3, none⟩ (.slice (some ⟨g, 0, none⟩) k c9) = wS at *
      have HRS := hide hR
      have HPS := hide hP
      have hRl := kR.lt
      have hPl := kP.lt
      have fR := kR.cell
      have fP := kP.cell
      go_wp2_with fail
      refine (HHV.out _ _ _ hR hP).mono ?_
      rintro e v21 ⟨rfl, x⟩
      replace hR := hR.ext x
      replace hP := hP.ext x
      replace kR := kR.ext x
      replace kP := kP.ext x
      have X := x
      replace fR := kR.cell
      replace fP := kP.cell
      clear x
      clear HHV
      cases heavyB (bothR R) P D
      case true =>
        go_wp2
        go_ret
        exact ⟨rfl, ext_trans XS X⟩
      clear fR fP
      have hfP := kP.cell
      go_upto_region 22 with (fail)
      clear hfP
      have HAQ : Above wS v21.heap.size := X.size
      have hsym : okSym R.width R.height 1 := by have := HV.out.side; unfold okSym cnt; split <;> omega
      obtain ⟨xa, kQ⟩ := blks1 v21 #[.slice cA P.cells.length cc, .slice aA P.hand0.length ac, .slice bA P.hand1.length bc, .int .i64 P.turn, .int .i64 P.quiet] 29
      replace hR := hR.ext xa
      replace hP := hP.ext xa
      replace kR := kR.ext xa
      replace kP := kP.ext xa
      replace X := ext_trans X xa
      clear xa
      generalize (v21.alloc (.cells #[.slice cA P.cells.length cc, .slice aA P.hand0.length ac, .slice bA P.hand1.length bc, .int .i64 P.turn, .int .i64 P.quiet] 29)) = v22 at *
      generalize v21.heap.size = BQ at *
      have fR := kR.cell
      have fP := kP.cell
      go_wp2_with fail
      clear fR fP
      obtain ⟨hI, hI0, hI1, hl, hl0, hl1⟩ := pos_parts hP
      have hQl := kQ.lt
      refine (Apply_yes R.width R.height 1 cA P.cells.length cc P.cells _ HV.out.side hsym rfl HS.out.area hI).mono ?_
      rintro e v23 ⟨g2, xs, rfl, hrow, hmv, hg2, x⟩
      replace hR := hR.ext x
      replace hP := hP.ext x
      replace kR := kR.ext x
      replace kP := kP.ext x
      replace kQ := kQ.ext x
      replace X := ext_trans X x
      clear x
      obtain rfl := hmv.eq HV.out.side hsym HS.out.area
      clear hmv hI hI0 hI1 hl hl0 hl1 hR hP
      have HAQ' : wS.heap.size ≤ BQ := HAQ
      have f0 := kQ.cell 0
      have z0 := kQ.frozen 0
      have q1 := hide (kR.far (p := ⟨BQ, 0, none⟩) (by show BR ≠ BQ; omega) (.slice (some ⟨g2, 0, none⟩) P.cells.length P.cells.length))
      have q2 := hide (kP.far (p := ⟨BQ, 0, none⟩) (by show BP ≠ BQ; omega) (.slice (some ⟨g2, 0, none⟩) P.cells.length P.cells.length))
      have q3 := hide (kQ.set_ 0 (.slice (some ⟨g2, 0, none⟩) P.cells.length P.cells.length))
      have q4 := hide (hrow.far (p := ⟨BQ, 0, none⟩) (by show g2 ≠ BQ; omega) (.slice (some ⟨g2, 0, none⟩) P.cells.length P.cells.length))
      have q5 := hide (ext_set X (p := ⟨BQ, 0, none⟩) HAQ' (.slice (some ⟨g2, 0, none⟩) P.cells.length P.cells.length))
      clear kR kP kQ hrow X
      go_upto_region 24 with (fail)
      have kR := q1.out
      have kP := q2.out
      have kQ := q3.out
      have hrow := q4.out
      have XT := q5.out
      have hR := HRS.out.ext XT
      have hP := HPS.out.ext XT
      clear q1 q2 q3 q4 q5 f0 z0
      generalize v23.setCell ⟨BQ, 0, none⟩ (.slice (some ⟨g2, 0, none⟩) P.cells.length P.cells.length) = wT at *
      have hQ : PosAt wT _ (mirP (bothR R) P) := pos_mir hrow (pos_parts hP).2.1 (pos_parts hP).2.2.1 (pos_parts hP).2.2.2.2.1 (pos_parts hP).2.2.2.2.2 rfl
      have hsc := score_mir (both_valid HV.out) (both_both R) (both_sound HS.out) D
      rw [hsc.1, hsc.2] at HSB
      clear hsc hrow
      generalize perftE (bothR R) P D = pe at *
      generalize scoreM (bothR R) P D = sc1 at *
      have fR := kR.cell
      have fP := kP.cell
      have fQ := kQ.cell
      go_wp2_with fail
      refine (HSA.out _ _ _ hR hP).mono ?_
      rintro e t31 ⟨rfl, x⟩
      replace hR := hR.ext x
      replace hP := hP.ext x
      replace hQ := hQ.ext x
      replace kR := kR.ext x
      replace kP := kP.ext x
      replace kQ := kQ.ext x
      have X := x
      replace fR := kR.cell
      replace fP := kP.cell
      replace fQ := kQ.cell
      clear x
      go_wp2_with fail
      refine (HSB.out _ _ _ hR hQ).mono ?_
      rintro e t32 ⟨rfl, x⟩
      replace hR := hR.ext x
      replace hP := hP.ext x
      replace hQ := hQ.ext x
      replace kR := kR.ext x
      replace kP := kP.ext x
      replace kQ := kQ.ext x
      replace X := ext_trans X x
      replace fR := kR.cell
      replace fP := kP.cell
      replace fQ := kQ.cell
      clear x
      clear fR fP fQ
      go_wp2
      all_goals go_ret
      all_goals exact ⟨by first | rfl | simp, ext_trans XS (ext_trans XT X)⟩

end Go.Proofs.Ytmofipijjokjfaa
namespace Go.Proofs.Ytmofipijjokjfaa
open Go.ChangeShapes Go.WideShapes Go.ChangeAt Go.RowKit Go.Shelf
set_option linter.unusedVariables false
theorem symmScores_law (v : Value) (R : RulesM) (u : Value) (P : PosM) (D : Int) (w : World) (hR : RulesAt w v R) (hC : RulesCap w v R) (hP : PosAt w u P) :
    Calls Try.prog 14 #[v, u, .int .i64 D] w fun e w' => e = .returned (.bool true) ∧ Ext w w' := by
  by_cases he : checkE R P = 0
  · exact symmScores_good R P v u D w hR hP hC he
  · exact symmScores_bad R P v u D w hR hP he
end Go.Proofs.Ytmofipijjokjfaa
