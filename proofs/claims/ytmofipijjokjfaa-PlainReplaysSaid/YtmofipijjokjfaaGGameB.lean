/- Walk: (*plain.Game).Play. Walk: place.Begin, its lists in blocks of their own. Walks: (*plain.Game).Back; place.Begin of rules that are not valid; plain.New. Walks: place.Begin of rules that are not valid; plain.New. Games that have been played, as plain data. No program. Walk: plain.Run of moves that can be played. Walk: played. -/
import Derived.Test.YtmofipijjokjfaaGGameA
import Derived.Test.YtmofipijjokjfaaGAfter
import Derived.Test.YtmofipijjokjfaaGPlays
import Derived.Test.YtmofipijjokjfaaGThree
import Derived.Test.YtmofipijjokjfaaGLibB
namespace Go.Proofs.Ytmofipijjokjfaa
open Go.ChangeShapes Go.WideShapes Go.ChangeAt Go.RowKit Go.Shelf
set_option linter.unusedVariables false
set_option linter.unusedSimpArgs false
theorem posInfo : (Try.prog.info? 29).map (fun i => (i.zero, i.size, i.bytes)) = some (some (.agg #[.slice none 0 0, .slice none 0 0, .slice none 0 0, .int .i64 0, .int .i64 0]), 5, 88) := by kernel_rfl
theorem ite_yes' {c : Prop} [Decidable c] {A B : Prop} (hc : c) (h : A) : if c then A else B := by rw [if_pos hc]; exact h
set_option maxHeartbeats 1000000 in
theorem oper_append_pos {o : Oper} {a : Act} {K : Act → World → Prop} {Q : Exit → Act → World → Prop} (s x : Operand)
    (ho : o.op = .call { callee := .builtin .append, args := #[s, x], argTypes := #[107, 107] }) (w0 w : World) (v : Value) (ps : List PosM) (P : PosM) (g0 g1 g2 d0 d1 d2 : Nat)
    (hp : PosI w (.agg #[.slice (some ⟨g0, 0, none⟩) P.cells.length d0, .slice (some ⟨g1, 0, none⟩) P.hand0.length d1, .slice (some ⟨g2, 0, none⟩) P.hand1.length d2, .int .i64 P.turn, .int .i64 P.quiet]) P) (hs : a.eval s = v) (hown : OwnP w0 w v ps) (hx : a.eval x = .slice (some ⟨w.heap.size, 0, none⟩) 1 1)
    (hext : Ext w0 w) (hlen : ps.length ≤ 1000000) (h : ∀ v' w', OwnP w0 w' v' (ps ++ [P]) → Ext w0 w' → w.grownBy w' v.ownBlock → TFr [29] w w' → K (a.put o.dst v') w') :
    Oper.wp Try.prog o a (w.alloc (.cells #[.slice (some ⟨g0, 0, none⟩) P.cells.length d0, .slice (some ⟨g1, 0, none⟩) P.hand0.length d1, .slice (some ⟨g2, 0, none⟩) P.hand1.length d2, .int .i64 P.turn, .int .i64 P.quiet] 29)) K Q := by
  obtain ⟨A, c, vss, rfl, hown, hcs⟩ := hown
  obtain ⟨i0, hi, hz0, hz1, hz2⟩ := info_parts posInfo
  have hsz := hext.size
  obtain ⟨v', w', hrun, h2, h3⟩ := run_append_cells (P := Try.prog) _ w0.heap.size 107 o.type 29 i0 (.agg #[.slice none 0 0, .slice none 0 0, .slice none 0 0, .int .i64 0, .int .i64 0]) 5 88 Try.underlying107 hi hz0 hz1 hz2 rfl (by decide) _ ps.length vss.flatten (own_ext hown (ext_alloc (Below.refl _ _) _)) (some ⟨w.heap.size, 0, none⟩) 1 1 [.slice (some ⟨g0, 0, none⟩) P.cells.length d0, .slice (some ⟨g1, 0, none⟩) P.hand0.length d1, .slice (some ⟨g2, 0, none⟩) P.hand1.length d2, .int .i64 P.turn, .int .i64 P.quiet] rfl (cellsAt_new w 29 [.slice (some ⟨g0, 0, none⟩) P.cells.length d0, .slice (some ⟨g1, 0, none⟩) P.hand0.length d1, .slice (some ⟨g2, 0, none⟩) P.hand1.length d2, .int .i64 P.turn, .int .i64 P.quiet]) (by simp [Value.oneCell']) (by simp only [maxLen]; omega) (by omega) (by simp; omega) (by simp)
  unfold Oper.wp execOp
  simp only [ho, resolve, invoke, builtin, Sem.run_bind, Sem.run_pure, Result.andThen_ok, List.map_toArray, List.map_cons, List.map_nil, hs, hx, hrun]
  obtain ⟨A', c', rfl, _, _⟩ := own_shape h2
  have f : TFr [29] w w' := (TFr.of_ext (ext_alloc (Below.refl _ _) _)).trans (TFr.grown (own_ext hown (ext_alloc (Below.refl _ _) _)) (List.mem_singleton.2 rfl) h3)
  refine h _ w' ⟨A', c', vss ++ [[.slice (some ⟨g0, 0, none⟩) P.cells.length d0, .slice (some ⟨g1, 0, none⟩) P.hand0.length d1, .slice (some ⟨g2, 0, none⟩) P.hand1.length d2, .int .i64 P.turn, .int .i64 P.quiet]], by simp, by simpa using h2, (hcs.tfr (by decide) f).snoc rfl (hp.tfr (by decide) f)⟩ (ext_grown (ext_alloc hext _) h3 (own_row hown)) ?_ f
  exact ⟨h3.os, h3.tape, h3.output, by have := h3.size; simp at this; omega, fun b hb hn => by
    rw [h3.block b (by simp; omega) hn]
    exact Below.heap_alloc w _ b hb⟩
set_option maxHeartbeats 1000000 in
theorem oper_append_mv {o : Oper} {a : Act} {K : Act → World → Prop} {Q : Exit → Act → World → Prop} (s x : Operand)
    (ho : o.op = .call { callee := .builtin .append, args := #[s, x], argTypes := #[53, 53] }) (w0 w : World) (v : Value) (xs : List MoveM) (m : MoveM) (hs : a.eval s = v) (hown : OwnM w0 w v xs) (hx : a.eval x = .slice (some ⟨w.heap.size, 0, none⟩) 1 1)
    (hext : Ext w0 w) (hlen : xs.length ≤ 1000000) (h : ∀ v' w', OwnM w0 w' v' (xs ++ [m]) → Ext w0 w' → w.grownBy w' v.ownBlock → TFr [39] w w' → K (a.put o.dst v') w') :
    Oper.wp Try.prog o a (w.alloc (.cells #[.int .i64 m.src, .int .i64 m.dst, .int .i64 m.piece] 39)) K Q := by
  obtain ⟨A, c, rfl, hown⟩ := hown
  obtain ⟨i0, hi, hz0, hz1, hz2⟩ := info_parts moveInfo
  have hsz := hext.size
  obtain ⟨v', w', hrun, h2, h3⟩ := run_append_cells (P := Try.prog) _ w0.heap.size 53 o.type 39 i0 (.agg #[.int .i64 0, .int .i64 0, .int .i64 0]) 3 24 Try.underlying53 hi hz0 hz1 hz2 rfl (by decide) _ xs.length (xs.flatMap MoveM.vals) (own_ext hown (ext_alloc (Below.refl _ _) _)) (some ⟨w.heap.size, 0, none⟩) 1 1 m.vals rfl (cellsAt_new w 39 m.vals) (by simp [MoveM.vals, Value.oneCell']) (by simp only [maxLen]; omega) (by omega) (by simp; omega) (by simp)
  unfold Oper.wp execOp
  simp only [ho, resolve, invoke, builtin, Sem.run_bind, Sem.run_pure, Result.andThen_ok, List.map_toArray, List.map_cons, List.map_nil, hs, hx, hrun, show #[Value.int .i64 m.src, .int .i64 m.dst, .int .i64 m.piece] = m.vals.toArray from rfl]
  obtain ⟨A', c', rfl, _, _⟩ := own_shape h2
  have f : TFr [39] w w' := (TFr.of_ext (ext_alloc (Below.refl _ _) _)).trans (TFr.grown (own_ext hown (ext_alloc (Below.refl _ _) _)) (List.mem_singleton.2 rfl) h3)
  refine h _ w' ⟨A', c', by simp, by simpa using h2⟩ (ext_grown (ext_alloc hext _) h3 (own_row hown)) ?_ f
  exact ⟨h3.os, h3.tape, h3.output, by have := h3.size; simp at this; omega, fun b hb hn => by
    rw [h3.block b (by simp; omega) hn]
    exact Below.heap_alloc w _ b hb⟩
theorem OwnM.tfr {ts : List TypeId} {w0 w W : World} {v : Value} {ms : List MoveM} (h : OwnM w0 w v ms) (he : 39 ∉ ts) (f : TFr ts w W) : OwnM w0 W v ms := by
  obtain ⟨A, c, rfl, h⟩ := h
  exact ⟨A, c, rfl, own_tfr h he f⟩
theorem OwnP.tfr {ts : List TypeId} {w0 w W : World} {v : Value} {ps : List PosM} (h : OwnP w0 w v ps) (he : 29 ∉ ts) (hi : 3 ∉ ts) (f : TFr ts w W) : OwnP w0 W v ps := by
  obtain ⟨A, c, vss, rfl, h, k⟩ := h
  exact ⟨A, c, vss, rfl, own_tfr h he f, k.tfr hi f⟩
theorem OwnM.grow9 {w0 w1 w W : World} {v l : Value} {ms : List MoveM} {ps : List PosM} (h : OwnM w0 w v ms) (o : OwnP w1 w l ps) (g : w.grownBy W l.ownBlock) : OwnM w0 W v ms := by
  obtain ⟨A, c, rfl, h⟩ := h
  obtain ⟨A', c', vss, rfl, o, -⟩ := o
  exact ⟨A, c, rfl, own_tfr (ts := [29]) h (by decide) (TFr.grown o (List.mem_singleton.2 rfl) g)⟩
/-- What Play answers. -/
def playE (R : RulesM) (ps : List PosM) (ms : List MoveM) (P : PosM) (m : MoveM) : Int := if resultG R ps P ≠ 0 then 14 else if ¬ m ∈ listM R P then 13 else if ms.length = 400 then 9 else 0
theorem play1 {R : RulesM} {ps : List PosM} {ms : List MoveM} {P : PosM} {m : MoveM} (h : resultG R ps P ≠ 0) : playE R ps ms P m = 14 := if_pos h
theorem play2 {R : RulesM} {ps : List PosM} {ms : List MoveM} {P : PosM} {m : MoveM} (h : resultG R ps P = 0) (hm : ¬ m ∈ listM R P) : playE R ps ms P m = 13 := by unfold playE; rw [if_neg (by simpa using h), if_pos hm]
theorem play3 {R : RulesM} {ps : List PosM} {ms : List MoveM} {P : PosM} {m : MoveM} (h : resultG R ps P = 0) (hm : m ∈ listM R P) (hn : ms.length = 400) : playE R ps ms P m = 9 := by unfold playE; rw [if_neg (by simpa using h), if_neg (by simpa using hm), if_pos hn]
theorem play4 {R : RulesM} {ps : List PosM} {ms : List MoveM} {P : PosM} {m : MoveM} (h : resultG R ps P = 0) (hm : m ∈ listM R P) (hn : ms.length ≠ 400) : playE R ps ms P m = 0 := by unfold playE; rw [if_neg (by simpa using h), if_neg (by simpa using hm), if_neg hn]
set_option maxHeartbeats 4000000 in
set_option maxRecDepth 100000 in
theorem Play_over {w0 wa : World} {BG : Nat} {R : RulesM} {ps : List PosM} {ms : List MoveM} (hG : GameAt w0 wa BG R ps ms) (hl : ps.length ≤ 100000) (hlm : ms.length ≤ 100000) (hV : Valid R) (hS : ∀ Q ∈ ps, Sound R Q) {P : PosM} (hP : ps.getLast? = some P) (mv : MoveM) (hr : resultG R ps P ≠ 0) :
    Calls Try.prog 42 #[.pointer (some ⟨BG, 0, none⟩), .agg #[.int .i64 mv.src, .int .i64 mv.dst, .int .i64 mv.piece]] wa fun e w' => e = .returned (.int .i64 14) ∧ Ext wa w' := by
  have HRS := hide (fun W' (x : Ext wa W') => GResult_any (hG.ext x) (by omega) hV hS hP)
  have t0 : (resultG R ps P != 0) = true := by simpa using hr
  clear hG hl hlm hV hS hP hr
  generalize resultG R ps P = z at *
  obtain ⟨xa, kM⟩ := blks1 wa #[.int .i64 mv.src, .int .i64 mv.dst, .int .i64 mv.piece] 39
  have KM := hide kM
  have X1 := hide xa
  clear xa kM
  go_enter Try.func42, Try.ntmps42
  go_wp2_with fail
  refine (HRS.out _ X1.out).mono ?_
  rintro e w2 ⟨rfl, x2⟩
  have X2 := hide (ext_trans X1.out x2)
  have KM2 := hide (KM.out.ext x2)
  clear x2 KM X1 HRS
  go_wp2
  go_ret
  exact ⟨rfl, X2.out⟩
set_option maxHeartbeats 4000000 in
set_option maxRecDepth 100000 in
theorem Play_ill {w0 wa : World} {BG : Nat} {R : RulesM} {ps : List PosM} {ms : List MoveM} (hG : GameAt w0 wa BG R ps ms) (hl : ps.length ≤ 100000) (hlm : ms.length ≤ 100000) (hV : Valid R) (hS : ∀ Q ∈ ps, Sound R Q) {P : PosM} (hP : ps.getLast? = some P) (mv : MoveM) (hr : resultG R ps P = 0) (hm : ¬ mv ∈ listM R P) :
    Calls Try.prog 42 #[.pointer (some ⟨BG, 0, none⟩), .agg #[.int .i64 mv.src, .int .i64 mv.dst, .int .i64 mv.piece]] wa fun e w' => e = .returned (.int .i64 13) ∧ Ext wa w' := by
  have HRS := hide (fun W' (x : Ext wa W') => GResult_any (hG.ext x) (by omega) hV hS hP)
  have HNW := hide (fun W' (x : Ext wa W') => now_any (hG.ext x) (by omega) hP)
  have hSP := hS P (last_mem hP)
  have HCO := hide (fun (v : Value) W' (h : MovesAt W' v (listM R P)) => Contains_any (listM R P) mv v W' h (listM_len hV hSP))
  obtain ⟨pA, pc, sA, sc, eA, ec, base, l, m, h1, h2, h3, h4, h5, h6⟩ := hG
  have HLI := hide (fun (v : Value) W' (x : Ext wa W') (h : PosI W' v P) => List_any R P _ v W' (h2.ext x).at_ h.at_ hV hSP)
  rw [hr] at HRS
  rw [decide_eq_false hm] at HCO
  clear h2 h3 h4 h5 h6 hV hS hP hr hm hSP hl hlm
  obtain ⟨xa, kM⟩ := blks1 wa #[.int .i64 mv.src, .int .i64 mv.dst, .int .i64 mv.piece] 39
  have KM := hide kM
  have X1 := hide xa
  clear xa kM
  go_enter Try.func42, Try.ntmps42
  go_wp2_with fail
  refine (HRS.out _ X1.out).mono ?_
  rintro e w2 ⟨rfl, x2⟩
  have X2 := hide (ext_trans X1.out x2)
  have KM2 := hide (KM.out.ext x2)
  clear x2 KM X1 HRS
  have KG2 := hide (h1.ext X2.out)
  clear h1
  generalize wa.heap.size = BM at *
  go_upto_region 3 with fail
  have keepK := hide (fun W (h : Ext w2 W) => (show (fun W => W.cell? ⟨BG, 0, none⟩ = some (.string R.name) ∧ W.cell? ⟨BG, 1, none⟩ = some (.int .i64 R.width) ∧ W.cell? ⟨BG, 2, none⟩ = some (.int .i64 R.height) ∧ W.cell? ⟨BG, 3, none⟩ = some (.slice pA R.pieces.length pc) ∧ W.cell? ⟨BG, 4, none⟩ = some (.slice sA R.start.length sc) ∧ W.cell? ⟨BG, 5, none⟩ = some (.bool R.falls) ∧ W.cell? ⟨BG, 6, none⟩ = some (.bool R.keeps) ∧ W.cell? ⟨BG, 7, none⟩ = some (.slice eA R.ends.length ec) ∧ W.cell? ⟨BG, 8, none⟩ = some (.int .i64 R.blocked) ∧ W.cell? ⟨BG, 9, none⟩ = some (.int .i64 R.quiet) ∧ W.cell? ⟨BG, 10, none⟩ = some (.int .i64 R.rept) ∧ W.cell? ⟨BG, 11, none⟩ = some (l) ∧ W.cell? ⟨BG, 12, none⟩ = some (m) ∧ W.cell? ⟨BM, 0, none⟩ = some (.int .i64 mv.src) ∧ W.cell? ⟨BM, 1, none⟩ = some (.int .i64 mv.dst) ∧ W.cell? ⟨BM, 2, none⟩ = some (.int .i64 mv.piece) ∧ Ext w2 W) W from ⟨(KG2.out.ext h).cell 0, (KG2.out.ext h).cell 1, (KG2.out.ext h).cell 2, (KG2.out.ext h).cell 3, (KG2.out.ext h).cell 4, (KG2.out.ext h).cell 5, (KG2.out.ext h).cell 6, (KG2.out.ext h).cell 7, (KG2.out.ext h).cell 8, (KG2.out.ext h).cell 9, (KG2.out.ext h).cell 10, (KG2.out.ext h).cell 11, (KG2.out.ext h).cell 12, (KM2.out.ext h).cell 0, (KM2.out.ext h).cell 1, (KM2.out.ext h).cell 2, h⟩))
  have yy : Ext w2 w2.drew := Below.drew (Below.refl _ _)
  refine region_K (fun W => W.cell? ⟨BG, 0, none⟩ = some (.string R.name) ∧ W.cell? ⟨BG, 1, none⟩ = some (.int .i64 R.width) ∧ W.cell? ⟨BG, 2, none⟩ = some (.int .i64 R.height) ∧ W.cell? ⟨BG, 3, none⟩ = some (.slice pA R.pieces.length pc) ∧ W.cell? ⟨BG, 4, none⟩ = some (.slice sA R.start.length sc) ∧ W.cell? ⟨BG, 5, none⟩ = some (.bool R.falls) ∧ W.cell? ⟨BG, 6, none⟩ = some (.bool R.keeps) ∧ W.cell? ⟨BG, 7, none⟩ = some (.slice eA R.ends.length ec) ∧ W.cell? ⟨BG, 8, none⟩ = some (.int .i64 R.blocked) ∧ W.cell? ⟨BG, 9, none⟩ = some (.int .i64 R.quiet) ∧ W.cell? ⟨BG, 10, none⟩ = some (.int .i64 R.rept) ∧ W.cell? ⟨BG, 11, none⟩ = some (l) ∧ W.cell? ⟨BG, 12, none⟩ = some (m) ∧ W.cell? ⟨BM, 0, none⟩ = some (.int .i64 mv.src) ∧ W.cell? ⟨BM, 1, none⟩ = some (.int .i64 mv.dst) ∧ W.cell? ⟨BM, 2, none⟩ = some (.int .i64 mv.piece) ∧ Ext w2 W) (fun _ => True) [] (by kernel_rfl) ?_
  have hT0 := keepK.out _ yy
  refine anyK_take 0 (oi := ?oo1) ?ho1 (by kernel_rfl) (by kernel_rfl) (by kernel_rfl) (by kernel_rfl) ?hq1 ?hw1 hT0 (fun _ => trivial) (v := ?vv1) ?hy1 ?hk1
  case ho1 => (simp only [List.getElem?_toArray, List.getElem?_cons_succ, List.getElem?_cons_zero]; rfl)
  case hq1 => exact fun _ _ _ h => h
  case hw1 => rfl
  case hy1 =>
    intro W hW
    go_simp
    first | done | with_reducible rfl
  case hk1 =>
  try simp only [Act.put, List.setIfInBounds_toArray, List.set_cons_zero, List.set_cons_succ]
  refine anyK_take 1 (oi := ?oo2) ?ho2 (by kernel_rfl) (by kernel_rfl) (by kernel_rfl) (by kernel_rfl) ?hq2 ?hw2 hT0 (fun _ => trivial) (v := ?vv2) ?hy2 ?hk2
  case ho2 => (simp only [List.getElem?_toArray, List.getElem?_cons_succ, List.getElem?_cons_zero]; rfl)
  case hq2 => exact fun _ _ _ h => h
  case hw2 => rfl
  case hy2 =>
    intro W hW
    go_simp
    first | done | with_reducible rfl
  case hk2 =>
  try simp only [Act.put, List.setIfInBounds_toArray, List.set_cons_zero, List.set_cons_succ]
  refine anyK_take 2 (oi := ?oo3) ?ho3 (by kernel_rfl) (by kernel_rfl) (by kernel_rfl) (by kernel_rfl) ?hq3 ?hw3 hT0 (fun _ => trivial) (v := ?vv3) ?hy3 ?hk3
  case ho3 => (simp only [List.getElem?_toArray, List.getElem?_cons_succ, List.getElem?_cons_zero]; rfl)
  case hq3 => exact fun _ _ _ h => h
  case hw3 => rfl
  case hy3 =>
    intro W hW
    go_simp
    first | done | with_reducible rfl
  case hk3 =>
  try simp only [Act.put, List.setIfInBounds_toArray, List.set_cons_zero, List.set_cons_succ]
  refine anyK_take 3 (oi := ?oo4) ?ho4 (by kernel_rfl) (by kernel_rfl) (by kernel_rfl) (by kernel_rfl) ?hq4 ?hw4 hT0 (fun _ => trivial) (v := ?vv4) ?hy4 ?hk4
  case ho4 => (simp only [List.getElem?_toArray, List.getElem?_cons_succ, List.getElem?_cons_zero]; rfl)
  case hq4 => exact fun _ _ _ h => h
  case hw4 => rfl
  case hy4 =>
    intro W hW
    obtain ⟨z0, z1, z2, z3, z4, z5, z6, z7, z8, z9, z10, z11, z12, z13, z14, z15, z16⟩ := hW
    go_simp
    first | done | with_reducible rfl
  case hk4 =>
  try simp only [Act.put, List.setIfInBounds_toArray, List.set_cons_zero, List.set_cons_succ]
  refine anyK_take 4 (oi := ?oo5) ?ho5 (by kernel_rfl) (by kernel_rfl) (by kernel_rfl) (by kernel_rfl) ?hq5 ?hw5 hT0 (fun _ => trivial) (v := ?vv5) ?hy5 ?hk5
  case ho5 => (simp only [List.getElem?_toArray, List.getElem?_cons_succ, List.getElem?_cons_zero]; rfl)
  case hq5 => exact fun _ _ _ h => h
  case hw5 => rfl
  case hy5 =>
    intro W hW
    go_simp
    first | done | with_reducible rfl
  case hk5 =>
  try simp only [Act.put, List.setIfInBounds_toArray, List.set_cons_zero, List.set_cons_succ]
  refine anyK_take 7 (oi := ?oo6) ?ho6 (by kernel_rfl) (by kernel_rfl) (by kernel_rfl) (by kernel_rfl) ?hq6 ?hw6 hT0 (fun _ => trivial) (v := ?vv6) ?hy6 ?hk6
  case ho6 => (simp only [List.getElem?_toArray, List.getElem?_cons_succ, List.getElem?_cons_zero]; rfl)
  case hq6 => exact fun _ _ _ h => h
  case hw6 => rfl
  case hy6 =>
    intro W hW
    obtain ⟨z0, z1, z2, z3, z4, z5, z6, z7, z8, z9, z10, z11, z12, z13, z14, z15, z16⟩ := hW
    go_simp
    first | done | with_reducible rfl
  case hk6 =>
  try simp only [Act.put, List.setIfInBounds_toArray, List.set_cons_zero, List.set_cons_succ]
  refine anyK_on1 5 (by kernel_rfl) ?_
  refine anyK_one 5 (o := ?oo7) ?ho7 ?hk7
  case ho7 => (simp only [List.getElem?_toArray, List.getElem?_cons_succ, List.getElem?_cons_zero]; rfl)
  case hk7 =>
  intro K hK
  go_simp
  refine (HNW.out _ (ext_trans X2.out yy)).mono ?_
  rintro e wk ⟨v6, rfl, hp6, xx⟩
  try go_wp2_with fail
  replace yy := ext_trans yy xx
  have HP6 := hide hp6
  clear hp6
  have hT1 := keepK.out _ yy
  refine hK.out _ _ hT1 (fun _ => trivial) ?_
  clear hK K
  try simp only [Act.put, List.setIfInBounds_toArray, List.set_cons_zero, List.set_cons_succ]
  refine anyK_on1 6 (by kernel_rfl) ?_
  refine anyK_one 6 (o := ?oo8) ?ho8 ?hk8
  case ho8 => (simp only [List.getElem?_toArray, List.getElem?_cons_succ, List.getElem?_cons_zero]; rfl)
  case hk8 =>
  intro K hK
  go_simp
  refine (HLI.out _ _ (ext_trans X2.out yy) HP6.out).mono ?_
  rintro e wl ⟨v7, rfl, own7, xx⟩
  try go_wp2_with fail
  replace yy := ext_trans yy xx
  replace own7 := own7.at_
  have HM7 := hide own7
  clear own7
  have hT2 := keepK.out _ yy
  refine hK.out _ _ hT2 (fun _ => trivial) ?_
  clear hK K
  try simp only [Act.put, List.setIfInBounds_toArray, List.set_cons_zero, List.set_cons_succ]
  refine anyK_on1 8 (by kernel_rfl) ?_
  refine anyK_one 8 (o := ?oo9) ?ho9 ?hk9
  case ho9 => (simp only [List.getElem?_toArray, List.getElem?_cons_succ, List.getElem?_cons_zero]; rfl)
  case hk9 =>
  intro K hK
  go_simp
  refine (HCO.out _ _ HM7.out).mono ?_
  rintro e wc ⟨rfl, xx⟩
  try go_wp2_with fail
  replace yy := ext_trans yy xx
  have hT3 := keepK.out _ yy
  refine hK.out _ _ hT3 (fun _ => trivial) ?_
  clear hK K
  try simp only [Act.put, List.setIfInBounds_toArray, List.set_cons_zero, List.set_cons_succ]
  refine anyK_take 9 (oi := ?oo10) ?ho10 (by kernel_rfl) (by kernel_rfl) (by kernel_rfl) (by kernel_rfl) ?hq10 ?hw10 hT3 (fun _ => trivial) (v := ?vv10) ?hy10 ?hk10
  case ho10 => (simp only [List.getElem?_toArray, List.getElem?_cons_succ, List.getElem?_cons_zero]; rfl)
  case hq10 => exact fun _ _ _ h => h
  case hw10 => rfl
  case hy10 =>
    intro W hW
    go_simp
    first | done | with_reducible rfl
  case hk10 =>
  try simp only [Act.put, List.setIfInBounds_toArray, List.set_cons_zero, List.set_cons_succ]
  refine anyK_take 10 (oi := ?oo11) ?ho11 (by kernel_rfl) (by kernel_rfl) (by kernel_rfl) (by kernel_rfl) ?hq11 ?hw11 hT3 (fun _ => trivial) (v := ?vv11) ?hy11 ?hk11
  case ho11 => (simp only [List.getElem?_toArray, List.getElem?_cons_succ, List.getElem?_cons_zero]; rfl)
  case hq11 => exact fun _ _ _ h => h
  case hw11 => rfl
  case hy11 =>
    intro W hW
    go_simp
    first | done | with_reducible rfl
  case hk11 =>
  try simp only [Act.put, List.setIfInBounds_toArray, List.set_cons_zero, List.set_cons_succ]
  refine anyK_done (by kernel_rfl) ?_ _
  clear keepK hT0 hT1 hT2 hT3
  go_wp2
  go_ret
  exact ⟨rfl, ext_trans X2.out yy⟩
set_option maxHeartbeats 4000000 in
set_option maxRecDepth 100000 in
theorem Play_full {w0 wa : World} {BG : Nat} {R : RulesM} {ps : List PosM} {ms : List MoveM} (hG : GameAt w0 wa BG R ps ms) (hl : ps.length ≤ 100000) (hlm : ms.length ≤ 100000) (hV : Valid R) (hS : ∀ Q ∈ ps, Sound R Q) {P : PosM} (hP : ps.getLast? = some P) (mv : MoveM) (hr : resultG R ps P = 0) (hm : mv ∈ listM R P) (hn : ms.length = 400) :
    Calls Try.prog 42 #[.pointer (some ⟨BG, 0, none⟩), .agg #[.int .i64 mv.src, .int .i64 mv.dst, .int .i64 mv.piece]] wa fun e w' => e = .returned (.int .i64 9) ∧ Ext wa w' := by
  have HRS := hide (fun W' (x : Ext wa W') => GResult_any (hG.ext x) (by omega) hV hS hP)
  have HNW := hide (fun W' (x : Ext wa W') => now_any (hG.ext x) (by omega) hP)
  have hSP := hS P (last_mem hP)
  have HCO := hide (fun (v : Value) W' (h : MovesAt W' v (listM R P)) => Contains_any (listM R P) mv v W' h (listM_len hV hSP))
  obtain ⟨pA, pc, sA, sc, eA, ec, base, l, m, h1, h2, h3, h4, h5, h6⟩ := hG
  have HLI := hide (fun (v : Value) W' (x : Ext wa W') (h : PosI W' v P) => List_any R P _ v W' (h2.ext x).at_ h.at_ hV hSP)
  obtain ⟨mA, mc, rfl, -⟩ := h4
  rw [hr] at HRS
  rw [decide_eq_true hm] at HCO
  have t2 : ((ms.length : Int) == 400) = true := by simp [hn]
  clear h2 h3 h5 h6 hV hS hP hr hm hSP hl hlm
  obtain ⟨xa, kM⟩ := blks1 wa #[.int .i64 mv.src, .int .i64 mv.dst, .int .i64 mv.piece] 39
  have KM := hide kM
  have X1 := hide xa
  clear xa kM
  go_enter Try.func42, Try.ntmps42
  go_wp2_with fail
  refine (HRS.out _ X1.out).mono ?_
  rintro e w2 ⟨rfl, x2⟩
  have X2 := hide (ext_trans X1.out x2)
  have KM2 := hide (KM.out.ext x2)
  clear x2 KM X1 HRS
  have KG2 := hide (h1.ext X2.out)
  clear h1
  generalize wa.heap.size = BM at *
  go_upto_region 3 with fail
  have keepK := hide (fun W (h : Ext w2 W) => (show (fun W => W.cell? ⟨BG, 0, none⟩ = some (.string R.name) ∧ W.cell? ⟨BG, 1, none⟩ = some (.int .i64 R.width) ∧ W.cell? ⟨BG, 2, none⟩ = some (.int .i64 R.height) ∧ W.cell? ⟨BG, 3, none⟩ = some (.slice pA R.pieces.length pc) ∧ W.cell? ⟨BG, 4, none⟩ = some (.slice sA R.start.length sc) ∧ W.cell? ⟨BG, 5, none⟩ = some (.bool R.falls) ∧ W.cell? ⟨BG, 6, none⟩ = some (.bool R.keeps) ∧ W.cell? ⟨BG, 7, none⟩ = some (.slice eA R.ends.length ec) ∧ W.cell? ⟨BG, 8, none⟩ = some (.int .i64 R.blocked) ∧ W.cell? ⟨BG, 9, none⟩ = some (.int .i64 R.quiet) ∧ W.cell? ⟨BG, 10, none⟩ = some (.int .i64 R.rept) ∧ W.cell? ⟨BG, 11, none⟩ = some (l) ∧ W.cell? ⟨BG, 12, none⟩ = some (.slice mA ms.length mc) ∧ W.cell? ⟨BM, 0, none⟩ = some (.int .i64 mv.src) ∧ W.cell? ⟨BM, 1, none⟩ = some (.int .i64 mv.dst) ∧ W.cell? ⟨BM, 2, none⟩ = some (.int .i64 mv.piece) ∧ Ext w2 W) W from ⟨(KG2.out.ext h).cell 0, (KG2.out.ext h).cell 1, (KG2.out.ext h).cell 2, (KG2.out.ext h).cell 3, (KG2.out.ext h).cell 4, (KG2.out.ext h).cell 5, (KG2.out.ext h).cell 6, (KG2.out.ext h).cell 7, (KG2.out.ext h).cell 8, (KG2.out.ext h).cell 9, (KG2.out.ext h).cell 10, (KG2.out.ext h).cell 11, (KG2.out.ext h).cell 12, (KM2.out.ext h).cell 0, (KM2.out.ext h).cell 1, (KM2.out.ext h).cell 2, h⟩))
  have yy : Ext w2 w2.drew := Below.drew (Below.refl _ _)
  refine region_K (fun W => W.cell? ⟨BG, 0, none⟩ = some (.string R.name) ∧ W.cell? ⟨BG, 1, none⟩ = some (.int .i64 R.width) ∧ W.cell? ⟨BG, 2, none⟩ = some (.int .i64 R.height) ∧ W.cell? ⟨BG, 3, none⟩ = some (.slice pA R.pieces.length pc) ∧ W.cell? ⟨BG, 4, none⟩ = some (.slice sA R.start.length sc) ∧ W.cell? ⟨BG, 5, none⟩ = some (.bool R.falls) ∧ W.cell? ⟨BG, 6, none⟩ = some (.bool R.keeps) ∧ W.cell? ⟨BG, 7, none⟩ = some (.slice eA R.ends.length ec) ∧ W.cell? ⟨BG, 8, none⟩ = some (.int .i64 R.blocked) ∧ W.cell? ⟨BG, 9, none⟩ = some (.int .i64 R.quiet) ∧ W.cell? ⟨BG, 10, none⟩ = some (.int .i64 R.rept) ∧ W.cell? ⟨BG, 11, none⟩ = some (l) ∧ W.cell? ⟨BG, 12, none⟩ = some (.slice mA ms.length mc) ∧ W.cell? ⟨BM, 0, none⟩ = some (.int .i64 mv.src) ∧ W.cell? ⟨BM, 1, none⟩ = some (.int .i64 mv.dst) ∧ W.cell? ⟨BM, 2, none⟩ = some (.int .i64 mv.piece) ∧ Ext w2 W) (fun _ => True) [] (by kernel_rfl) ?_
  have hT0 := keepK.out _ yy
  refine anyK_take 0 (oi := ?oo12) ?ho12 (by kernel_rfl) (by kernel_rfl) (by kernel_rfl) (by kernel_rfl) ?hq12 ?hw12 hT0 (fun _ => trivial) (v := ?vv12) ?hy12 ?hk12
  case ho12 => (simp only [List.getElem?_toArray, List.getElem?_cons_succ, List.getElem?_cons_zero]; rfl)
  case hq12 => exact fun _ _ _ h => h
  case hw12 => rfl
  case hy12 =>
    intro W hW
    go_simp
    first | done | with_reducible rfl
  case hk12 =>
  try simp only [Act.put, List.setIfInBounds_toArray, List.set_cons_zero, List.set_cons_succ]
  refine anyK_take 1 (oi := ?oo13) ?ho13 (by kernel_rfl) (by kernel_rfl) (by kernel_rfl) (by kernel_rfl) ?hq13 ?hw13 hT0 (fun _ => trivial) (v := ?vv13) ?hy13 ?hk13
  case ho13 => (simp only [List.getElem?_toArray, List.getElem?_cons_succ, List.getElem?_cons_zero]; rfl)
  case hq13 => exact fun _ _ _ h => h
  case hw13 => rfl
  case hy13 =>
    intro W hW
    go_simp
    first | done | with_reducible rfl
  case hk13 =>
  try simp only [Act.put, List.setIfInBounds_toArray, List.set_cons_zero, List.set_cons_succ]
  refine anyK_take 2 (oi := ?oo14) ?ho14 (by kernel_rfl) (by kernel_rfl) (by kernel_rfl) (by kernel_rfl) ?hq14 ?hw14 hT0 (fun _ => trivial) (v := ?vv14) ?hy14 ?hk14
  case ho14 => (simp only [List.getElem?_toArray, List.getElem?_cons_succ, List.getElem?_cons_zero]; rfl)
  case hq14 => exact fun _ _ _ h => h
  case hw14 => rfl
  case hy14 =>
    intro W hW
    go_simp
    first | done | with_reducible rfl
  case hk14 =>
  try simp only [Act.put, List.setIfInBounds_toArray, List.set_cons_zero, List.set_cons_succ]
  refine anyK_take 3 (oi := ?oo15) ?ho15 (by kernel_rfl) (by kernel_rfl) (by kernel_rfl) (by kernel_rfl) ?hq15 ?hw15 hT0 (fun _ => trivial) (v := ?vv15) ?hy15 ?hk15
  case ho15 => (simp only [List.getElem?_toArray, List.getElem?_cons_succ, List.getElem?_cons_zero]; rfl)
  case hq15 => exact fun _ _ _ h => h
  case hw15 => rfl
  case hy15 =>
    intro W hW
    obtain ⟨z0, z1, z2, z3, z4, z5, z6, z7, z8, z9, z10, z11, z12, z13, z14, z15, z16⟩ := hW
    go_simp
    first | done | with_reducible rfl
  case hk15 =>
  try simp only [Act.put, List.setIfInBounds_toArray, List.set_cons_zero, List.set_cons_succ]
  refine anyK_take 4 (oi := ?oo16) ?ho16 (by kernel_rfl) (by kernel_rfl) (by kernel_rfl) (by kernel_rfl) ?hq16 ?hw16 hT0 (fun _ => trivial) (v := ?vv16) ?hy16 ?hk16
  case ho16 => (simp only [List.getElem?_toArray, List.getElem?_cons_succ, List.getElem?_cons_zero]; rfl)
  case hq16 => exact fun _ _ _ h => h
  case hw16 => rfl
  case hy16 =>
    intro W hW
    go_simp
    first | done | with_reducible rfl
  case hk16 =>
  try simp only [Act.put, List.setIfInBounds_toArray, List.set_cons_zero, List.set_cons_succ]
  refine anyK_take 7 (oi := ?oo17) ?ho17 (by kernel_rfl) (by kernel_rfl) (by kernel_rfl) (by kernel_rfl) ?hq17 ?hw17 hT0 (fun _ => trivial) (v := ?vv17) ?hy17 ?hk17
  case ho17 => (simp only [List.getElem?_toArray, List.getElem?_cons_succ, List.getElem?_cons_zero]; rfl)
  case hq17 => exact fun _ _ _ h => h
  case hw17 => rfl
  case hy17 =>
    intro W hW
    obtain ⟨z0, z1, z2, z3, z4, z5, z6, z7, z8, z9, z10, z11, z12, z13, z14, z15, z16⟩ := hW
    go_simp
    first | done | with_reducible rfl
  case hk17 =>
  try simp only [Act.put, List.setIfInBounds_toArray, List.set_cons_zero, List.set_cons_succ]
  refine anyK_on1 5 (by kernel_rfl) ?_
  refine anyK_one 5 (o := ?oo18) ?ho18 ?hk18
  case ho18 => (simp only [List.getElem?_toArray, List.getElem?_cons_succ, List.getElem?_cons_zero]; rfl)
  case hk18 =>
  intro K hK
  go_simp
  refine (HNW.out _ (ext_trans X2.out yy)).mono ?_
  rintro e wk ⟨v6, rfl, hp6, xx⟩
  try go_wp2_with fail
  replace yy := ext_trans yy xx
  have HP6 := hide hp6
  clear hp6
  have hT1 := keepK.out _ yy
  refine hK.out _ _ hT1 (fun _ => trivial) ?_
  clear hK K
  try simp only [Act.put, List.setIfInBounds_toArray, List.set_cons_zero, List.set_cons_succ]
  refine anyK_on1 6 (by kernel_rfl) ?_
  refine anyK_one 6 (o := ?oo19) ?ho19 ?hk19
  case ho19 => (simp only [List.getElem?_toArray, List.getElem?_cons_succ, List.getElem?_cons_zero]; rfl)
  case hk19 =>
  intro K hK
  go_simp
  refine (HLI.out _ _ (ext_trans X2.out yy) HP6.out).mono ?_
  rintro e wl ⟨v7, rfl, own7, xx⟩
  try go_wp2_with fail
  replace yy := ext_trans yy xx
  replace own7 := own7.at_
  have HM7 := hide own7
  clear own7
  have hT2 := keepK.out _ yy
  refine hK.out _ _ hT2 (fun _ => trivial) ?_
  clear hK K
  try simp only [Act.put, List.setIfInBounds_toArray, List.set_cons_zero, List.set_cons_succ]
  refine anyK_on1 8 (by kernel_rfl) ?_
  refine anyK_one 8 (o := ?oo20) ?ho20 ?hk20
  case ho20 => (simp only [List.getElem?_toArray, List.getElem?_cons_succ, List.getElem?_cons_zero]; rfl)
  case hk20 =>
  intro K hK
  go_simp
  refine (HCO.out _ _ HM7.out).mono ?_
  rintro e wc ⟨rfl, xx⟩
  try go_wp2_with fail
  replace yy := ext_trans yy xx
  have hT3 := keepK.out _ yy
  refine hK.out _ _ hT3 (fun _ => trivial) ?_
  clear hK K
  try simp only [Act.put, List.setIfInBounds_toArray, List.set_cons_zero, List.set_cons_succ]
  refine anyK_take 9 (oi := ?oo21) ?ho21 (by kernel_rfl) (by kernel_rfl) (by kernel_rfl) (by kernel_rfl) ?hq21 ?hw21 hT3 (fun _ => trivial) (v := ?vv21) ?hy21 ?hk21
  case ho21 => (simp only [List.getElem?_toArray, List.getElem?_cons_succ, List.getElem?_cons_zero]; rfl)
  case hq21 => exact fun _ _ _ h => h
  case hw21 => rfl
  case hy21 =>
    intro W hW
    go_simp
    first | done | with_reducible rfl
  case hk21 =>
  try simp only [Act.put, List.setIfInBounds_toArray, List.set_cons_zero, List.set_cons_succ]
  refine anyK_take 10 (oi := ?oo22) ?ho22 (by kernel_rfl) (by kernel_rfl) (by kernel_rfl) (by kernel_rfl) ?hq22 ?hw22 hT3 (fun _ => trivial) (v := ?vv22) ?hy22 ?hk22
  case ho22 => (simp only [List.getElem?_toArray, List.getElem?_cons_succ, List.getElem?_cons_zero]; rfl)
  case hq22 => exact fun _ _ _ h => h
  case hw22 => rfl
  case hy22 =>
    intro W hW
    go_simp
    first | done | with_reducible rfl
  case hk22 =>
  try simp only [Act.put, List.setIfInBounds_toArray, List.set_cons_zero, List.set_cons_succ]
  refine anyK_done (by kernel_rfl) ?_ _
  clear keepK hT0 hT1 hT2 hT3
  have f4 := (KG2.out.ext yy).cell
  go_wp2
  go_ret
  exact ⟨rfl, ext_trans X2.out yy⟩
set_option maxHeartbeats 4000000 in
set_option maxRecDepth 100000 in
theorem Play_yes {w0 wa : World} {BG : Nat} {R : RulesM} {ps : List PosM} {ms : List MoveM} (hG : GameAt w0 wa BG R ps ms) (hl : ps.length ≤ 100000) (hlm : ms.length ≤ 100000) (hV : Valid R) (hS : ∀ Q ∈ ps, Sound R Q) {P : PosM} (hP : ps.getLast? = some P) (mv : MoveM) (hr : resultG R ps P = 0) (hm : mv ∈ listM R P) (hn : ms.length ≠ 400) :
    Calls Try.prog 42 #[.pointer (some ⟨BG, 0, none⟩), .agg #[.int .i64 mv.src, .int .i64 mv.dst, .int .i64 mv.piece]] wa (fun e w' => e = .returned (.int .i64 0) ∧ GameAt w0 w' BG R (ps ++ [makeM R P mv]) (ms ++ [mv])) := by
  have HRS := hide (fun W' (x : Ext wa W') => GResult_any (hG.ext x) (by omega) hV hS hP)
  have HNW := hide (fun W' (x : Ext wa W') => now_any (hG.ext x) (by omega) hP)
  have hSP := hS P (last_mem hP)
  have HCO := hide (fun (v : Value) W' (h : MovesAt W' v (listM R P)) => Contains_any (listM R P) mv v W' h (listM_len hV hSP))
  obtain ⟨pA, pc, sA, sc, eA, ec, base, l, m, h1, h2, h3, h4, h5, h6⟩ := hG
  have HLI := hide (fun (v : Value) W' (x : Ext wa W') (h : PosI W' v P) => List_any R P _ v W' (h2.ext x).at_ h.at_ hV hSP)
  have HMK := hide (fun (v : Value) W' (x : Ext wa W') (h : PosI W' v P) => Make_any R P mv _ v W' (h2.ext x).at_ h.at_ hV hSP (mem_listM.1 hm))
  have H4 := hide h4
  obtain ⟨mA, mc, rfl, -⟩ := h4
  have HMX : Hid ((Value.slice mA ms.length mc).ownBlock ≠ some wa.heap.size) := hide (fun h => by have := (H4.out.bd _ h).2; omega)
  have H2 := hide h2
  have H3 := hide h3
  have H56 := hide (And.intro h5 h6)
  have HLL := hide (And.intro hl hlm)
  rw [hr] at HRS
  rw [decide_eq_true hm] at HCO
  have t2 : ((ms.length : Int) == 400) = false := by simp; omega
  clear h2 h3 h5 h6 hV hS hP hr hm hSP hl hlm hn
  obtain ⟨xa, kM⟩ := blks1 wa #[.int .i64 mv.src, .int .i64 mv.dst, .int .i64 mv.piece] 39
  have KM := hide kM
  have X1 := hide xa
  clear xa kM
  go_enter Try.func42, Try.ntmps42
  go_wp2_with fail
  refine (HRS.out _ X1.out).mono ?_
  rintro e w2 ⟨rfl, x2⟩
  have X2 := hide (ext_trans X1.out x2)
  have KM2 := hide (KM.out.ext x2)
  clear x2 KM X1 HRS
  have KG2 := hide (h1.ext X2.out)
  clear h1
  generalize wa.heap.size = BM at *
  go_upto_region 3 with fail
  have keepK := hide (fun W (h : Ext w2 W) => (show (fun W => W.cell? ⟨BG, 0, none⟩ = some (.string R.name) ∧ W.cell? ⟨BG, 1, none⟩ = some (.int .i64 R.width) ∧ W.cell? ⟨BG, 2, none⟩ = some (.int .i64 R.height) ∧ W.cell? ⟨BG, 3, none⟩ = some (.slice pA R.pieces.length pc) ∧ W.cell? ⟨BG, 4, none⟩ = some (.slice sA R.start.length sc) ∧ W.cell? ⟨BG, 5, none⟩ = some (.bool R.falls) ∧ W.cell? ⟨BG, 6, none⟩ = some (.bool R.keeps) ∧ W.cell? ⟨BG, 7, none⟩ = some (.slice eA R.ends.length ec) ∧ W.cell? ⟨BG, 8, none⟩ = some (.int .i64 R.blocked) ∧ W.cell? ⟨BG, 9, none⟩ = some (.int .i64 R.quiet) ∧ W.cell? ⟨BG, 10, none⟩ = some (.int .i64 R.rept) ∧ W.cell? ⟨BG, 11, none⟩ = some (l) ∧ W.cell? ⟨BG, 12, none⟩ = some (.slice mA ms.length mc) ∧ W.cell? ⟨BM, 0, none⟩ = some (.int .i64 mv.src) ∧ W.cell? ⟨BM, 1, none⟩ = some (.int .i64 mv.dst) ∧ W.cell? ⟨BM, 2, none⟩ = some (.int .i64 mv.piece) ∧ Ext w2 W) W from ⟨(KG2.out.ext h).cell 0, (KG2.out.ext h).cell 1, (KG2.out.ext h).cell 2, (KG2.out.ext h).cell 3, (KG2.out.ext h).cell 4, (KG2.out.ext h).cell 5, (KG2.out.ext h).cell 6, (KG2.out.ext h).cell 7, (KG2.out.ext h).cell 8, (KG2.out.ext h).cell 9, (KG2.out.ext h).cell 10, (KG2.out.ext h).cell 11, (KG2.out.ext h).cell 12, (KM2.out.ext h).cell 0, (KM2.out.ext h).cell 1, (KM2.out.ext h).cell 2, h⟩))
  have yy : Ext w2 w2.drew := Below.drew (Below.refl _ _)
  refine region_K (fun W => W.cell? ⟨BG, 0, none⟩ = some (.string R.name) ∧ W.cell? ⟨BG, 1, none⟩ = some (.int .i64 R.width) ∧ W.cell? ⟨BG, 2, none⟩ = some (.int .i64 R.height) ∧ W.cell? ⟨BG, 3, none⟩ = some (.slice pA R.pieces.length pc) ∧ W.cell? ⟨BG, 4, none⟩ = some (.slice sA R.start.length sc) ∧ W.cell? ⟨BG, 5, none⟩ = some (.bool R.falls) ∧ W.cell? ⟨BG, 6, none⟩ = some (.bool R.keeps) ∧ W.cell? ⟨BG, 7, none⟩ = some (.slice eA R.ends.length ec) ∧ W.cell? ⟨BG, 8, none⟩ = some (.int .i64 R.blocked) ∧ W.cell? ⟨BG, 9, none⟩ = some (.int .i64 R.quiet) ∧ W.cell? ⟨BG, 10, none⟩ = some (.int .i64 R.rept) ∧ W.cell? ⟨BG, 11, none⟩ = some (l) ∧ W.cell? ⟨BG, 12, none⟩ = some (.slice mA ms.length mc) ∧ W.cell? ⟨BM, 0, none⟩ = some (.int .i64 mv.src) ∧ W.cell? ⟨BM, 1, none⟩ = some (.int .i64 mv.dst) ∧ W.cell? ⟨BM, 2, none⟩ = some (.int .i64 mv.piece) ∧ Ext w2 W) (fun _ => True) [] (by kernel_rfl) ?_
  have hT0 := keepK.out _ yy
  refine anyK_take 0 (oi := ?oo23) ?ho23 (by kernel_rfl) (by kernel_rfl) (by kernel_rfl) (by kernel_rfl) ?hq23 ?hw23 hT0 (fun _ => trivial) (v := ?vv23) ?hy23 ?hk23
  case ho23 => (simp only [List.getElem?_toArray, List.getElem?_cons_succ, List.getElem?_cons_zero]; rfl)
  case hq23 => exact fun _ _ _ h => h
  case hw23 => rfl
  case hy23 =>
    intro W hW
    go_simp
    first | done | with_reducible rfl
  case hk23 =>
  try simp only [Act.put, List.setIfInBounds_toArray, List.set_cons_zero, List.set_cons_succ]
  refine anyK_take 1 (oi := ?oo24) ?ho24 (by kernel_rfl) (by kernel_rfl) (by kernel_rfl) (by kernel_rfl) ?hq24 ?hw24 hT0 (fun _ => trivial) (v := ?vv24) ?hy24 ?hk24
  case ho24 => (simp only [List.getElem?_toArray, List.getElem?_cons_succ, List.getElem?_cons_zero]; rfl)
  case hq24 => exact fun _ _ _ h => h
  case hw24 => rfl
  case hy24 =>
    intro W hW
    go_simp
    first | done | with_reducible rfl
  case hk24 =>
  try simp only [Act.put, List.setIfInBounds_toArray, List.set_cons_zero, List.set_cons_succ]
  refine anyK_take 2 (oi := ?oo25) ?ho25 (by kernel_rfl) (by kernel_rfl) (by kernel_rfl) (by kernel_rfl) ?hq25 ?hw25 hT0 (fun _ => trivial) (v := ?vv25) ?hy25 ?hk25
  case ho25 => (simp only [List.getElem?_toArray, List.getElem?_cons_succ, List.getElem?_cons_zero]; rfl)
  case hq25 => exact fun _ _ _ h => h
  case hw25 => rfl
  case hy25 =>
    intro W hW
    go_simp
    first | done | with_reducible rfl
  case hk25 =>
  try simp only [Act.put, List.setIfInBounds_toArray, List.set_cons_zero, List.set_cons_succ]
  refine anyK_take 3 (oi := ?oo26) ?ho26 (by kernel_rfl) (by kernel_rfl) (by kernel_rfl) (by kernel_rfl) ?hq26 ?hw26 hT0 (fun _ => trivial) (v := ?vv26) ?hy26 ?hk26
  case ho26 => (simp only [List.getElem?_toArray, List.getElem?_cons_succ, List.getElem?_cons_zero]; rfl)
  case hq26 => exact fun _ _ _ h => h
  case hw26 => rfl
  case hy26 =>
    intro W hW
    obtain ⟨z0, z1, z2, z3, z4, z5, z6, z7, z8, z9, z10, z11, z12, z13, z14, z15, z16⟩ := hW
    go_simp
    first | done | with_reducible rfl
  case hk26 =>
  try simp only [Act.put, List.setIfInBounds_toArray, List.set_cons_zero, List.set_cons_succ]
  refine anyK_take 4 (oi := ?oo27) ?ho27 (by kernel_rfl) (by kernel_rfl) (by kernel_rfl) (by kernel_rfl) ?hq27 ?hw27 hT0 (fun _ => trivial) (v := ?vv27) ?hy27 ?hk27
  case ho27 => (simp only [List.getElem?_toArray, List.getElem?_cons_succ, List.getElem?_cons_zero]; rfl)
  case hq27 => exact fun _ _ _ h => h
  case hw27 => rfl
  case hy27 =>
    intro W hW
    go_simp
    first | done | with_reducible rfl
  case hk27 =>
  try simp only [Act.put, List.setIfInBounds_toArray, List.set_cons_zero, List.set_cons_succ]
  refine anyK_take 7 (oi := ?oo28) ?ho28 (by kernel_rfl) (by kernel_rfl) (by kernel_rfl) (by kernel_rfl) ?hq28 ?hw28 hT0 (fun _ => trivial) (v := ?vv28) ?hy28 ?hk28
  case ho28 => (simp only [List.getElem?_toArray, List.getElem?_cons_succ, List.getElem?_cons_zero]; rfl)
  case hq28 => exact fun _ _ _ h => h
  case hw28 => rfl
  case hy28 =>
    intro W hW
    obtain ⟨z0, z1, z2, z3, z4, z5, z6, z7, z8, z9, z10, z11, z12, z13, z14, z15, z16⟩ := hW
    go_simp
    first | done | with_reducible rfl
  case hk28 =>
  try simp only [Act.put, List.setIfInBounds_toArray, List.set_cons_zero, List.set_cons_succ]
  refine anyK_on1 5 (by kernel_rfl) ?_
  refine anyK_one 5 (o := ?oo29) ?ho29 ?hk29
  case ho29 => (simp only [List.getElem?_toArray, List.getElem?_cons_succ, List.getElem?_cons_zero]; rfl)
  case hk29 =>
  intro K hK
  go_simp
  refine (HNW.out _ (ext_trans X2.out yy)).mono ?_
  rintro e wk ⟨v6, rfl, hp6, xx⟩
  try go_wp2_with fail
  replace yy := ext_trans yy xx
  have HP6 := hide hp6
  clear hp6
  have hT1 := keepK.out _ yy
  refine hK.out _ _ hT1 (fun _ => trivial) ?_
  clear hK K
  try simp only [Act.put, List.setIfInBounds_toArray, List.set_cons_zero, List.set_cons_succ]
  refine anyK_on1 6 (by kernel_rfl) ?_
  refine anyK_one 6 (o := ?oo30) ?ho30 ?hk30
  case ho30 => (simp only [List.getElem?_toArray, List.getElem?_cons_succ, List.getElem?_cons_zero]; rfl)
  case hk30 =>
  intro K hK
  go_simp
  refine (HLI.out _ _ (ext_trans X2.out yy) HP6.out).mono ?_
  rintro e wl ⟨v7, rfl, own7, xx⟩
  try go_wp2_with fail
  replace yy := ext_trans yy xx
  replace own7 := own7.at_
  have HM7 := hide own7
  clear own7
  have hT2 := keepK.out _ yy
  refine hK.out _ _ hT2 (fun _ => trivial) ?_
  clear hK K
  try simp only [Act.put, List.setIfInBounds_toArray, List.set_cons_zero, List.set_cons_succ]
  refine anyK_on1 8 (by kernel_rfl) ?_
  refine anyK_one 8 (o := ?oo31) ?ho31 ?hk31
  case ho31 => (simp only [List.getElem?_toArray, List.getElem?_cons_succ, List.getElem?_cons_zero]; rfl)
  case hk31 =>
  intro K hK
  go_simp
  refine (HCO.out _ _ HM7.out).mono ?_
  rintro e wc ⟨rfl, xx⟩
  try go_wp2_with fail
  replace yy := ext_trans yy xx
  have hT3 := keepK.out _ yy
  refine hK.out _ _ hT3 (fun _ => trivial) ?_
  clear hK K
  try simp only [Act.put, List.setIfInBounds_toArray, List.set_cons_zero, List.set_cons_succ]
  refine anyK_take 9 (oi := ?oo32) ?ho32 (by kernel_rfl) (by kernel_rfl) (by kernel_rfl) (by kernel_rfl) ?hq32 ?hw32 hT3 (fun _ => trivial) (v := ?vv32) ?hy32 ?hk32
  case ho32 => (simp only [List.getElem?_toArray, List.getElem?_cons_succ, List.getElem?_cons_zero]; rfl)
  case hq32 => exact fun _ _ _ h => h
  case hw32 => rfl
  case hy32 =>
    intro W hW
    go_simp
    first | done | with_reducible rfl
  case hk32 =>
  try simp only [Act.put, List.setIfInBounds_toArray, List.set_cons_zero, List.set_cons_succ]
  refine anyK_take 10 (oi := ?oo33) ?ho33 (by kernel_rfl) (by kernel_rfl) (by kernel_rfl) (by kernel_rfl) ?hq33 ?hw33 hT3 (fun _ => trivial) (v := ?vv33) ?hy33 ?hk33
  case ho33 => (simp only [List.getElem?_toArray, List.getElem?_cons_succ, List.getElem?_cons_zero]; rfl)
  case hq33 => exact fun _ _ _ h => h
  case hw33 => rfl
  case hy33 =>
    intro W hW
    go_simp
    first | done | with_reducible rfl
  case hk33 =>
  try simp only [Act.put, List.setIfInBounds_toArray, List.set_cons_zero, List.set_cons_succ]
  refine anyK_done (by kernel_rfl) ?_ _
  clear keepK hT0 hT1 hT2 hT3
  have X5 := hide (ext_trans X2.out yy)
  have KG5 := hide (KG2.out.ext yy)
  have KM5 := hide (KM2.out.ext yy)
  clear X2 KG2 KM2 yy xx HCO HLI HP6 HM7
  have f4 := KG5.out.cell
  go_upto_region 7 with fail
  clear f4
  generalize hQ : makeM R P mv = Q at *
  have HQ := hide hQ
  clear hQ
  have zz : Ext wc wc.drew := Below.drew (Below.refl _ _)
  have ss := KG5.out.ext zz
  have keepK := hide (fun W (h : ∃ lv, Blk W BG 109 #[.string R.name, .int .i64 R.width, .int .i64 R.height, .slice pA R.pieces.length pc, .slice sA R.start.length sc, .bool R.falls, .bool R.keeps, .slice eA R.ends.length ec, .int .i64 R.blocked, .int .i64 R.quiet, .int .i64 R.rept, lv, .slice mA ms.length mc] ∧ Blk W BM 39 #[.int .i64 mv.src, .int .i64 mv.dst, .int .i64 mv.piece]) => (show (fun W => W.cell? ⟨BG, 0, none⟩ = some (.string R.name) ∧ W.cell? ⟨BG, 1, none⟩ = some (.int .i64 R.width) ∧ W.cell? ⟨BG, 2, none⟩ = some (.int .i64 R.height) ∧ W.cell? ⟨BG, 3, none⟩ = some (.slice pA R.pieces.length pc) ∧ W.cell? ⟨BG, 4, none⟩ = some (.slice sA R.start.length sc) ∧ W.cell? ⟨BG, 5, none⟩ = some (.bool R.falls) ∧ W.cell? ⟨BG, 6, none⟩ = some (.bool R.keeps) ∧ W.cell? ⟨BG, 7, none⟩ = some (.slice eA R.ends.length ec) ∧ W.cell? ⟨BG, 8, none⟩ = some (.int .i64 R.blocked) ∧ W.cell? ⟨BG, 9, none⟩ = some (.int .i64 R.quiet) ∧ W.cell? ⟨BG, 10, none⟩ = some (.int .i64 R.rept) ∧ W.cell? ⟨BM, 0, none⟩ = some (.int .i64 mv.src) ∧ W.cell? ⟨BM, 1, none⟩ = some (.int .i64 mv.dst) ∧ W.cell? ⟨BM, 2, none⟩ = some (.int .i64 mv.piece) ∧ ∃ lv, Blk W BG 109 #[.string R.name, .int .i64 R.width, .int .i64 R.height, .slice pA R.pieces.length pc, .slice sA R.start.length sc, .bool R.falls, .bool R.keeps, .slice eA R.ends.length ec, .int .i64 R.blocked, .int .i64 R.quiet, .int .i64 R.rept, lv, .slice mA ms.length mc] ∧ Blk W BM 39 #[.int .i64 mv.src, .int .i64 mv.dst, .int .i64 mv.piece]) W from ⟨(match h with | ⟨_, hb, _⟩ => hb.cell 0), (match h with | ⟨_, hb, _⟩ => hb.cell 1), (match h with | ⟨_, hb, _⟩ => hb.cell 2), (match h with | ⟨_, hb, _⟩ => hb.cell 3), (match h with | ⟨_, hb, _⟩ => hb.cell 4), (match h with | ⟨_, hb, _⟩ => hb.cell 5), (match h with | ⟨_, hb, _⟩ => hb.cell 6), (match h with | ⟨_, hb, _⟩ => hb.cell 7), (match h with | ⟨_, hb, _⟩ => hb.cell 8), (match h with | ⟨_, hb, _⟩ => hb.cell 9), (match h with | ⟨_, hb, _⟩ => hb.cell 10), (match h with | ⟨_, _, hm⟩ => hm.cell 0), (match h with | ⟨_, _, hm⟩ => hm.cell 1), (match h with | ⟨_, _, hm⟩ => hm.cell 2), h⟩))
  have yy := (⟨_, KG5.out.ext zz, KM5.out.ext zz⟩ : (fun W => ∃ lv, Blk W BG 109 #[.string R.name, .int .i64 R.width, .int .i64 R.height, .slice pA R.pieces.length pc, .slice sA R.start.length sc, .bool R.falls, .bool R.keeps, .slice eA R.ends.length ec, .int .i64 R.blocked, .int .i64 R.quiet, .int .i64 R.rept, lv, .slice mA ms.length mc] ∧ Blk W BM 39 #[.int .i64 mv.src, .int .i64 mv.dst, .int .i64 mv.piece]) wc.drew)
  refine region_K (fun W => W.cell? ⟨BG, 0, none⟩ = some (.string R.name) ∧ W.cell? ⟨BG, 1, none⟩ = some (.int .i64 R.width) ∧ W.cell? ⟨BG, 2, none⟩ = some (.int .i64 R.height) ∧ W.cell? ⟨BG, 3, none⟩ = some (.slice pA R.pieces.length pc) ∧ W.cell? ⟨BG, 4, none⟩ = some (.slice sA R.start.length sc) ∧ W.cell? ⟨BG, 5, none⟩ = some (.bool R.falls) ∧ W.cell? ⟨BG, 6, none⟩ = some (.bool R.keeps) ∧ W.cell? ⟨BG, 7, none⟩ = some (.slice eA R.ends.length ec) ∧ W.cell? ⟨BG, 8, none⟩ = some (.int .i64 R.blocked) ∧ W.cell? ⟨BG, 9, none⟩ = some (.int .i64 R.quiet) ∧ W.cell? ⟨BG, 10, none⟩ = some (.int .i64 R.rept) ∧ W.cell? ⟨BM, 0, none⟩ = some (.int .i64 mv.src) ∧ W.cell? ⟨BM, 1, none⟩ = some (.int .i64 mv.dst) ∧ W.cell? ⟨BM, 2, none⟩ = some (.int .i64 mv.piece) ∧ ∃ lv, Blk W BG 109 #[.string R.name, .int .i64 R.width, .int .i64 R.height, .slice pA R.pieces.length pc, .slice sA R.start.length sc, .bool R.falls, .bool R.keeps, .slice eA R.ends.length ec, .int .i64 R.blocked, .int .i64 R.quiet, .int .i64 R.rept, lv, .slice mA ms.length mc] ∧ Blk W BM 39 #[.int .i64 mv.src, .int .i64 mv.dst, .int .i64 mv.piece]) (fun W => W.cell? ⟨BG, 11, none⟩ = some (l)) [17] (by kernel_rfl) ?_
  have hS0 := ss.cell 11
  have hT0 := keepK.out _ yy
  refine anyK_take 0 (oi := ?oo34) ?ho34 (by kernel_rfl) (by kernel_rfl) (by kernel_rfl) (by kernel_rfl) ?hq34 ?hw34 hT0 (fun _ => hS0) (v := ?vv34) ?hy34 ?hk34
  case ho34 => (simp only [List.getElem?_toArray, List.getElem?_cons_succ, List.getElem?_cons_zero]; rfl)
  case hq34 => exact fun _ _ _ h => h
  case hw34 => rfl
  case hy34 =>
    intro W hW
    go_simp
    first | done | with_reducible rfl
  case hk34 =>
  try simp only [Act.put, List.setIfInBounds_toArray, List.set_cons_zero, List.set_cons_succ]
  refine anyK_take 1 (oi := ?oo35) ?ho35 (by kernel_rfl) (by kernel_rfl) (by kernel_rfl) (by kernel_rfl) ?hq35 ?hw35 hT0 (fun _ => hS0) (v := ?vv35) ?hy35 ?hk35
  case ho35 => (simp only [List.getElem?_toArray, List.getElem?_cons_succ, List.getElem?_cons_zero]; rfl)
  case hq35 => exact fun _ _ _ h => h
  case hw35 => rfl
  case hy35 =>
    intro W hW
    go_simp
    first | done | with_reducible rfl
  case hk35 =>
  try simp only [Act.put, List.setIfInBounds_toArray, List.set_cons_zero, List.set_cons_succ]
  refine anyK_take 2 (oi := ?oo36) ?ho36 (by kernel_rfl) (by kernel_rfl) (by kernel_rfl) (by kernel_rfl) ?hq36 ?hw36 hT0 (fun _ => hS0) (v := ?vv36) ?hy36 ?hk36
  case ho36 => (simp only [List.getElem?_toArray, List.getElem?_cons_succ, List.getElem?_cons_zero]; rfl)
  case hq36 => exact fun _ _ _ h => h
  case hw36 => rfl
  case hy36 =>
    intro W hW
    go_simp
    first | done | with_reducible rfl
  case hk36 =>
  try simp only [Act.put, List.setIfInBounds_toArray, List.set_cons_zero, List.set_cons_succ]
  refine anyK_take 3 (oi := ?oo37) ?ho37 (by kernel_rfl) (by kernel_rfl) (by kernel_rfl) (by kernel_rfl) ?hq37 ?hw37 hT0 (fun _ => hS0) (v := ?vv37) ?hy37 ?hk37
  case ho37 => (simp only [List.getElem?_toArray, List.getElem?_cons_succ, List.getElem?_cons_zero]; rfl)
  case hq37 => exact fun _ _ _ h => h
  case hw37 => rfl
  case hy37 =>
    intro W hW
    go_simp
    first | done | with_reducible rfl
  case hk37 =>
  try simp only [Act.put, List.setIfInBounds_toArray, List.set_cons_zero, List.set_cons_succ]
  refine anyK_load 4 (oi := ?oo38) ?ho38 (by kernel_rfl) (by kernel_rfl) (by kernel_rfl) (by kernel_rfl) (by kernel_rfl) (by kernel_rfl) ?hq38 ?hw38 hT0 hS0 (v := ?vv38) ?hy38 ?hk38
  case ho38 => (simp only [List.getElem?_toArray, List.getElem?_cons_succ, List.getElem?_cons_zero]; rfl)
  case hq38 => exact fun _ _ _ h => h
  case hw38 => rfl
  case hy38 =>
    intro W hW1 hW
    go_simp
    first | done | with_reducible rfl
  case hk38 =>
  try simp only [Act.put, List.setIfInBounds_toArray, List.set_cons_zero, List.set_cons_succ]
  refine anyK_take 5 (oi := ?oo39) ?ho39 (by kernel_rfl) (by kernel_rfl) (by kernel_rfl) (by kernel_rfl) ?hq39 ?hw39 hT0 (fun _ => hS0) (v := ?vv39) ?hy39 ?hk39
  case ho39 => (simp only [List.getElem?_toArray, List.getElem?_cons_succ, List.getElem?_cons_zero]; rfl)
  case hq39 => exact fun _ _ _ h => h
  case hw39 => rfl
  case hy39 =>
    intro W hW
    go_simp
    first | done | with_reducible rfl
  case hk39 =>
  try simp only [Act.put, List.setIfInBounds_toArray, List.set_cons_zero, List.set_cons_succ]
  refine anyK_take 6 (oi := ?oo40) ?ho40 (by kernel_rfl) (by kernel_rfl) (by kernel_rfl) (by kernel_rfl) ?hq40 ?hw40 hT0 (fun _ => hS0) (v := ?vv40) ?hy40 ?hk40
  case ho40 => (simp only [List.getElem?_toArray, List.getElem?_cons_succ, List.getElem?_cons_zero]; rfl)
  case hq40 => exact fun _ _ _ h => h
  case hw40 => rfl
  case hy40 =>
    intro W hW
    go_simp
    first | done | with_reducible rfl
  case hk40 =>
  try simp only [Act.put, List.setIfInBounds_toArray, List.set_cons_zero, List.set_cons_succ]
  refine anyK_take 7 (oi := ?oo41) ?ho41 (by kernel_rfl) (by kernel_rfl) (by kernel_rfl) (by kernel_rfl) ?hq41 ?hw41 hT0 (fun _ => hS0) (v := ?vv41) ?hy41 ?hk41
  case ho41 => (simp only [List.getElem?_toArray, List.getElem?_cons_succ, List.getElem?_cons_zero]; rfl)
  case hq41 => exact fun _ _ _ h => h
  case hw41 => rfl
  case hy41 =>
    intro W hW
    go_simp
    first | done | with_reducible rfl
  case hk41 =>
  try simp only [Act.put, List.setIfInBounds_toArray, List.set_cons_zero, List.set_cons_succ]
  refine anyK_take 8 (oi := ?oo42) ?ho42 (by kernel_rfl) (by kernel_rfl) (by kernel_rfl) (by kernel_rfl) ?hq42 ?hw42 hT0 (fun _ => hS0) (v := ?vv42) ?hy42 ?hk42
  case ho42 => (simp only [List.getElem?_toArray, List.getElem?_cons_succ, List.getElem?_cons_zero]; rfl)
  case hq42 => exact fun _ _ _ h => h
  case hw42 => rfl
  case hy42 =>
    intro W hW
    obtain ⟨z0, z1, z2, z3, z4, z5, z6, z7, z8, z9, z10, z11, z12, z13, z14⟩ := hW
    go_simp
    first | done | with_reducible rfl
  case hk42 =>
  try simp only [Act.put, List.setIfInBounds_toArray, List.set_cons_zero, List.set_cons_succ]
  refine anyK_take 9 (oi := ?oo43) ?ho43 (by kernel_rfl) (by kernel_rfl) (by kernel_rfl) (by kernel_rfl) ?hq43 ?hw43 hT0 (fun _ => hS0) (v := ?vv43) ?hy43 ?hk43
  case ho43 => (simp only [List.getElem?_toArray, List.getElem?_cons_succ, List.getElem?_cons_zero]; rfl)
  case hq43 => exact fun _ _ _ h => h
  case hw43 => rfl
  case hy43 =>
    intro W hW
    go_simp
    first | done | with_reducible rfl
  case hk43 =>
  try simp only [Act.put, List.setIfInBounds_toArray, List.set_cons_zero, List.set_cons_succ]
  refine anyK_take 11 (oi := ?oo44) ?ho44 (by kernel_rfl) (by kernel_rfl) (by kernel_rfl) (by kernel_rfl) ?hq44 ?hw44 hT0 (fun _ => hS0) (v := ?vv44) ?hy44 ?hk44
  case ho44 => (simp only [List.getElem?_toArray, List.getElem?_cons_succ, List.getElem?_cons_zero]; rfl)
  case hq44 => exact fun _ _ _ h => h
  case hw44 => rfl
  case hy44 =>
    intro W hW
    obtain ⟨z0, z1, z2, z3, z4, z5, z6, z7, z8, z9, z10, z11, z12, z13, z14⟩ := hW
    go_simp
    first | done | with_reducible rfl
  case hk44 =>
  try simp only [Act.put, List.setIfInBounds_toArray, List.set_cons_zero, List.set_cons_succ]
  refine anyK_on1 10 (by kernel_rfl) ?_
  refine anyK_one 10 (o := ?oo45) ?ho45 ?hk45
  case ho45 => (simp only [List.getElem?_toArray, List.getElem?_cons_succ, List.getElem?_cons_zero]; rfl)
  case hk45 =>
  intro K hK
  go_simp
  refine (HNW.out _ (ext_trans X5.out zz)).mono ?_
  rintro e wd ⟨v8, rfl, hp8, xx⟩
  try go_wp2_with fail
  replace yy := (⟨_, KG5.out.ext (ext_trans zz xx), KM5.out.ext (ext_trans zz xx)⟩ : (fun W => ∃ lv, Blk W BG 109 #[.string R.name, .int .i64 R.width, .int .i64 R.height, .slice pA R.pieces.length pc, .slice sA R.start.length sc, .bool R.falls, .bool R.keeps, .slice eA R.ends.length ec, .int .i64 R.blocked, .int .i64 R.quiet, .int .i64 R.rept, lv, .slice mA ms.length mc] ∧ Blk W BM 39 #[.int .i64 mv.src, .int .i64 mv.dst, .int .i64 mv.piece]) wd)
  have HP8 := hide hp8
  clear hp8
  replace zz := ext_trans zz xx
  replace ss := KG5.out.ext zz
  have hT1 := keepK.out _ yy
  have hS1 := ss.cell 11
  refine hK.out _ _ hT1 (fun _ => hS1) ?_
  clear hK K
  try simp only [Act.put, List.setIfInBounds_toArray, List.set_cons_zero, List.set_cons_succ]
  refine anyK_on1 12 (by kernel_rfl) ?_
  refine anyK_one 12 (o := ?oo46) ?ho46 ?hk46
  case ho46 => (simp only [List.getElem?_toArray, List.getElem?_cons_succ, List.getElem?_cons_zero]; rfl)
  case hk46 =>
  intro K hK
  go_simp
  refine (HMK.out _ _ (ext_trans X5.out zz) HP8.out).mono ?_
  rintro e we ⟨v9, rfl, own9, xx⟩
  try go_wp2_with fail
  replace yy := (⟨_, KG5.out.ext (ext_trans zz xx), KM5.out.ext (ext_trans zz xx)⟩ : (fun W => ∃ lv, Blk W BG 109 #[.string R.name, .int .i64 R.width, .int .i64 R.height, .slice pA R.pieces.length pc, .slice sA R.start.length sc, .bool R.falls, .bool R.keeps, .slice eA R.ends.length ec, .int .i64 R.blocked, .int .i64 R.quiet, .int .i64 R.rept, lv, .slice mA ms.length mc] ∧ Blk W BM 39 #[.int .i64 mv.src, .int .i64 mv.dst, .int .i64 mv.piece]) we)
  have hp9 := own9.toI
  have HP9 := hide hp9
  obtain ⟨g0, d0, g1, d1, g2, d2, rfl, -⟩ := hp9
  clear own9
  replace zz := ext_trans zz xx
  replace ss := KG5.out.ext zz
  have hT2 := keepK.out _ yy
  have hS2 := ss.cell 11
  refine hK.out _ _ hT2 (fun _ => hS2) ?_
  clear hK K
  try simp only [Act.put, List.setIfInBounds_toArray, List.set_cons_zero, List.set_cons_succ]
  refine anyK_on1 13 (by kernel_rfl) ?_
  refine anyK_one 13 (o := ?oo47) ?ho47 ?hk47
  case ho47 => (simp only [List.getElem?_toArray, List.getElem?_cons_succ, List.getElem?_cons_zero]; rfl)
  case hk47 =>
  intro K hK
  go_simp
  replace yy := (⟨_, KG5.out.ext (ext_alloc zz _), KM5.out.ext (ext_alloc zz _)⟩ : (fun W => ∃ lv, Blk W BG 109 #[.string R.name, .int .i64 R.width, .int .i64 R.height, .slice pA R.pieces.length pc, .slice sA R.start.length sc, .bool R.falls, .bool R.keeps, .slice eA R.ends.length ec, .int .i64 R.blocked, .int .i64 R.quiet, .int .i64 R.rept, lv, .slice mA ms.length mc] ∧ Blk W BM 39 #[.int .i64 mv.src, .int .i64 mv.dst, .int .i64 mv.piece]) (we.alloc (.cells #[.slice (some ⟨g0, 0, none⟩) Q.cells.length d0, .slice (some ⟨g1, 0, none⟩) Q.hand0.length d1, .slice (some ⟨g2, 0, none⟩) Q.hand1.length d2, .int .i64 Q.turn, .int .i64 Q.quiet] 29)))
  replace ss := KG5.out.ext (ext_alloc zz (.cells #[.slice (some ⟨g0, 0, none⟩) Q.cells.length d0, .slice (some ⟨g1, 0, none⟩) Q.hand0.length d1, .slice (some ⟨g2, 0, none⟩) Q.hand1.length d2, .int .i64 Q.turn, .int .i64 Q.quiet] 29))
  have hT3 := keepK.out _ yy
  have hS3 := ss.cell 11
  refine hK.out _ _ hT3 (fun _ => hS3) ?_
  clear hK K
  try simp only [Act.put, List.setIfInBounds_toArray, List.set_cons_zero, List.set_cons_succ]
  refine anyK_on1 14 (by kernel_rfl) ?_
  refine anyK_one 14 (o := ?oo48) ?ho48 ?hk48
  case ho48 => (simp only [List.getElem?_toArray, List.getElem?_cons_succ, List.getElem?_cons_zero]; rfl)
  case hk48 =>
  intro K hK
  refine ite_yes' rfl ?_
  refine oper_append_pos (.tmp 31) (.tmp 40) rfl w0 we l ps Q g0 g1 g2 d0 d1 d2 HP9.out rfl ((H3.out.ext X5.out).ext zz) rfl (ext_trans H56.out.2 (ext_trans X5.out zz)) (by have := HLL.out.1; omega) ?_
  intro v9 w9 own9 x9 g9 f9
  obtain ⟨A9, n9, c9, rfl⟩ : ∃ A n c, v9 = .slice A n c := by obtain ⟨A, c, vss, e, -⟩ := own9; exact ⟨_, _, _, e⟩
  have HNB : Hid (some BG ≠ l.ownBlock) := hide (by obtain ⟨A, c, vss, e, o, -⟩ := (H3.out.ext X5.out).ext zz; rw [e]; exact (own_blk_ne o (KG5.out.ext zz) (by decide)).symm)
  have HNM : Hid (some BM ≠ l.ownBlock) := hide (by obtain ⟨A, c, vss, e, o, -⟩ := (H3.out.ext X5.out).ext zz; rw [e]; exact (own_blk_ne o (KM5.out.ext zz) (by decide)).symm)
  replace yy := (⟨_, (KG5.out.ext zz).grown g9 HNB.out, (KM5.out.ext zz).grown g9 HNM.out⟩ : (fun W => ∃ lv, Blk W BG 109 #[.string R.name, .int .i64 R.width, .int .i64 R.height, .slice pA R.pieces.length pc, .slice sA R.start.length sc, .bool R.falls, .bool R.keeps, .slice eA R.ends.length ec, .int .i64 R.blocked, .int .i64 R.quiet, .int .i64 R.rept, lv, .slice mA ms.length mc] ∧ Blk W BM 39 #[.int .i64 mv.src, .int .i64 mv.dst, .int .i64 mv.piece]) w9)
  replace ss := (KG5.out.ext zz).grown g9 HNB.out
  have H29 := hide (((H2.out.ext X5.out).ext zz).tfr ⟨by decide, by decide, by decide, by decide⟩ f9)
  have H49 := hide (((H4.out.ext X5.out).ext zz).grow9 ((H3.out.ext X5.out).ext zz) g9)
  have OWN9 := hide own9
  have X9 := hide x9
  clear own9 x9 g9 f9 HNB HNM
  have hT4 := keepK.out _ yy
  have hS4 := ss.cell 11
  refine hK.out _ _ hT4 (fun _ => hS4) ?_
  clear hK K
  try simp only [Act.put, List.setIfInBounds_toArray, List.set_cons_zero, List.set_cons_succ]
  refine anyK_take 15 (oi := ?oo49) ?ho49 (by kernel_rfl) (by kernel_rfl) (by kernel_rfl) (by kernel_rfl) ?hq49 ?hw49 hT4 (fun _ => hS4) (v := ?vv49) ?hy49 ?hk49
  case ho49 => (simp only [List.getElem?_toArray, List.getElem?_cons_succ, List.getElem?_cons_zero]; rfl)
  case hq49 => exact fun _ _ _ h => h
  case hw49 => rfl
  case hy49 =>
    intro W hW
    go_simp
    first | done | with_reducible rfl
  case hk49 =>
  try simp only [Act.put, List.setIfInBounds_toArray, List.set_cons_zero, List.set_cons_succ]
  refine anyK_take 16 (oi := ?oo50) ?ho50 (by kernel_rfl) (by kernel_rfl) (by kernel_rfl) (by kernel_rfl) ?hq50 ?hw50 hT4 (fun _ => hS4) (v := ?vv50) ?hy50 ?hk50
  case ho50 => (simp only [List.getElem?_toArray, List.getElem?_cons_succ, List.getElem?_cons_zero]; rfl)
  case hq50 => exact fun _ _ _ h => h
  case hw50 => rfl
  case hy50 =>
    intro W hW
    go_simp
    first | done | with_reducible rfl
  case hk50 =>
  try simp only [Act.put, List.setIfInBounds_toArray, List.set_cons_zero, List.set_cons_succ]
  refine anyK_on1 17 (by kernel_rfl) ?_
  refine anyK_one 17 (o := ?oo51) ?ho51 ?hk51
  case ho51 => (simp only [List.getElem?_toArray, List.getElem?_cons_succ, List.getElem?_cons_zero]; rfl)
  case hk51 =>
  intro K hK
  have q5 := ss.cell
  have z5 := ss.frozen
  have KM9 : Hid (Blk w9 BM 39 #[.int .i64 mv.src, .int .i64 mv.dst, .int .i64 mv.piece]) := hide (match yy with | ⟨_, _, hm⟩ => hm)
  have HGM : Hid (BM ≠ BG) := hide (by
    rintro rfl
    have e := KM9.out.symm.trans ss
    simp only [Option.some.injEq, Obj.cells.injEq] at e
    exact absurd e.2.1 (by decide))
  have k10 := blk_put (i := 11) (u := .slice A9 n9 c9) ss (cs' := #[.string R.name, .int .i64 R.width, .int .i64 R.height, .slice pA R.pieces.length pc, .slice sA R.start.length sc, .bool R.falls, .bool R.keeps, .slice eA R.ends.length ec, .int .i64 R.blocked, .int .i64 R.quiet, .int .i64 R.rept, .slice A9 n9 c9, .slice mA ms.length mc]) rfl
  replace yy := (⟨.slice A9 n9 c9, k10, KM9.out.far (p := ⟨BG, 11, none⟩) HGM.out (.slice A9 n9 c9)⟩ : (fun W => ∃ lv, Blk W BG 109 #[.string R.name, .int .i64 R.width, .int .i64 R.height, .slice pA R.pieces.length pc, .slice sA R.start.length sc, .bool R.falls, .bool R.keeps, .slice eA R.ends.length ec, .int .i64 R.blocked, .int .i64 R.quiet, .int .i64 R.rept, lv, .slice mA ms.length mc] ∧ Blk W BM 39 #[.int .i64 mv.src, .int .i64 mv.dst, .int .i64 mv.piece]) (w9.setCell ⟨BG, 11, none⟩ (.slice A9 n9 c9)))
  have TF := hide (TFr.set (ts := [109]) ss (List.mem_singleton.2 rfl) 11 (.slice A9 n9 c9))
  have K10 := hide k10
  have KM10 := hide (KM9.out.far (p := ⟨BG, 11, none⟩) HGM.out (.slice A9 n9 c9))
  have HBG9 := hide H56.out.1
  have X10 := hide (ext_set X9.out (p := ⟨BG, 11, none⟩) HBG9.out (.slice A9 n9 c9))
  clear k10
  go_simp
  have hT5 := keepK.out _ yy
  refine hK.out _ _ hT5 (fun h => by cases h) ?_
  clear hK K
  try simp only [Act.put, List.setIfInBounds_toArray, List.set_cons_zero, List.set_cons_succ]
  refine anyK_done (by kernel_rfl) ?_ _
  clear keepK hT0 hT1 hT2 hT3 hT4 hT5
  try clear keepS hS0 hS1 hS2 hS3 hS4
  clear zz yy ss HNW HMK HP8 HP9
  have HN8 := hide (And.intro ((K10.out.drew : Blk _ _ _ _)) ((KM10.out.drew : Blk _ _ _ _)))
  have H210 := hide (H29.out.tfr ⟨by decide, by decide, by decide, by decide⟩ TF.out)
  have H410 := hide (H49.out.tfr (by decide) TF.out)
  have OWN10 := hide (OWN9.out.tfr (by decide) (by decide) TF.out)
  clear TF H29 H49 OWN9 X9 KM9 q5 z5 HGM
  generalize w9.setCell ⟨BG, 11, none⟩ (.slice A9 n9 c9) = w10 at *
  have f4 := K10.out.cell
  have f5 := KM10.out.cell
  go_upto_region 8 with fail
  have HLM : Hid (ms.length ≤ 1000000) := hide (by have := HLL.out.2; omega)
  clear f4 f5
  have zz : Ext w10 w10.drew := Below.drew (Below.refl _ _)
  have ss := K10.out.ext zz
  have keepK := hide (fun W (h : ∃ lv, Blk W BG 109 #[.string R.name, .int .i64 R.width, .int .i64 R.height, .slice pA R.pieces.length pc, .slice sA R.start.length sc, .bool R.falls, .bool R.keeps, .slice eA R.ends.length ec, .int .i64 R.blocked, .int .i64 R.quiet, .int .i64 R.rept, .slice A9 n9 c9, lv] ∧ Blk W BM 39 #[.int .i64 mv.src, .int .i64 mv.dst, .int .i64 mv.piece]) => (show (fun W => W.cell? ⟨BM, 0, none⟩ = some (.int .i64 mv.src) ∧ W.cell? ⟨BM, 1, none⟩ = some (.int .i64 mv.dst) ∧ W.cell? ⟨BM, 2, none⟩ = some (.int .i64 mv.piece) ∧ ∃ lv, Blk W BG 109 #[.string R.name, .int .i64 R.width, .int .i64 R.height, .slice pA R.pieces.length pc, .slice sA R.start.length sc, .bool R.falls, .bool R.keeps, .slice eA R.ends.length ec, .int .i64 R.blocked, .int .i64 R.quiet, .int .i64 R.rept, .slice A9 n9 c9, lv] ∧ Blk W BM 39 #[.int .i64 mv.src, .int .i64 mv.dst, .int .i64 mv.piece]) W from ⟨(match h with | ⟨_, _, hm⟩ => hm.cell 0), (match h with | ⟨_, _, hm⟩ => hm.cell 1), (match h with | ⟨_, _, hm⟩ => hm.cell 2), h⟩))
  have yy := (⟨_, K10.out.ext zz, KM10.out.ext zz⟩ : (fun W => ∃ lv, Blk W BG 109 #[.string R.name, .int .i64 R.width, .int .i64 R.height, .slice pA R.pieces.length pc, .slice sA R.start.length sc, .bool R.falls, .bool R.keeps, .slice eA R.ends.length ec, .int .i64 R.blocked, .int .i64 R.quiet, .int .i64 R.rept, .slice A9 n9 c9, lv] ∧ Blk W BM 39 #[.int .i64 mv.src, .int .i64 mv.dst, .int .i64 mv.piece]) w10.drew)
  refine region_K (fun W => W.cell? ⟨BM, 0, none⟩ = some (.int .i64 mv.src) ∧ W.cell? ⟨BM, 1, none⟩ = some (.int .i64 mv.dst) ∧ W.cell? ⟨BM, 2, none⟩ = some (.int .i64 mv.piece) ∧ ∃ lv, Blk W BG 109 #[.string R.name, .int .i64 R.width, .int .i64 R.height, .slice pA R.pieces.length pc, .slice sA R.start.length sc, .bool R.falls, .bool R.keeps, .slice eA R.ends.length ec, .int .i64 R.blocked, .int .i64 R.quiet, .int .i64 R.rept, .slice A9 n9 c9, lv] ∧ Blk W BM 39 #[.int .i64 mv.src, .int .i64 mv.dst, .int .i64 mv.piece]) (fun W => W.cell? ⟨BG, 12, none⟩ = some (.slice mA ms.length mc)) [10] (by kernel_rfl) ?_
  have hS0 := ss.cell 12
  have hT0 := keepK.out _ yy
  refine anyK_take 0 (oi := ?oo52) ?ho52 (by kernel_rfl) (by kernel_rfl) (by kernel_rfl) (by kernel_rfl) ?hq52 ?hw52 hT0 (fun _ => hS0) (v := ?vv52) ?hy52 ?hk52
  case ho52 => (simp only [List.getElem?_toArray, List.getElem?_cons_succ, List.getElem?_cons_zero]; rfl)
  case hq52 => exact fun _ _ _ h => h
  case hw52 => rfl
  case hy52 =>
    intro W hW
    go_simp
    first | done | with_reducible rfl
  case hk52 =>
  try simp only [Act.put, List.setIfInBounds_toArray, List.set_cons_zero, List.set_cons_succ]
  refine anyK_take 1 (oi := ?oo53) ?ho53 (by kernel_rfl) (by kernel_rfl) (by kernel_rfl) (by kernel_rfl) ?hq53 ?hw53 hT0 (fun _ => hS0) (v := ?vv53) ?hy53 ?hk53
  case ho53 => (simp only [List.getElem?_toArray, List.getElem?_cons_succ, List.getElem?_cons_zero]; rfl)
  case hq53 => exact fun _ _ _ h => h
  case hw53 => rfl
  case hy53 =>
    intro W hW
    go_simp
    first | done | with_reducible rfl
  case hk53 =>
  try simp only [Act.put, List.setIfInBounds_toArray, List.set_cons_zero, List.set_cons_succ]
  refine anyK_take 2 (oi := ?oo54) ?ho54 (by kernel_rfl) (by kernel_rfl) (by kernel_rfl) (by kernel_rfl) ?hq54 ?hw54 hT0 (fun _ => hS0) (v := ?vv54) ?hy54 ?hk54
  case ho54 => (simp only [List.getElem?_toArray, List.getElem?_cons_succ, List.getElem?_cons_zero]; rfl)
  case hq54 => exact fun _ _ _ h => h
  case hw54 => rfl
  case hy54 =>
    intro W hW
    go_simp
    first | done | with_reducible rfl
  case hk54 =>
  try simp only [Act.put, List.setIfInBounds_toArray, List.set_cons_zero, List.set_cons_succ]
  refine anyK_take 3 (oi := ?oo55) ?ho55 (by kernel_rfl) (by kernel_rfl) (by kernel_rfl) (by kernel_rfl) ?hq55 ?hw55 hT0 (fun _ => hS0) (v := ?vv55) ?hy55 ?hk55
  case ho55 => (simp only [List.getElem?_toArray, List.getElem?_cons_succ, List.getElem?_cons_zero]; rfl)
  case hq55 => exact fun _ _ _ h => h
  case hw55 => rfl
  case hy55 =>
    intro W hW
    go_simp
    first | done | with_reducible rfl
  case hk55 =>
  try simp only [Act.put, List.setIfInBounds_toArray, List.set_cons_zero, List.set_cons_succ]
  refine anyK_load 4 (oi := ?oo56) ?ho56 (by kernel_rfl) (by kernel_rfl) (by kernel_rfl) (by kernel_rfl) (by kernel_rfl) (by kernel_rfl) ?hq56 ?hw56 hT0 hS0 (v := ?vv56) ?hy56 ?hk56
  case ho56 => (simp only [List.getElem?_toArray, List.getElem?_cons_succ, List.getElem?_cons_zero]; rfl)
  case hq56 => exact fun _ _ _ h => h
  case hw56 => rfl
  case hy56 =>
    intro W hW1 hW
    go_simp
    first | done | with_reducible rfl
  case hk56 =>
  try simp only [Act.put, List.setIfInBounds_toArray, List.set_cons_zero, List.set_cons_succ]
  refine anyK_take 5 (oi := ?oo57) ?ho57 (by kernel_rfl) (by kernel_rfl) (by kernel_rfl) (by kernel_rfl) ?hq57 ?hw57 hT0 (fun _ => hS0) (v := ?vv57) ?hy57 ?hk57
  case ho57 => (simp only [List.getElem?_toArray, List.getElem?_cons_succ, List.getElem?_cons_zero]; rfl)
  case hq57 => exact fun _ _ _ h => h
  case hw57 => rfl
  case hy57 =>
    intro W hW
    obtain ⟨z0, z1, z2, z3⟩ := hW
    go_simp
    first | done | with_reducible rfl
  case hk57 =>
  try simp only [Act.put, List.setIfInBounds_toArray, List.set_cons_zero, List.set_cons_succ]
  refine anyK_on1 6 (by kernel_rfl) ?_
  refine anyK_one 6 (o := ?oo58) ?ho58 ?hk58
  case ho58 => (simp only [List.getElem?_toArray, List.getElem?_cons_succ, List.getElem?_cons_zero]; rfl)
  case hk58 =>
  intro K hK
  go_simp
  replace yy := (⟨_, K10.out.ext (ext_alloc zz _), KM10.out.ext (ext_alloc zz _)⟩ : (fun W => ∃ lv, Blk W BG 109 #[.string R.name, .int .i64 R.width, .int .i64 R.height, .slice pA R.pieces.length pc, .slice sA R.start.length sc, .bool R.falls, .bool R.keeps, .slice eA R.ends.length ec, .int .i64 R.blocked, .int .i64 R.quiet, .int .i64 R.rept, .slice A9 n9 c9, lv] ∧ Blk W BM 39 #[.int .i64 mv.src, .int .i64 mv.dst, .int .i64 mv.piece]) (w10.drew.alloc (.cells #[.int .i64 mv.src, .int .i64 mv.dst, .int .i64 mv.piece] 39)))
  replace ss := K10.out.ext (ext_alloc zz (.cells #[.int .i64 mv.src, .int .i64 mv.dst, .int .i64 mv.piece] 39))
  have hT1 := keepK.out _ yy
  have hS1 := ss.cell 12
  refine hK.out _ _ hT1 (fun _ => hS1) ?_
  clear hK K
  try simp only [Act.put, List.setIfInBounds_toArray, List.set_cons_zero, List.set_cons_succ]
  refine anyK_on1 7 (by kernel_rfl) ?_
  refine anyK_one 7 (o := ?oo59) ?ho59 ?hk59
  case ho59 => (simp only [List.getElem?_toArray, List.getElem?_cons_succ, List.getElem?_cons_zero]; rfl)
  case hk59 =>
  intro K hK
  refine ite_yes' rfl ?_
  refine oper_append_mv (.tmp 48) (.tmp 50) rfl w0 w10.drew (.slice mA ms.length mc) ms mv rfl (H410.out.ext zz) rfl (ext_trans X10.out zz) HLM.out ?_
  intro v11 w11 own11 x11 g11 f11
  obtain ⟨A11, n11, c11, rfl⟩ : ∃ A n c, v11 = .slice A n c := by obtain ⟨A, c, e, -⟩ := own11; exact ⟨_, _, _, e⟩
  have HNB : Hid (some BG ≠ (Value.slice mA ms.length mc).ownBlock) := hide ((H410.out.ext zz).blk_ne (K10.out.ext zz) (by decide))
  have HNM : Hid (BM ≠ BG) := hide (by
    rintro rfl
    have e := KM10.out.symm.trans K10.out
    simp only [Option.some.injEq, Obj.cells.injEq] at e
    exact absurd e.2.1 (by decide))
  have HNX : Hid ((Value.slice mA ms.length mc).ownBlock ≠ some BM) := HMX
  replace yy := (⟨_, (K10.out.ext zz).grown g11 HNB.out, (KM10.out.ext zz).grown g11 (Ne.symm HNX.out)⟩ : (fun W => ∃ lv, Blk W BG 109 #[.string R.name, .int .i64 R.width, .int .i64 R.height, .slice pA R.pieces.length pc, .slice sA R.start.length sc, .bool R.falls, .bool R.keeps, .slice eA R.ends.length ec, .int .i64 R.blocked, .int .i64 R.quiet, .int .i64 R.rept, .slice A9 n9 c9, lv] ∧ Blk W BM 39 #[.int .i64 mv.src, .int .i64 mv.dst, .int .i64 mv.piece]) w11)
  replace ss := (K10.out.ext zz).grown g11 HNB.out
  have H211 := hide ((H210.out.ext zz).tfr ⟨by decide, by decide, by decide, by decide⟩ f11)
  have P11 := hide ((OWN10.out.ext zz).tfr (by decide) (by decide) f11)
  have OWN11 := hide own11
  have X11 := hide x11
  clear own11 x11 g11 f11 HNB HNX
  have hT2 := keepK.out _ yy
  have hS2 := ss.cell 12
  refine hK.out _ _ hT2 (fun _ => hS2) ?_
  clear hK K
  try simp only [Act.put, List.setIfInBounds_toArray, List.set_cons_zero, List.set_cons_succ]
  refine anyK_take 8 (oi := ?oo60) ?ho60 (by kernel_rfl) (by kernel_rfl) (by kernel_rfl) (by kernel_rfl) ?hq60 ?hw60 hT2 (fun _ => hS2) (v := ?vv60) ?hy60 ?hk60
  case ho60 => (simp only [List.getElem?_toArray, List.getElem?_cons_succ, List.getElem?_cons_zero]; rfl)
  case hq60 => exact fun _ _ _ h => h
  case hw60 => rfl
  case hy60 =>
    intro W hW
    go_simp
    first | done | with_reducible rfl
  case hk60 =>
  try simp only [Act.put, List.setIfInBounds_toArray, List.set_cons_zero, List.set_cons_succ]
  refine anyK_take 9 (oi := ?oo61) ?ho61 (by kernel_rfl) (by kernel_rfl) (by kernel_rfl) (by kernel_rfl) ?hq61 ?hw61 hT2 (fun _ => hS2) (v := ?vv61) ?hy61 ?hk61
  case ho61 => (simp only [List.getElem?_toArray, List.getElem?_cons_succ, List.getElem?_cons_zero]; rfl)
  case hq61 => exact fun _ _ _ h => h
  case hw61 => rfl
  case hy61 =>
    intro W hW
    go_simp
    first | done | with_reducible rfl
  case hk61 =>
  try simp only [Act.put, List.setIfInBounds_toArray, List.set_cons_zero, List.set_cons_succ]
  refine anyK_on1 10 (by kernel_rfl) ?_
  refine anyK_one 10 (o := ?oo62) ?ho62 ?hk62
  case ho62 => (simp only [List.getElem?_toArray, List.getElem?_cons_succ, List.getElem?_cons_zero]; rfl)
  case hk62 =>
  intro K hK
  have q5 := ss.cell
  have z5 := ss.frozen
  have KM11 : Hid (Blk w11 BM 39 #[.int .i64 mv.src, .int .i64 mv.dst, .int .i64 mv.piece]) := hide (match yy with | ⟨_, _, hm⟩ => hm)
  have k12 := blk_put (i := 12) (u := .slice A11 n11 c11) ss (cs' := #[.string R.name, .int .i64 R.width, .int .i64 R.height, .slice pA R.pieces.length pc, .slice sA R.start.length sc, .bool R.falls, .bool R.keeps, .slice eA R.ends.length ec, .int .i64 R.blocked, .int .i64 R.quiet, .int .i64 R.rept, .slice A9 n9 c9, .slice A11 n11 c11]) rfl
  replace yy := (⟨.slice A11 n11 c11, k12, KM11.out.far (p := ⟨BG, 12, none⟩) HNM.out _⟩ : (fun W => ∃ lv, Blk W BG 109 #[.string R.name, .int .i64 R.width, .int .i64 R.height, .slice pA R.pieces.length pc, .slice sA R.start.length sc, .bool R.falls, .bool R.keeps, .slice eA R.ends.length ec, .int .i64 R.blocked, .int .i64 R.quiet, .int .i64 R.rept, .slice A9 n9 c9, lv] ∧ Blk W BM 39 #[.int .i64 mv.src, .int .i64 mv.dst, .int .i64 mv.piece]) (w11.setCell ⟨BG, 12, none⟩ (.slice A11 n11 c11)))
  have TF12 := hide (TFr.set (ts := [109]) ss (List.mem_singleton.2 rfl) 12 (.slice A11 n11 c11))
  have K12 := hide k12
  have X12 := hide (ext_set X11.out (p := ⟨BG, 12, none⟩) HBG9.out (.slice A11 n11 c11))
  clear k12
  go_simp
  have hT3 := keepK.out _ yy
  refine hK.out _ _ hT3 (fun h => by cases h) ?_
  clear hK K
  try simp only [Act.put, List.setIfInBounds_toArray, List.set_cons_zero, List.set_cons_succ]
  refine anyK_done (by kernel_rfl) ?_ _
  clear keepK hT0 hT1 hT2 hT3
  try clear keepS hS0 hS1 hS2
  clear zz yy ss q5 z5
  go_wp2
  go_ret
  rw [HQ.out]
  exact ⟨rfl, pA, pc, sA, sc, eA, ec, base, _, _, K12.out, H211.out.tfr ⟨by decide, by decide, by decide, by decide⟩ TF12.out, P11.out.tfr (by decide) (by decide) TF12.out, OWN11.out.tfr (by decide) TF12.out, HBG9.out, X12.out⟩

end Go.Proofs.Ytmofipijjokjfaa
namespace Go.Proofs.Ytmofipijjokjfaa
open Go.ChangeShapes Go.WideShapes Go.ChangeAt Go.RowKit Go.Shelf
set_option linter.unusedVariables false
set_option linter.unusedSimpArgs false
def BeginOwn (w : World) (P : PosM) (e : Ending) (w' : World) : Prop := ∃ v', e = .returned (.tuple #[v', .int .i64 0]) ∧ PosI w' v' P ∧ Ext w w'
theorem irow_far5 {w : World} {g B : Nat} {zs : List Int} {u0 u1 u2 u3 u4 : Value} (h : IRow w g zs) (hb : g ≠ B) : IRow (((((w.setCell ⟨B, 0, none⟩ u0).setCell ⟨B, 1, none⟩ u1).setCell ⟨B, 2, none⟩ u2).setCell ⟨B, 3, none⟩ u3).setCell ⟨B, 4, none⟩ u4) g zs :=
  ((((h.far (p := ⟨B, 0, none⟩) hb u0).far (p := ⟨B, 1, none⟩) hb u1).far (p := ⟨B, 2, none⟩) hb u2).far (p := ⟨B, 3, none⟩) hb u3).far (p := ⟨B, 4, none⟩) hb u4
set_option maxHeartbeats 4000000 in
set_option maxRecDepth 100000 in
theorem Begin_own (R : RulesM) (v : Value) (w : World) (hR : RulesAt w v R) (hV : Valid R) :
    Calls Try.prog 53 #[v] w (BeginOwn w (beginP R)) := by
  have har := area_bd _ _ hV.side
  have ha := hV.area
  have hp6 := hV.pieces6
  have HST1 : Hid (1 ≤ R.start.length) := hide (by omega)
  have HPS1 := hide hV.pieces0
  have HC := hide (fun W (hW : Ext w W) => (of_valid hV) ▸ Check_any v R W (hR.ext hW))
  obtain ⟨pA, pc, sA, sc, eA, ec, rfl, hpc, hs, -⟩ := hR
  have HCL := hide (fun W (hW : Ext w W) => cloneInts_any sA R.start.length sc R.start W rfl (by omega) (fun hn => by
    subst hn
    rcases hst : R.start with _ | ⟨x, l⟩
    · rfl
    · obtain ⟨b, o, e, -⟩ := hs 0 (by rw [hst]; simp)
      cases e) (hs.ext hW))
  obtain ⟨x1, k1, k2⟩ := blks2 w #[.string R.name, .int .i64 R.width, .int .i64 R.height, .slice pA R.pieces.length pc, .slice sA R.start.length sc, .bool R.falls, .bool R.keeps, .slice eA R.ends.length ec, .int .i64 R.blocked, .int .i64 R.quiet, .int .i64 R.rept] 26 #[.slice none 0 0, .slice none 0 0, .slice none 0 0, .int .i64 0, .int .i64 0] 29
  have HX := hide x1
  have HB2' : Hid (w.heap.size ≤ w.heap.size + 1) := hide (by omega)
  have HP := hide (hpc.ext x1)
  have K1 := hide k1
  have f1 := k1.cell
  clear x1 k1 hV hpc hs har
  go_enter Try.func53, Try.ntmps53
  go_wp2_with fail
  refine (HC.out _ HX.out).mono ?_
  rintro e w2 ⟨rfl, x2⟩
  have X2 := hide (ext_trans HX.out x2)
  have g1 := (K1.out.ext x2).cell
  clear f1
  go_wp2_with fail
  refine (HCL.out _ X2.out).mono ?_
  rintro e w3 ⟨A3, c3, rfl, own3, x3⟩
  clear g1
  obtain ⟨x4, k4⟩ := blks1 w3 #[.slice A3 R.start.length c3, .slice none 0 0, .slice none 0 0, .int .i64 0, .int .i64 0] 29
  have X3 := hide (ext_trans X2.out x3)
  have y4 := ext_trans x2 (ext_trans x3 x4)
  have r1 := (K1.out.ext y4).cell
  have K2 := hide ((k2.ext x2).ext x3)
  have HP3 := hide (HP.out.ext (ext_trans x2 x3))
  have I3 : Hid (∃ g3, A3 = some ⟨g3, 0, none⟩ ∧ IRow w3 g3 R.start) := hide (by obtain ⟨g, e, -, i, -⟩ := own_irow own3 rfl HST1.out; exact ⟨g, e, i⟩)
  have M3 := hide (own_cap own3)
  have N3 : Hid ((∀ b o, A3 = some ⟨b, o, none⟩ → b ≠ w.heap.size + 1) ∧ w.heap.size + 1 < w3.heap.size) := hide ⟨fun b o e => by have := own_from_base own3 b o e; have := k2.lt; have := x2.size; omega, by have := k2.lt; have := x2.size; have := x3.size; omega⟩
  have X4 := hide x4
  have HSZ : Hid ((w3.alloc (.cells #[.slice A3 R.start.length c3, .slice none 0 0, .slice none 0 0, .int .i64 0, .int .i64 0] 29)).heap.size = w3.heap.size + 1) := hide (by simp)
  clear x2 x3 x4 X2 HP own3 k2 y4 K1 HX
  go_wp2
  have K4 := hide k4
  clear k4 r1
  generalize w3.alloc (.cells #[.slice A3 R.start.length c3, .slice none 0 0, .slice none 0 0, .int .i64 0, .int .i64 0] 29) = w4 at *
  generalize hB5 : w3.heap.size = B5 at *
  have HB5 := hide hB5
  clear hB5
  generalize w.heap.size + 1 = B2 at *
  go_loopw [21] (fun i wr => ∃ (k : Nat) (v0 u0 : Value), k ≤ R.pieces.length ∧ i = .int .i64 k ∧ Blk wr B5 29 #[.slice A3 R.start.length c3, v0, u0, .int .i64 0, .int .i64 0] ∧ OwnI w4 wr v0 ((R.pieces.map (·.hand)).take k) ∧ OwnI w4 wr u0 ((R.pieces.map (·.hand)).take k) ∧ (∀ g, v0.ownBlock = some g → u0.ownBlock ≠ some g) ∧ Ext w3 wr) (fun i _ => R.pieces.length - (intOf i).toNat)
  case atStart => exact ⟨0, _, _, Nat.zero_le _, rfl, K4.out, OwnI.nil _ _, OwnI.nil _ _, fun g hg => by simp [Value.ownBlock] at hg, X4.out⟩
  case round =>
    obtain ⟨k, v0, u0, hk, rfl, hblk, ho, hu, hap, hext⟩ := hrel
    by_cases hlt : k < R.pieces.length
    · obtain ⟨p, hp⟩ : ∃ p, R.pieces[k]? = some p := ⟨R.pieces[k], List.getElem?_eq_getElem _⟩
      obtain ⟨b, o, wA, wc, rfl, c0, c1, c2, c3', -⟩ := (HP3.out.ext hext).get hp
      have HAP := hide hap
      have HO := hide ho
      have HU := hide hu
      have HEX := hide hext
      have HBL := hide hblk
      have HPP := hide hp
      clear hap ho hu hext hblk hp
      go_wp2
      obtain ⟨x5, k5⟩ := blks1 wr #[.int .u8 p.letter, .int .i64 p.hand, .int .i64 p.promote, .slice wA p.ways.length wc] 82
      have HXS : Hid ((R.pieces.map (·.hand)).take (k + 1) = (R.pieces.map (·.hand)).take k ++ [p.hand]) := hide (by
        rw [List.take_add_one, List.getElem?_map, HPP.out]; rfl)
      have HLN : ((R.pieces.map (·.hand)).take k).length ≤ 1000000 := by rw [List.length_take, List.length_map]; omega
      generalize (R.pieces.map (·.hand)).take k = xs at *
      have kb := HBL.out.ext x5
      have hb5 := HBL.out.lt
      have hsz := HSZ.out
      have b1 := HO.out.bd
      have b2 := HU.out.bd
      have HT0 : Two w4 (wr.alloc (.cells #[.int .u8 p.letter, .int .i64 p.hand, .int .i64 p.promote, .slice wA p.ways.length wc] 82)) (wr.alloc (.cells #[.int .u8 p.letter, .int .i64 p.hand, .int .i64 p.promote, .slice wA p.ways.length wc] 82)) v0 u0 v0 u0 xs xs :=
        ⟨by simp; omega, Below.refl _ _, Nat.le_refl _, fun _ _ _ _ => rfl, HO.out.ext x5, HU.out.ext x5, HAP.out, fun g hg => by have := b1 g hg; simp; omega, fun g hg => by have := b2 g hg; simp; omega, .inl rfl, .inl rfl⟩
      have N5 : wr.heap.size ≠ B5 := by omega
      have N50 : v0.ownBlock ≠ some B5 := fun h => by have := b1 _ h; omega
      have N51 : u0.ownBlock ≠ some B5 := fun h => by have := b2 _ h; omega
      have N70 : v0.ownBlock ≠ some wr.heap.size := fun h => by have := b1 _ h; omega
      have N71 : u0.ownBlock ≠ some wr.heap.size := fun h => by have := b2 _ h; omega
      have XE := hide (ext_trans HEX.out x5)
      generalize wr.alloc (.cells #[.int .u8 p.letter, .int .i64 p.hand, .int .i64 p.promote, .slice wA p.ways.length wc] 82) = w5 at *
      generalize wr.heap.size = B7 at *
      have HT := HT0.drew
      have q0 : w5.drew.cell? ⟨B7, 1, none⟩ = some (.int .i64 p.hand) := k5.cell 1
      have q1 : w5.drew.cell? ⟨B5, 1, none⟩ = some v0 := kb.cell 1
      have q2 : w5.drew.cell? ⟨B5, 2, none⟩ = some u0 := kb.cell 2
      have HK5 := hide k5
      have HKB := hide kb
      clear x5 k5 kb HT0 b1 b2 hb5 hsz
      refine region_K (fun W => W.cell? ⟨B7, 1, none⟩ = some (.int .i64 p.hand)) (fun W => W.cell? ⟨B5, 1, none⟩ = some v0 ∧ W.cell? ⟨B5, 2, none⟩ = some u0) [16, 19] (by kernel_rfl) ?_
      have hS0 := And.intro q1 q2
      refine anyK_take 0 rfl (by kernel_rfl) (by kernel_rfl) (by kernel_rfl) (by kernel_rfl) (fun _ _ _ h => h) (by rfl) q0 (fun _ => hS0) (v := ?_) (fun W hT => ?_) ?_
      rotate_left
      · go_simp
        first | done | with_reducible rfl
      try simp only [Act.put, List.setIfInBounds_toArray, List.set_cons_zero, List.set_cons_succ]
      refine anyK_take 1 rfl (by kernel_rfl) (by kernel_rfl) (by kernel_rfl) (by kernel_rfl) (fun _ _ _ h => h) (by rfl) q0 (fun _ => hS0) (v := ?_) (fun W hT => ?_) ?_
      rotate_left
      · go_simp
        first | done | with_reducible rfl
      try simp only [Act.put, List.setIfInBounds_toArray, List.set_cons_zero, List.set_cons_succ]
      refine anyK_take 3 rfl (by kernel_rfl) (by kernel_rfl) (by kernel_rfl) (by kernel_rfl) (fun _ _ _ h => h) (by rfl) q0 (fun _ => hS0) (v := ?_) (fun W hT => ?_) ?_
      rotate_left
      · go_simp
        first | done | with_reducible rfl
      try simp only [Act.put, List.setIfInBounds_toArray, List.set_cons_zero, List.set_cons_succ]
      refine anyK_take 4 rfl (by kernel_rfl) (by kernel_rfl) (by kernel_rfl) (by kernel_rfl) (fun _ _ _ h => h) (by rfl) q0 (fun _ => hS0) (v := ?_) (fun W hT => ?_) ?_
      rotate_left
      · go_simp
        first | done | with_reducible rfl
      try simp only [Act.put, List.setIfInBounds_toArray, List.set_cons_zero, List.set_cons_succ]
      refine anyK_take 7 rfl (by kernel_rfl) (by kernel_rfl) (by kernel_rfl) (by kernel_rfl) (fun _ _ _ h => h) (by rfl) q0 (fun _ => hS0) (v := ?_) (fun W hT => ?_) ?_
      rotate_left
      · go_simp
        first | done | with_reducible rfl
      try simp only [Act.put, List.setIfInBounds_toArray, List.set_cons_zero, List.set_cons_succ]
      refine anyK_take 8 rfl (by kernel_rfl) (by kernel_rfl) (by kernel_rfl) (by kernel_rfl) (fun _ _ _ h => h) (by rfl) q0 (fun _ => hS0) (v := ?_) (fun W hT => ?_) ?_
      rotate_left
      · go_simp
        first | done | with_reducible rfl
      try simp only [Act.put, List.setIfInBounds_toArray, List.set_cons_zero, List.set_cons_succ]
      refine anyK_take 10 rfl (by kernel_rfl) (by kernel_rfl) (by kernel_rfl) (by kernel_rfl) (fun _ _ _ h => h) (by rfl) q0 (fun _ => hS0) (v := ?_) (fun W hT => ?_) ?_
      rotate_left
      · go_simp
        first | done | with_reducible rfl
      try simp only [Act.put, List.setIfInBounds_toArray, List.set_cons_zero, List.set_cons_succ]
      refine anyK_take 11 rfl (by kernel_rfl) (by kernel_rfl) (by kernel_rfl) (by kernel_rfl) (fun _ _ _ h => h) (by rfl) q0 (fun _ => hS0) (v := ?_) (fun W hT => ?_) ?_
      rotate_left
      · go_simp
        first | done | with_reducible rfl
      try simp only [Act.put, List.setIfInBounds_toArray, List.set_cons_zero, List.set_cons_succ]
      refine anyK_take 14 rfl (by kernel_rfl) (by kernel_rfl) (by kernel_rfl) (by kernel_rfl) (fun _ _ _ h => h) (by rfl) q0 (fun _ => hS0) (v := ?_) (fun W hT => ?_) ?_
      rotate_left
      · go_simp
        first | done | with_reducible rfl
      try simp only [Act.put, List.setIfInBounds_toArray, List.set_cons_zero, List.set_cons_succ]
      refine anyK_take 17 rfl (by kernel_rfl) (by kernel_rfl) (by kernel_rfl) (by kernel_rfl) (fun _ _ _ h => h) (by rfl) q0 (fun _ => hS0) (v := ?_) (fun W hT => ?_) ?_
      rotate_left
      · go_simp
        first | done | with_reducible rfl
      try simp only [Act.put, List.setIfInBounds_toArray, List.set_cons_zero, List.set_cons_succ]
      refine anyK_load 2 rfl (by kernel_rfl) (by kernel_rfl) (by kernel_rfl) (by kernel_rfl) (by kernel_rfl) (by kernel_rfl) (fun _ _ _ h => h) (by rfl) q0 hS0 (v := ?_) (fun W hT hW => ?_) ?_
      rotate_left
      · obtain ⟨z1, z2⟩ := hW
        go_simp
        first | done | with_reducible rfl
      try simp only [Act.put, List.setIfInBounds_toArray, List.set_cons_zero, List.set_cons_succ]
      refine anyK_load 9 rfl (by kernel_rfl) (by kernel_rfl) (by kernel_rfl) (by kernel_rfl) (by kernel_rfl) (by kernel_rfl) (fun _ _ _ h => h) (by rfl) q0 hS0 (v := ?_) (fun W hT hW => ?_) ?_
      rotate_left
      · obtain ⟨z1, z2⟩ := hW
        go_simp
        first | done | with_reducible rfl
      try simp only [Act.put, List.setIfInBounds_toArray, List.set_cons_zero, List.set_cons_succ]
      refine anyK_on2 5 12 (by kernel_rfl) ?_ ?_
      · skip
        refine anyK_one 5 rfl (fun K hK => ?_)
        go_simp
        refine hK.out _ _ (Ext.cell (ext_alloc (Below.refl _ _) _) q0) (fun _ => (held_alloc hS0 _)) ?_
        clear hK K
        try simp only [Act.put, List.setIfInBounds_toArray, List.set_cons_zero, List.set_cons_succ]
        refine anyK_on2 6 12 (by kernel_rfl) ?_ ?_
        · skip
          refine anyK_one 6 rfl (fun K hK => ?_)
          refine step_two rfl (.tmp 27) (.tmp 30) rfl _ _ _ _ _ v0 _ _ _ p.hand _ rfl rfl (HT.alloc _) (Built.new HT p.hand _ (by simp) _) HLN (fun g1 cap1 w1 hT1 hB1 => ?_)
          have kb1 := hT1.blk HKB.out N50 N51
          have k51 := hT1.blk HK5.out N70 N71
          refine hK.out _ _ (k51.cell 1) (fun _ => ⟨kb1.cell 1, kb1.cell 2⟩) ?_
          clear hK K
          try simp only [Act.put, List.setIfInBounds_toArray, List.set_cons_zero, List.set_cons_succ]
          refine anyK_take 15 rfl (by kernel_rfl) (by kernel_rfl) (by kernel_rfl) (by kernel_rfl) (fun _ _ _ h => h) (by rfl) (k51.cell 1) (fun _ => (And.intro (kb1.cell 1) (kb1.cell 2))) (v := ?_) (fun W hT => ?_) ?_
          rotate_left
          · go_simp
            first | done | with_reducible rfl
          try simp only [Act.put, List.setIfInBounds_toArray, List.set_cons_zero, List.set_cons_succ]
          refine anyK_on1 12 (by kernel_rfl) ?_
          refine anyK_one 12 rfl (fun K hK => ?_)
          go_simp
          refine hK.out _ _ (Ext.cell (ext_alloc (Below.refl _ _) _) (k51.cell 1)) (fun _ => (held_alloc (And.intro (kb1.cell 1) (kb1.cell 2)) _)) ?_
          clear hK K
          try simp only [Act.put, List.setIfInBounds_toArray, List.set_cons_zero, List.set_cons_succ]
          refine anyK_on1 13 (by kernel_rfl) ?_
          refine anyK_one 13 rfl (fun K hK => ?_)
          refine step_two rfl (.tmp 34) (.tmp 37) rfl _ _ _ _ _ u0 _ _ _ p.hand _ rfl rfl (hT1.alloc _).swap (Built.swap (Built.new hT1 p.hand _ (by simp) _)) HLN (fun g2 cap2 w2' hT2 hB2 => ?_)
          have kb2 := hT2.blk HKB.out N51 N50
          have k52 := hT2.blk HK5.out N71 N70
          refine hK.out _ _ (k52.cell 1) (fun _ => ⟨kb2.cell 1, kb2.cell 2⟩) ?_
          clear hK K kb1 k51
          try simp only [Act.put, List.setIfInBounds_toArray, List.set_cons_zero, List.set_cons_succ]
          have q5 := kb2.cell
          have z5 := kb2.frozen
          have t5 := Blk.far k52 (p := ⟨B5, 1, none⟩) N5 (.slice (some ⟨g1, 0, none⟩) (xs.length + 1) cap1)
          have t6 := Blk.far t5 (p := ⟨B5, 2, none⟩) N5 (.slice (some ⟨g2, 0, none⟩) (xs.length + 1) cap2)
          refine anyK_on1 16 (by kernel_rfl) ?_
          refine anyK_one 16 rfl (fun K hK => ?_)
          go_simp
          refine hK.out _ _ (t5.cell 1) (fun h => by cases h) ?_
          clear hK K
          try simp only [Act.put, List.setIfInBounds_toArray, List.set_cons_zero, List.set_cons_succ]
          refine anyK_take 18 rfl (by kernel_rfl) (by kernel_rfl) (by kernel_rfl) (by kernel_rfl) (fun _ _ _ h => h) (by rfl) (t5.cell 1) (fun h => by cases h) (v := ?_) (fun W hT => ?_) ?_
          rotate_left
          · go_simp
            first | done | with_reducible rfl
          try simp only [Act.put, List.setIfInBounds_toArray, List.set_cons_zero, List.set_cons_succ]
          refine anyK_on1 19 (by kernel_rfl) ?_
          refine anyK_one 19 rfl (fun K hK => ?_)
          go_simp
          refine hK.out _ _ (t6.cell 1) (fun h => by cases h) ?_
          clear hK K
          try simp only [Act.put, List.setIfInBounds_toArray, List.set_cons_zero, List.set_cons_succ]
          refine anyK_done (by kernel_rfl) ?_ _
          have F1 := (hT2.two.set (p := ⟨B5, 1, none⟩) (fun h => by have := (hT2.two.bd _ h).1; have := HSZ.out; simp at *; omega) (.slice (some ⟨g1, 0, none⟩) (xs.length + 1) cap1)).set (p := ⟨B5, 2, none⟩) (fun h => by have := (hT2.two.bd _ h).1; have := HSZ.out; simp at *; omega) (.slice (some ⟨g2, 0, none⟩) (xs.length + 1) cap2)
          have F2 := (hT2.one.set (p := ⟨B5, 1, none⟩) (fun h => by have := (hT2.one.bd _ h).1; have := HSZ.out; simp at *; omega) (.slice (some ⟨g1, 0, none⟩) (xs.length + 1) cap1)).set (p := ⟨B5, 2, none⟩) (fun h => by have := (hT2.one.bd _ h).1; have := HSZ.out; simp at *; omega) (.slice (some ⟨g2, 0, none⟩) (xs.length + 1) cap2)
          have F3 := blk_put (blk_put kb2 (i := 1) (u := .slice (some ⟨g1, 0, none⟩) (xs.length + 1) cap1) rfl) (i := 2) (u := .slice (some ⟨g2, 0, none⟩) (xs.length + 1) cap2) rfl
          have F4 := ext_set (ext_set (Below.trans XE.out (Below.mono hT2.below (by have := HSZ.out; have := HB5.out; omega))) (p := ⟨B5, 1, none⟩) (by have := HB5.out; show w3.heap.size ≤ B5; omega) (.slice (some ⟨g1, 0, none⟩) (xs.length + 1) cap1)) (p := ⟨B5, 2, none⟩) (by have := HB5.out; show w3.heap.size ≤ B5; omega) (.slice (some ⟨g2, 0, none⟩) (xs.length + 1) cap2)
          have F5 := hide (fun g hg h => hT2.apart g h hg)
          have G1 := hide F1
          have G2 := hide F2
          have G3 := hide F3
          have G4 := hide F4
          clear F1 F2 F3 F4 q5 z5 t5 t6 kb2 k52 hT1 hT2 hB1 hB2 q0 q1 q2 hS0 HT HKB HK5 XE
          go_wp2
          go_roundw
          case rel => exact ⟨k + 1, _, _, by omega, by go_num, G3.out, by rw [HXS.out]; exact G1.out, by rw [HXS.out]; exact G2.out, F5.out, G4.out⟩
          case measure => simp [intOf]; omega
        · skip
          refine anyK_one 12 rfl (fun K hK => ?_)
          go_simp
          refine hK.out _ _ (Ext.cell (ext_alloc (Below.refl _ _) _) (Ext.cell (ext_alloc (Below.refl _ _) _) q0)) (fun _ => (held_alloc (held_alloc hS0 _) _)) ?_
          clear hK K
          try simp only [Act.put, List.setIfInBounds_toArray, List.set_cons_zero, List.set_cons_succ]
          refine anyK_on1 6 (by kernel_rfl) ?_
          refine anyK_one 6 rfl (fun K hK => ?_)
          refine step_two rfl (.tmp 27) (.tmp 30) rfl _ _ _ _ _ v0 _ _ _ p.hand _ rfl rfl ((HT.alloc _).alloc _) (Built.alloc (Built.new HT p.hand _ (by simp) _) _) HLN (fun g1 cap1 w1 hT1 hB1 => ?_)
          have kb1 := hT1.blk HKB.out N50 N51
          have k51 := hT1.blk HK5.out N70 N71
          refine hK.out _ _ (k51.cell 1) (fun _ => ⟨kb1.cell 1, kb1.cell 2⟩) ?_
          clear hK K
          try simp only [Act.put, List.setIfInBounds_toArray, List.set_cons_zero, List.set_cons_succ]
          refine anyK_take 15 rfl (by kernel_rfl) (by kernel_rfl) (by kernel_rfl) (by kernel_rfl) (fun _ _ _ h => h) (by rfl) (k51.cell 1) (fun _ => (And.intro (kb1.cell 1) (kb1.cell 2))) (v := ?_) (fun W hT => ?_) ?_
          rotate_left
          · go_simp
            first | done | with_reducible rfl
          try simp only [Act.put, List.setIfInBounds_toArray, List.set_cons_zero, List.set_cons_succ]
          refine anyK_on1 13 (by kernel_rfl) ?_
          refine anyK_one 13 rfl (fun K hK => ?_)
          refine step_two rfl (.tmp 34) (.tmp 37) rfl _ _ _ _ _ u0 _ _ _ p.hand _ rfl rfl hT1.swap (Built.swap (hB1 _ _ (Built.new (HT.alloc _) p.hand _ (by simp) _))) HLN (fun g2 cap2 w2' hT2 hB2 => ?_)
          have kb2 := hT2.blk HKB.out N51 N50
          have k52 := hT2.blk HK5.out N71 N70
          refine hK.out _ _ (k52.cell 1) (fun _ => ⟨kb2.cell 1, kb2.cell 2⟩) ?_
          clear hK K kb1 k51
          try simp only [Act.put, List.setIfInBounds_toArray, List.set_cons_zero, List.set_cons_succ]
          have q5 := kb2.cell
          have z5 := kb2.frozen
          have t5 := Blk.far k52 (p := ⟨B5, 1, none⟩) N5 (.slice (some ⟨g1, 0, none⟩) (xs.length + 1) cap1)
          have t6 := Blk.far t5 (p := ⟨B5, 2, none⟩) N5 (.slice (some ⟨g2, 0, none⟩) (xs.length + 1) cap2)
          refine anyK_on1 16 (by kernel_rfl) ?_
          refine anyK_one 16 rfl (fun K hK => ?_)
          go_simp
          refine hK.out _ _ (t5.cell 1) (fun h => by cases h) ?_
          clear hK K
          try simp only [Act.put, List.setIfInBounds_toArray, List.set_cons_zero, List.set_cons_succ]
          refine anyK_take 18 rfl (by kernel_rfl) (by kernel_rfl) (by kernel_rfl) (by kernel_rfl) (fun _ _ _ h => h) (by rfl) (t5.cell 1) (fun h => by cases h) (v := ?_) (fun W hT => ?_) ?_
          rotate_left
          · go_simp
            first | done | with_reducible rfl
          try simp only [Act.put, List.setIfInBounds_toArray, List.set_cons_zero, List.set_cons_succ]
          refine anyK_on1 19 (by kernel_rfl) ?_
          refine anyK_one 19 rfl (fun K hK => ?_)
          go_simp
          refine hK.out _ _ (t6.cell 1) (fun h => by cases h) ?_
          clear hK K
          try simp only [Act.put, List.setIfInBounds_toArray, List.set_cons_zero, List.set_cons_succ]
          refine anyK_done (by kernel_rfl) ?_ _
          have F1 := (hT2.two.set (p := ⟨B5, 1, none⟩) (fun h => by have := (hT2.two.bd _ h).1; have := HSZ.out; simp at *; omega) (.slice (some ⟨g1, 0, none⟩) (xs.length + 1) cap1)).set (p := ⟨B5, 2, none⟩) (fun h => by have := (hT2.two.bd _ h).1; have := HSZ.out; simp at *; omega) (.slice (some ⟨g2, 0, none⟩) (xs.length + 1) cap2)
          have F2 := (hT2.one.set (p := ⟨B5, 1, none⟩) (fun h => by have := (hT2.one.bd _ h).1; have := HSZ.out; simp at *; omega) (.slice (some ⟨g1, 0, none⟩) (xs.length + 1) cap1)).set (p := ⟨B5, 2, none⟩) (fun h => by have := (hT2.one.bd _ h).1; have := HSZ.out; simp at *; omega) (.slice (some ⟨g2, 0, none⟩) (xs.length + 1) cap2)
          have F3 := blk_put (blk_put kb2 (i := 1) (u := .slice (some ⟨g1, 0, none⟩) (xs.length + 1) cap1) rfl) (i := 2) (u := .slice (some ⟨g2, 0, none⟩) (xs.length + 1) cap2) rfl
          have F4 := ext_set (ext_set (Below.trans XE.out (Below.mono hT2.below (by have := HSZ.out; have := HB5.out; omega))) (p := ⟨B5, 1, none⟩) (by have := HB5.out; show w3.heap.size ≤ B5; omega) (.slice (some ⟨g1, 0, none⟩) (xs.length + 1) cap1)) (p := ⟨B5, 2, none⟩) (by have := HB5.out; show w3.heap.size ≤ B5; omega) (.slice (some ⟨g2, 0, none⟩) (xs.length + 1) cap2)
          have F5 := hide (fun g hg h => hT2.apart g h hg)
          have G1 := hide F1
          have G2 := hide F2
          have G3 := hide F3
          have G4 := hide F4
          clear F1 F2 F3 F4 q5 z5 t5 t6 kb2 k52 hT1 hT2 hB1 hB2 q0 q1 q2 hS0 HT HKB HK5 XE
          go_wp2
          go_roundw
          case rel => exact ⟨k + 1, _, _, by omega, by go_num, G3.out, by rw [HXS.out]; exact G1.out, by rw [HXS.out]; exact G2.out, F5.out, G4.out⟩
          case measure => simp [intOf]; omega
      · skip
        refine anyK_one 12 rfl (fun K hK => ?_)
        go_simp
        refine hK.out _ _ (Ext.cell (ext_alloc (Below.refl _ _) _) q0) (fun _ => (held_alloc hS0 _)) ?_
        clear hK K
        try simp only [Act.put, List.setIfInBounds_toArray, List.set_cons_zero, List.set_cons_succ]
        refine anyK_on1 5 (by kernel_rfl) ?_
        refine anyK_one 5 rfl (fun K hK => ?_)
        go_simp
        refine hK.out _ _ (Ext.cell (ext_alloc (Below.refl _ _) _) (Ext.cell (ext_alloc (Below.refl _ _) _) q0)) (fun _ => (held_alloc (held_alloc hS0 _) _)) ?_
        clear hK K
        try simp only [Act.put, List.setIfInBounds_toArray, List.set_cons_zero, List.set_cons_succ]
        refine anyK_on1 6 (by kernel_rfl) ?_
        refine anyK_one 6 rfl (fun K hK => ?_)
        refine step_two rfl (.tmp 27) (.tmp 30) rfl _ _ _ _ _ v0 _ _ _ p.hand _ rfl rfl ((HT.alloc _).alloc _) (Built.new (HT.alloc _) p.hand _ (by simp) _) HLN (fun g1 cap1 w1 hT1 hB1 => ?_)
        have kb1 := hT1.blk HKB.out N50 N51
        have k51 := hT1.blk HK5.out N70 N71
        refine hK.out _ _ (k51.cell 1) (fun _ => ⟨kb1.cell 1, kb1.cell 2⟩) ?_
        clear hK K
        try simp only [Act.put, List.setIfInBounds_toArray, List.set_cons_zero, List.set_cons_succ]
        refine anyK_take 15 rfl (by kernel_rfl) (by kernel_rfl) (by kernel_rfl) (by kernel_rfl) (fun _ _ _ h => h) (by rfl) (k51.cell 1) (fun _ => (And.intro (kb1.cell 1) (kb1.cell 2))) (v := ?_) (fun W hT => ?_) ?_
        rotate_left
        · go_simp
          first | done | with_reducible rfl
        try simp only [Act.put, List.setIfInBounds_toArray, List.set_cons_zero, List.set_cons_succ]
        refine anyK_on1 13 (by kernel_rfl) ?_
        refine anyK_one 13 rfl (fun K hK => ?_)
        refine step_two rfl (.tmp 34) (.tmp 37) rfl _ _ _ _ _ u0 _ _ _ p.hand _ rfl rfl hT1.swap (Built.swap (hB1 _ _ (Built.alloc (Built.new HT p.hand _ (by simp) _) _))) HLN (fun g2 cap2 w2' hT2 hB2 => ?_)
        have kb2 := hT2.blk HKB.out N51 N50
        have k52 := hT2.blk HK5.out N71 N70
        refine hK.out _ _ (k52.cell 1) (fun _ => ⟨kb2.cell 1, kb2.cell 2⟩) ?_
        clear hK K kb1 k51
        try simp only [Act.put, List.setIfInBounds_toArray, List.set_cons_zero, List.set_cons_succ]
        have q5 := kb2.cell
        have z5 := kb2.frozen
        have t5 := Blk.far k52 (p := ⟨B5, 1, none⟩) N5 (.slice (some ⟨g1, 0, none⟩) (xs.length + 1) cap1)
        have t6 := Blk.far t5 (p := ⟨B5, 2, none⟩) N5 (.slice (some ⟨g2, 0, none⟩) (xs.length + 1) cap2)
        refine anyK_on1 16 (by kernel_rfl) ?_
        refine anyK_one 16 rfl (fun K hK => ?_)
        go_simp
        refine hK.out _ _ (t5.cell 1) (fun h => by cases h) ?_
        clear hK K
        try simp only [Act.put, List.setIfInBounds_toArray, List.set_cons_zero, List.set_cons_succ]
        refine anyK_take 18 rfl (by kernel_rfl) (by kernel_rfl) (by kernel_rfl) (by kernel_rfl) (fun _ _ _ h => h) (by rfl) (t5.cell 1) (fun h => by cases h) (v := ?_) (fun W hT => ?_) ?_
        rotate_left
        · go_simp
          first | done | with_reducible rfl
        try simp only [Act.put, List.setIfInBounds_toArray, List.set_cons_zero, List.set_cons_succ]
        refine anyK_on1 19 (by kernel_rfl) ?_
        refine anyK_one 19 rfl (fun K hK => ?_)
        go_simp
        refine hK.out _ _ (t6.cell 1) (fun h => by cases h) ?_
        clear hK K
        try simp only [Act.put, List.setIfInBounds_toArray, List.set_cons_zero, List.set_cons_succ]
        refine anyK_done (by kernel_rfl) ?_ _
        have F1 := (hT2.two.set (p := ⟨B5, 1, none⟩) (fun h => by have := (hT2.two.bd _ h).1; have := HSZ.out; simp at *; omega) (.slice (some ⟨g1, 0, none⟩) (xs.length + 1) cap1)).set (p := ⟨B5, 2, none⟩) (fun h => by have := (hT2.two.bd _ h).1; have := HSZ.out; simp at *; omega) (.slice (some ⟨g2, 0, none⟩) (xs.length + 1) cap2)
        have F2 := (hT2.one.set (p := ⟨B5, 1, none⟩) (fun h => by have := (hT2.one.bd _ h).1; have := HSZ.out; simp at *; omega) (.slice (some ⟨g1, 0, none⟩) (xs.length + 1) cap1)).set (p := ⟨B5, 2, none⟩) (fun h => by have := (hT2.one.bd _ h).1; have := HSZ.out; simp at *; omega) (.slice (some ⟨g2, 0, none⟩) (xs.length + 1) cap2)
        have F3 := blk_put (blk_put kb2 (i := 1) (u := .slice (some ⟨g1, 0, none⟩) (xs.length + 1) cap1) rfl) (i := 2) (u := .slice (some ⟨g2, 0, none⟩) (xs.length + 1) cap2) rfl
        have F4 := ext_set (ext_set (Below.trans XE.out (Below.mono hT2.below (by have := HSZ.out; have := HB5.out; omega))) (p := ⟨B5, 1, none⟩) (by have := HB5.out; show w3.heap.size ≤ B5; omega) (.slice (some ⟨g1, 0, none⟩) (xs.length + 1) cap1)) (p := ⟨B5, 2, none⟩) (by have := HB5.out; show w3.heap.size ≤ B5; omega) (.slice (some ⟨g2, 0, none⟩) (xs.length + 1) cap2)
        have F5 := hide (fun g hg h => hT2.apart g h hg)
        have G1 := hide F1
        have G2 := hide F2
        have G3 := hide F3
        have G4 := hide F4
        clear F1 F2 F3 F4 q5 z5 t5 t6 kb2 k52 hT1 hT2 hB1 hB2 q0 q1 q2 hS0 HT HKB HK5 XE
        go_wp2
        go_roundw
        case rel => exact ⟨k + 1, _, _, by omega, by go_num, G3.out, by rw [HXS.out]; exact G1.out, by rw [HXS.out]; exact G2.out, F5.out, G4.out⟩
        case measure => simp [intOf]; omega
    · obtain rfl : k = R.pieces.length := by omega
      have HXS : Hid ((R.pieces.map (·.hand)).take R.pieces.length = R.pieces.map (·.hand)) := hide (List.take_of_length_le (by simp))
      have ho' : OwnI w4 wr v0 (R.pieces.map (·.hand)) := by rw [← HXS.out]; exact ho
      have hu' : OwnI w4 wr u0 (R.pieces.map (·.hand)) := by rw [← HXS.out]; exact hu
      have b1 := ho'.bd
      have b2 := hu'.bd
      obtain ⟨A1, c1, rfl, g1⟩ := ho'
      obtain ⟨A2, c2, rfl, g2⟩ := hu'
      have e1 : ∃ g, A1 = some ⟨g, 0, none⟩ ∧ IRow wr g (R.pieces.map (·.hand)) := by obtain ⟨g, e, -, i, -⟩ := own_irow g1 rfl (by rw [List.length_map]; exact HPS1.out); exact ⟨g, e, i⟩
      have e2 : ∃ g, A2 = some ⟨g, 0, none⟩ ∧ IRow wr g (R.pieces.map (·.hand)) := by obtain ⟨g, e, -, i, -⟩ := own_irow g2 rfl (by rw [List.length_map]; exact HPS1.out); exact ⟨g, e, i⟩
      have n1 := own_cap g1
      have N1 : Hid ((∀ b o, A1 = some ⟨b, o, none⟩ → b ≠ B2) ∧ (∀ b o, A2 = some ⟨b, o, none⟩ → b ≠ B2)) := hide ⟨fun b o e => by have := own_from_base g1 b o e; have := HSZ.out; have := HB5.out; have := N3.out.2; omega, fun b o e => by have := own_from_base g2 b o e; have := HSZ.out; have := HB5.out; have := N3.out.2; omega⟩
      have n2 := own_cap g2
      have e0 : ∃ g, A3 = some ⟨g, 0, none⟩ ∧ IRow wr g R.start := by obtain ⟨g, e, i⟩ := I3.out; exact ⟨g, e, i.ext hext⟩
      have k2 := K2.out.ext hext
      have y3 := ext_trans X3.out hext
      have HB2 : Hid (w.heap.size ≤ B2) := hide HB2'.out
      simp only [List.length_map] at g1 g2 n1 n2 hblk ⊢
      have E := hide (And.intro e0 (And.intro e1 e2))
      have M := hide (And.intro n1 n2)
      have f5 := hblk.cell
      have f2 := k2.cell
      have z2 := k2.frozen
      clear e0 e1 e2 n1 n2 g1 g2 ho hu hap hext b1 b2 hblk HB5 HSZ K4 X4 HP3 I3 X3 K2
      go_wp2
      have K := blk_set5 k2 (u0 := .slice A3 R.start.length c3) (u1 := .slice A1 R.pieces.length c1) (u2 := .slice A2 R.pieces.length c2) (u3 := .int .i64 0) (u4 := .int .i64 0)
      have X := (ext_set (ext_set (ext_set (ext_set (ext_set y3 (p := ⟨B2, 0, none⟩) HB2.out (.slice A3 R.start.length c3)) (p := ⟨B2, 1, none⟩) HB2.out (.slice A1 R.pieces.length c1)) (p := ⟨B2, 2, none⟩) HB2.out (.slice A2 R.pieces.length c2)) (p := ⟨B2, 3, none⟩) HB2.out (.int .i64 0)) (p := ⟨B2, 4, none⟩) HB2.out (.int .i64 0))
      have FE := fun (a : Option Addr) (zs : List Int) (h : ∃ g, a = some ⟨g, 0, none⟩ ∧ IRow wr g zs) (hn : ∀ b o, a = some ⟨b, o, none⟩ → b ≠ B2) => (by obtain ⟨g, e, i⟩ := h; have hg := hn _ _ e; exact ⟨g, e, irow_far5 i hg⟩ : ∃ g, a = some ⟨g, 0, none⟩ ∧ IRow ((((((wr.setCell ⟨B2, 0, none⟩ (.slice A3 R.start.length c3)).setCell ⟨B2, 1, none⟩ (.slice A1 R.pieces.length c1)).setCell ⟨B2, 2, none⟩ (.slice A2 R.pieces.length c2)).setCell ⟨B2, 3, none⟩ (.int .i64 0)).setCell ⟨B2, 4, none⟩ (.int .i64 0))) g zs)
      generalize (((((wr.setCell ⟨B2, 0, none⟩ (.slice A3 R.start.length c3)).setCell ⟨B2, 1, none⟩ (.slice A1 R.pieces.length c1)).setCell ⟨B2, 2, none⟩ (.slice A2 R.pieces.length c2)).setCell ⟨B2, 3, none⟩ (.int .i64 0)).setCell ⟨B2, 4, none⟩ (.int .i64 0)) = Wf at *
      have rr0 : Wf.cell? ⟨B2, 0, none⟩ = some (.slice A3 R.start.length c3) := K.cell 0
      have rr1 : Wf.cell? ⟨B2, 1, none⟩ = some (.slice A1 R.pieces.length c1) := K.cell 1
      have rr2 : Wf.cell? ⟨B2, 2, none⟩ = some (.slice A2 R.pieces.length c2) := K.cell 2
      have rr3 : Wf.cell? ⟨B2, 3, none⟩ = some (.int .i64 0) := K.cell 3
      have rr4 : Wf.cell? ⟨B2, 4, none⟩ = some (.int .i64 0) := K.cell 4
      refine bodyPost_ret (v := .tuple #[.agg #[.slice A3 R.start.length c3, .slice A1 R.pieces.length c1, .slice A2 R.pieces.length c2, .int .i64 0, .int .i64 0], .int .i64 0]) ?_ rfl ?_
      · simp [results, Try.results53, go_sem, rr0, rr1, rr2, rr3, rr4]
      · obtain ⟨a0, rfl, i0⟩ := FE _ _ E.out.1 N3.out.1
        obtain ⟨a1, rfl, i1⟩ := FE _ _ E.out.2.1 N1.out.1
        obtain ⟨a2, rfl, i2⟩ := FE _ _ E.out.2.2 N1.out.2
        exact ⟨_, rfl, ⟨a0, c3, a1, c1, a2, c2, by simp [beginP], i0, i1, i2, M3.out, by simp [beginP]; exact M.out.1, by simp [beginP]; exact M.out.2⟩, X⟩
end Go.Proofs.Ytmofipijjokjfaa
namespace Go.Proofs.Ytmofipijjokjfaa
open Go.ChangeShapes Go.WideShapes Go.ChangeAt Go.RowKit Go.Shelf
set_option linter.unusedVariables false
set_option linter.unusedSimpArgs false
theorem OwnP.form {w0 w : World} {l : Value} {ps : List PosM} {P : PosM} (h : OwnP w0 w l (ps ++ [P])) : ∃ g cap, l = .slice (some ⟨g, 0, none⟩) (ps.length + 1) cap ∧ ps.length + 1 ≤ cap := by
  obtain ⟨A, c, vss, rfl, o, -⟩ := h
  obtain ⟨g, cap, e, -, -⟩ := World.ownsRow.form o (by simp)
  have hc := own_cap o
  simp only [Value.slice.injEq] at e
  obtain ⟨rfl, -, rfl⟩ := e
  simp only [List.length_append, List.length_cons, List.length_nil, Nat.zero_add] at hc
  exact ⟨g, c, by simp, hc⟩
theorem OwnM.form {w0 w : World} {l : Value} {ms : List MoveM} {m : MoveM} (h : OwnM w0 w l (ms ++ [m])) : ∃ g cap, l = .slice (some ⟨g, 0, none⟩) (ms.length + 1) cap ∧ ms.length + 1 ≤ cap := by
  obtain ⟨A, c, rfl, o⟩ := h
  obtain ⟨g, cap, e, -, -⟩ := World.ownsRow.form o (by simp)
  have hc := own_cap o
  simp only [Value.slice.injEq] at e
  obtain ⟨rfl, -, rfl⟩ := e
  simp only [List.length_append, List.length_cons, List.length_nil, Nat.zero_add] at hc
  exact ⟨g, c, by simp, hc⟩
set_option maxHeartbeats 4000000 in
set_option maxRecDepth 100000 in
theorem Back_no {w0 wa : World} {BG : Nat} {R : RulesM} {ps : List PosM} {ms : List MoveM} (hG : GameAt w0 wa BG R ps []) :
    Calls Try.prog 38 #[.pointer (some ⟨BG, 0, none⟩)] wa fun e w' => e = .returned (.int .i64 8) ∧ Ext wa w' := by
  obtain ⟨pA, pc, sA, sc, eA, ec, base, l, m, h1, -, -, h4, -, -⟩ := hG
  obtain ⟨mA, mc, rfl, -⟩ := h4
  have f := h1.cell
  clear h1
  simp only [List.length_nil] at f
  go_enter Try.func38, Try.ntmps38
  go_wp2
  go_ret
  exact ⟨rfl, Below.refl _ _⟩
set_option maxHeartbeats 4000000 in
set_option maxRecDepth 100000 in
theorem Back_yes {w0 wa : World} {BG : Nat} {R : RulesM} {ps : List PosM} {ms : List MoveM} {P : PosM} {mv : MoveM} (hG : GameAt w0 wa BG R (ps ++ [P]) (ms ++ [mv])) (hl : ps.length ≤ 100000) (hlm : ms.length ≤ 100000) :
    Calls Try.prog 38 #[.pointer (some ⟨BG, 0, none⟩)] wa (fun e w' => e = .returned (.int .i64 0) ∧ GameAt w0 w' BG R ps ms) := by
  obtain ⟨pA, pc, sA, sc, eA, ec, base, l, m, h1, h2, h3, h4, h5, h6⟩ := hG
  obtain ⟨gl, lc, rfl, hlc⟩ := h3.form
  obtain ⟨gm, mc, rfl, hmc⟩ := h4.form
  have HP := hide h3.pop
  have HM := hide h4.pop
  have H2 := hide h2
  have H56 := hide (And.intro h5 h6)
  have KG := hide h1
  have hwl : IntKind.i64.wrap (((ps.length + 1 : Nat) : Int) - 1) = (ps.length : Int) := by rw [IntKind.wrap_i64]; omega
  have hwm : IntKind.i64.wrap (((ms.length + 1 : Nat) : Int) - 1) = (ms.length : Int) := by rw [IntKind.wrap_i64]; omega
  have hwl2 : IntKind.i64.wrap ((ps.length : Int) + 1 - 1) = (ps.length : Int) := by rw [IntKind.wrap_i64]; omega
  have hwm2 : IntKind.i64.wrap ((ms.length : Int) + 1 - 1) = (ms.length : Int) := by rw [IntKind.wrap_i64]; omega
  have hwl3 : IntKind.i64.wrap (ps.length : Int) = (ps.length : Int) := by rw [IntKind.wrap_i64]; omega
  have hwm3 : IntKind.i64.wrap (ms.length : Int) = (ms.length : Int) := by rw [IntKind.wrap_i64]; omega
  have i0 : (0 : Int) ≤ (ps.length : Int) := by omega
  have i1 : (ps.length : Int) ≤ (lc : Int) := by omega
  have i2 : (0 : Int) ≤ (ms.length : Int) := by omega
  have i3 : (ms.length : Int) ≤ (mc : Int) := by omega
  have i4 : ps.length ≤ lc := by omega
  have i5 : ms.length ≤ mc := by omega
  have tz : (((ms.length + 1 : Nat) : Int) == 0) = false := by simp; omega
  have tz2 : ((ms.length : Int) + 1 == 0) = false := by simp; omega
  have f := h1.cell
  clear h1 h2 h3 h4 h5 h6
  go_enter Try.func38, Try.ntmps38
  go_upto_region 3 with fail
  clear f
  have zz : Ext wa wa.drew := Below.drew (Below.refl _ _)
  have ss := KG.out.ext zz
  have keepK := hide (fun W (h : ∃ lv mv, Blk W BG 109 #[.string R.name, .int .i64 R.width, .int .i64 R.height, .slice pA R.pieces.length pc, .slice sA R.start.length sc, .bool R.falls, .bool R.keeps, .slice eA R.ends.length ec, .int .i64 R.blocked, .int .i64 R.quiet, .int .i64 R.rept, lv, mv]) => (show (fun W => ∃ lv mv, Blk W BG 109 #[.string R.name, .int .i64 R.width, .int .i64 R.height, .slice pA R.pieces.length pc, .slice sA R.start.length sc, .bool R.falls, .bool R.keeps, .slice eA R.ends.length ec, .int .i64 R.blocked, .int .i64 R.quiet, .int .i64 R.rept, lv, mv]) W from h))
  have yy := (⟨_, _, KG.out.ext zz⟩ : (fun W => ∃ lv mv, Blk W BG 109 #[.string R.name, .int .i64 R.width, .int .i64 R.height, .slice pA R.pieces.length pc, .slice sA R.start.length sc, .bool R.falls, .bool R.keeps, .slice eA R.ends.length ec, .int .i64 R.blocked, .int .i64 R.quiet, .int .i64 R.rept, lv, mv]) wa.drew)
  refine region_K (fun W => ∃ lv mv, Blk W BG 109 #[.string R.name, .int .i64 R.width, .int .i64 R.height, .slice pA R.pieces.length pc, .slice sA R.start.length sc, .bool R.falls, .bool R.keeps, .slice eA R.ends.length ec, .int .i64 R.blocked, .int .i64 R.quiet, .int .i64 R.rept, lv, mv]) (fun W => W.cell? ⟨BG, 11, none⟩ = some (.slice (some ⟨gl, 0, none⟩) (ps.length + 1) lc) ∧ W.cell? ⟨BG, 12, none⟩ = some (.slice (some ⟨gm, 0, none⟩) (ms.length + 1) mc)) [26, 29] (by kernel_rfl) ?_
  have hS0 := And.intro (ss.cell 11) (ss.cell 12)
  have hT0 := keepK.out _ yy
  refine anyK_take 0 (oi := ?oo1) ?ho1 (by kernel_rfl) (by kernel_rfl) (by kernel_rfl) (by kernel_rfl) ?hq1 ?hw1 hT0 (fun _ => hS0) (v := ?vv1) ?hy1 ?hk1
  case ho1 => (simp only [List.getElem?_toArray, List.getElem?_cons_succ, List.getElem?_cons_zero]; rfl)
  case hq1 => exact fun _ _ _ h => h
  case hw1 => rfl
  case hy1 =>
    intro W hW
    go_simp
    first | done | with_reducible rfl
  case hk1 =>
  try simp only [Act.put, List.setIfInBounds_toArray, List.set_cons_zero, List.set_cons_succ]
  refine anyK_take 1 (oi := ?oo2) ?ho2 (by kernel_rfl) (by kernel_rfl) (by kernel_rfl) (by kernel_rfl) ?hq2 ?hw2 hT0 (fun _ => hS0) (v := ?vv2) ?hy2 ?hk2
  case ho2 => (simp only [List.getElem?_toArray, List.getElem?_cons_succ, List.getElem?_cons_zero]; rfl)
  case hq2 => exact fun _ _ _ h => h
  case hw2 => rfl
  case hy2 =>
    intro W hW
    go_simp
    first | done | with_reducible rfl
  case hk2 =>
  try simp only [Act.put, List.setIfInBounds_toArray, List.set_cons_zero, List.set_cons_succ]
  refine anyK_take 2 (oi := ?oo3) ?ho3 (by kernel_rfl) (by kernel_rfl) (by kernel_rfl) (by kernel_rfl) ?hq3 ?hw3 hT0 (fun _ => hS0) (v := ?vv3) ?hy3 ?hk3
  case ho3 => (simp only [List.getElem?_toArray, List.getElem?_cons_succ, List.getElem?_cons_zero]; rfl)
  case hq3 => exact fun _ _ _ h => h
  case hw3 => rfl
  case hy3 =>
    intro W hW
    go_simp
    first | done | with_reducible rfl
  case hk3 =>
  try simp only [Act.put, List.setIfInBounds_toArray, List.set_cons_zero, List.set_cons_succ]
  refine anyK_take 3 (oi := ?oo4) ?ho4 (by kernel_rfl) (by kernel_rfl) (by kernel_rfl) (by kernel_rfl) ?hq4 ?hw4 hT0 (fun _ => hS0) (v := ?vv4) ?hy4 ?hk4
  case ho4 => (simp only [List.getElem?_toArray, List.getElem?_cons_succ, List.getElem?_cons_zero]; rfl)
  case hq4 => exact fun _ _ _ h => h
  case hw4 => rfl
  case hy4 =>
    intro W hW
    go_simp
    first | done | with_reducible rfl
  case hk4 =>
  try simp only [Act.put, List.setIfInBounds_toArray, List.set_cons_zero, List.set_cons_succ]
  refine anyK_take 4 (oi := ?oo5) ?ho5 (by kernel_rfl) (by kernel_rfl) (by kernel_rfl) (by kernel_rfl) ?hq5 ?hw5 hT0 (fun _ => hS0) (v := ?vv5) ?hy5 ?hk5
  case ho5 => (simp only [List.getElem?_toArray, List.getElem?_cons_succ, List.getElem?_cons_zero]; rfl)
  case hq5 => exact fun _ _ _ h => h
  case hw5 => rfl
  case hy5 =>
    intro W hW
    go_simp
    first | done | with_reducible rfl
  case hk5 =>
  try simp only [Act.put, List.setIfInBounds_toArray, List.set_cons_zero, List.set_cons_succ]
  refine anyK_load 5 (oi := ?oo6) ?ho6 (by kernel_rfl) (by kernel_rfl) (by kernel_rfl) (by kernel_rfl) (by kernel_rfl) (by kernel_rfl) ?hq6 ?hw6 hT0 hS0 (v := ?vv6) ?hy6 ?hk6
  case ho6 => (simp only [List.getElem?_toArray, List.getElem?_cons_succ, List.getElem?_cons_zero]; rfl)
  case hq6 => exact fun _ _ _ h => h
  case hw6 => rfl
  case hy6 =>
    intro W hW1 hW
    obtain ⟨y0, y1⟩ := hW
    go_simp
    first | done | with_reducible rfl
  case hk6 =>
  try simp only [Act.put, List.setIfInBounds_toArray, List.set_cons_zero, List.set_cons_succ]
  refine anyK_take 6 (oi := ?oo7) ?ho7 (by kernel_rfl) (by kernel_rfl) (by kernel_rfl) (by kernel_rfl) ?hq7 ?hw7 hT0 (fun _ => hS0) (v := ?vv7) ?hy7 ?hk7
  case ho7 => (simp only [List.getElem?_toArray, List.getElem?_cons_succ, List.getElem?_cons_zero]; rfl)
  case hq7 => exact fun _ _ _ h => h
  case hw7 => rfl
  case hy7 =>
    intro W hW
    go_simp
    first | done | with_reducible rfl
  case hk7 =>
  try simp only [Act.put, List.setIfInBounds_toArray, List.set_cons_zero, List.set_cons_succ]
  refine anyK_take 7 (oi := ?oo8) ?ho8 (by kernel_rfl) (by kernel_rfl) (by kernel_rfl) (by kernel_rfl) ?hq8 ?hw8 hT0 (fun _ => hS0) (v := ?vv8) ?hy8 ?hk8
  case ho8 => (simp only [List.getElem?_toArray, List.getElem?_cons_succ, List.getElem?_cons_zero]; rfl)
  case hq8 => exact fun _ _ _ h => h
  case hw8 => rfl
  case hy8 =>
    intro W hW
    go_simp
    first | done | with_reducible rfl
  case hk8 =>
  try simp only [Act.put, List.setIfInBounds_toArray, List.set_cons_zero, List.set_cons_succ]
  refine anyK_take 8 (oi := ?oo9) ?ho9 (by kernel_rfl) (by kernel_rfl) (by kernel_rfl) (by kernel_rfl) ?hq9 ?hw9 hT0 (fun _ => hS0) (v := ?vv9) ?hy9 ?hk9
  case ho9 => (simp only [List.getElem?_toArray, List.getElem?_cons_succ, List.getElem?_cons_zero]; rfl)
  case hq9 => exact fun _ _ _ h => h
  case hw9 => rfl
  case hy9 =>
    intro W hW
    go_simp
    first | done | with_reducible rfl
  case hk9 =>
  try simp only [Act.put, List.setIfInBounds_toArray, List.set_cons_zero, List.set_cons_succ]
  refine anyK_load 9 (oi := ?oo10) ?ho10 (by kernel_rfl) (by kernel_rfl) (by kernel_rfl) (by kernel_rfl) (by kernel_rfl) (by kernel_rfl) ?hq10 ?hw10 hT0 hS0 (v := ?vv10) ?hy10 ?hk10
  case ho10 => (simp only [List.getElem?_toArray, List.getElem?_cons_succ, List.getElem?_cons_zero]; rfl)
  case hq10 => exact fun _ _ _ h => h
  case hw10 => rfl
  case hy10 =>
    intro W hW1 hW
    obtain ⟨y0, y1⟩ := hW
    go_simp
    first | done | with_reducible rfl
  case hk10 =>
  try simp only [Act.put, List.setIfInBounds_toArray, List.set_cons_zero, List.set_cons_succ]
  refine anyK_take 10 (oi := ?oo11) ?ho11 (by kernel_rfl) (by kernel_rfl) (by kernel_rfl) (by kernel_rfl) ?hq11 ?hw11 hT0 (fun _ => hS0) (v := ?vv11) ?hy11 ?hk11
  case ho11 => (simp only [List.getElem?_toArray, List.getElem?_cons_succ, List.getElem?_cons_zero]; rfl)
  case hq11 => exact fun _ _ _ h => h
  case hw11 => rfl
  case hy11 =>
    intro W hW
    go_simp
    first | done | with_reducible rfl
  case hk11 =>
  try simp only [Act.put, List.setIfInBounds_toArray, List.set_cons_zero, List.set_cons_succ]
  refine anyK_take 11 (oi := ?oo12) ?ho12 (by kernel_rfl) (by kernel_rfl) (by kernel_rfl) (by kernel_rfl) ?hq12 ?hw12 hT0 (fun _ => hS0) (v := ?vv12) ?hy12 ?hk12
  case ho12 => (simp only [List.getElem?_toArray, List.getElem?_cons_succ, List.getElem?_cons_zero]; rfl)
  case hq12 => exact fun _ _ _ h => h
  case hw12 => rfl
  case hy12 =>
    intro W hW
    go_simp
    first | done | with_reducible rfl
  case hk12 =>
  try simp only [Act.put, List.setIfInBounds_toArray, List.set_cons_zero, List.set_cons_succ]
  refine anyK_take 12 (oi := ?oo13) ?ho13 (by kernel_rfl) (by kernel_rfl) (by kernel_rfl) (by kernel_rfl) ?hq13 ?hw13 hT0 (fun _ => hS0) (v := ?vv13) ?hy13 ?hk13
  case ho13 => (simp only [List.getElem?_toArray, List.getElem?_cons_succ, List.getElem?_cons_zero]; rfl)
  case hq13 => exact fun _ _ _ h => h
  case hw13 => rfl
  case hy13 =>
    intro W hW
    go_simp
    first | done | with_reducible rfl
  case hk13 =>
  try simp only [Act.put, List.setIfInBounds_toArray, List.set_cons_zero, List.set_cons_succ]
  refine anyK_take 13 (oi := ?oo14) ?ho14 (by kernel_rfl) (by kernel_rfl) (by kernel_rfl) (by kernel_rfl) ?hq14 ?hw14 hT0 (fun _ => hS0) (v := ?vv14) ?hy14 ?hk14
  case ho14 => (simp only [List.getElem?_toArray, List.getElem?_cons_succ, List.getElem?_cons_zero]; rfl)
  case hq14 => exact fun _ _ _ h => h
  case hw14 => rfl
  case hy14 =>
    intro W hW
    go_simp
    first | done | with_reducible rfl
  case hk14 =>
  try simp only [Act.put, List.setIfInBounds_toArray, List.set_cons_zero, List.set_cons_succ]
  refine anyK_take 14 (oi := ?oo15) ?ho15 (by kernel_rfl) (by kernel_rfl) (by kernel_rfl) (by kernel_rfl) ?hq15 ?hw15 hT0 (fun _ => hS0) (v := ?vv15) ?hy15 ?hk15
  case ho15 => (simp only [List.getElem?_toArray, List.getElem?_cons_succ, List.getElem?_cons_zero]; rfl)
  case hq15 => exact fun _ _ _ h => h
  case hw15 => rfl
  case hy15 =>
    intro W hW
    go_simp
    first | done | with_reducible rfl
  case hk15 =>
  try simp only [Act.put, List.setIfInBounds_toArray, List.set_cons_zero, List.set_cons_succ]
  refine anyK_take 15 (oi := ?oo16) ?ho16 (by kernel_rfl) (by kernel_rfl) (by kernel_rfl) (by kernel_rfl) ?hq16 ?hw16 hT0 (fun _ => hS0) (v := ?vv16) ?hy16 ?hk16
  case ho16 => (simp only [List.getElem?_toArray, List.getElem?_cons_succ, List.getElem?_cons_zero]; rfl)
  case hq16 => exact fun _ _ _ h => h
  case hw16 => rfl
  case hy16 =>
    intro W hW
    go_simp
    first | done | with_reducible rfl
  case hk16 =>
  try simp only [Act.put, List.setIfInBounds_toArray, List.set_cons_zero, List.set_cons_succ]
  refine anyK_load 16 (oi := ?oo17) ?ho17 (by kernel_rfl) (by kernel_rfl) (by kernel_rfl) (by kernel_rfl) (by kernel_rfl) (by kernel_rfl) ?hq17 ?hw17 hT0 hS0 (v := ?vv17) ?hy17 ?hk17
  case ho17 => (simp only [List.getElem?_toArray, List.getElem?_cons_succ, List.getElem?_cons_zero]; rfl)
  case hq17 => exact fun _ _ _ h => h
  case hw17 => rfl
  case hy17 =>
    intro W hW1 hW
    obtain ⟨y0, y1⟩ := hW
    go_simp
    first | done | with_reducible rfl
  case hk17 =>
  try simp only [Act.put, List.setIfInBounds_toArray, List.set_cons_zero, List.set_cons_succ]
  refine anyK_take 17 (oi := ?oo18) ?ho18 (by kernel_rfl) (by kernel_rfl) (by kernel_rfl) (by kernel_rfl) ?hq18 ?hw18 hT0 (fun _ => hS0) (v := ?vv18) ?hy18 ?hk18
  case ho18 => (simp only [List.getElem?_toArray, List.getElem?_cons_succ, List.getElem?_cons_zero]; rfl)
  case hq18 => exact fun _ _ _ h => h
  case hw18 => rfl
  case hy18 =>
    intro W hW
    go_simp
    first | done | with_reducible rfl
  case hk18 =>
  try simp only [Act.put, List.setIfInBounds_toArray, List.set_cons_zero, List.set_cons_succ]
  refine anyK_take 18 (oi := ?oo19) ?ho19 (by kernel_rfl) (by kernel_rfl) (by kernel_rfl) (by kernel_rfl) ?hq19 ?hw19 hT0 (fun _ => hS0) (v := ?vv19) ?hy19 ?hk19
  case ho19 => (simp only [List.getElem?_toArray, List.getElem?_cons_succ, List.getElem?_cons_zero]; rfl)
  case hq19 => exact fun _ _ _ h => h
  case hw19 => rfl
  case hy19 =>
    intro W hW
    go_simp
    first | done | with_reducible rfl
  case hk19 =>
  try simp only [Act.put, List.setIfInBounds_toArray, List.set_cons_zero, List.set_cons_succ]
  refine anyK_take 19 (oi := ?oo20) ?ho20 (by kernel_rfl) (by kernel_rfl) (by kernel_rfl) (by kernel_rfl) ?hq20 ?hw20 hT0 (fun _ => hS0) (v := ?vv20) ?hy20 ?hk20
  case ho20 => (simp only [List.getElem?_toArray, List.getElem?_cons_succ, List.getElem?_cons_zero]; rfl)
  case hq20 => exact fun _ _ _ h => h
  case hw20 => rfl
  case hy20 =>
    intro W hW
    go_simp
    first | done | with_reducible rfl
  case hk20 =>
  try simp only [Act.put, List.setIfInBounds_toArray, List.set_cons_zero, List.set_cons_succ]
  refine anyK_load 20 (oi := ?oo21) ?ho21 (by kernel_rfl) (by kernel_rfl) (by kernel_rfl) (by kernel_rfl) (by kernel_rfl) (by kernel_rfl) ?hq21 ?hw21 hT0 hS0 (v := ?vv21) ?hy21 ?hk21
  case ho21 => (simp only [List.getElem?_toArray, List.getElem?_cons_succ, List.getElem?_cons_zero]; rfl)
  case hq21 => exact fun _ _ _ h => h
  case hw21 => rfl
  case hy21 =>
    intro W hW1 hW
    obtain ⟨y0, y1⟩ := hW
    go_simp
    first | done | with_reducible rfl
  case hk21 =>
  try simp only [Act.put, List.setIfInBounds_toArray, List.set_cons_zero, List.set_cons_succ]
  refine anyK_take 21 (oi := ?oo22) ?ho22 (by kernel_rfl) (by kernel_rfl) (by kernel_rfl) (by kernel_rfl) ?hq22 ?hw22 hT0 (fun _ => hS0) (v := ?vv22) ?hy22 ?hk22
  case ho22 => (simp only [List.getElem?_toArray, List.getElem?_cons_succ, List.getElem?_cons_zero]; rfl)
  case hq22 => exact fun _ _ _ h => h
  case hw22 => rfl
  case hy22 =>
    intro W hW
    go_simp
    first | done | with_reducible rfl
  case hk22 =>
  try simp only [Act.put, List.setIfInBounds_toArray, List.set_cons_zero, List.set_cons_succ]
  refine anyK_take 22 (oi := ?oo23) ?ho23 (by kernel_rfl) (by kernel_rfl) (by kernel_rfl) (by kernel_rfl) ?hq23 ?hw23 hT0 (fun _ => hS0) (v := ?vv23) ?hy23 ?hk23
  case ho23 => (simp only [List.getElem?_toArray, List.getElem?_cons_succ, List.getElem?_cons_zero]; rfl)
  case hq23 => exact fun _ _ _ h => h
  case hw23 => rfl
  case hy23 =>
    intro W hW
    go_simp
    first | done | with_reducible rfl
  case hk23 =>
  try simp only [Act.put, List.setIfInBounds_toArray, List.set_cons_zero, List.set_cons_succ]
  refine anyK_take 23 (oi := ?oo24) ?ho24 (by kernel_rfl) (by kernel_rfl) (by kernel_rfl) (by kernel_rfl) ?hq24 ?hw24 hT0 (fun _ => hS0) (v := ?vv24) ?hy24 ?hk24
  case ho24 => (simp only [List.getElem?_toArray, List.getElem?_cons_succ, List.getElem?_cons_zero]; rfl)
  case hq24 => exact fun _ _ _ h => h
  case hw24 => rfl
  case hy24 =>
    intro W hW
    go_simp
    first | done | with_reducible rfl
  case hk24 =>
  try simp only [Act.put, List.setIfInBounds_toArray, List.set_cons_zero, List.set_cons_succ]
  refine anyK_take 24 (oi := ?oo25) ?ho25 (by kernel_rfl) (by kernel_rfl) (by kernel_rfl) (by kernel_rfl) ?hq25 ?hw25 hT0 (fun _ => hS0) (v := ?vv25) ?hy25 ?hk25
  case ho25 => (simp only [List.getElem?_toArray, List.getElem?_cons_succ, List.getElem?_cons_zero]; rfl)
  case hq25 => exact fun _ _ _ h => h
  case hw25 => rfl
  case hy25 =>
    intro W hW
    go_simp
    first | done | with_reducible rfl
  case hk25 =>
  try simp only [Act.put, List.setIfInBounds_toArray, List.set_cons_zero, List.set_cons_succ]
  refine anyK_take 25 (oi := ?oo26) ?ho26 (by kernel_rfl) (by kernel_rfl) (by kernel_rfl) (by kernel_rfl) ?hq26 ?hw26 hT0 (fun _ => hS0) (v := ?vv26) ?hy26 ?hk26
  case ho26 => (simp only [List.getElem?_toArray, List.getElem?_cons_succ, List.getElem?_cons_zero]; rfl)
  case hq26 => exact fun _ _ _ h => h
  case hw26 => rfl
  case hy26 =>
    intro W hW
    go_simp
    first | done | with_reducible rfl
  case hk26 =>
  try simp only [Act.put, List.setIfInBounds_toArray, List.set_cons_zero, List.set_cons_succ]
  refine anyK_on1 26 (by kernel_rfl) ?_
  refine anyK_one 26 (o := ?oo27) ?ho27 ?hk27
  case ho27 => (simp only [List.getElem?_toArray, List.getElem?_cons_succ, List.getElem?_cons_zero]; rfl)
  case hk27 =>
  intro K hK
  have sn := ss
  have q5 := sn.cell
  have z5 := sn.frozen
  have k9 := blk_put (i := 11) (u := .slice (some ⟨gl, 0, none⟩) ps.length lc) ss (cs' := #[.string R.name, .int .i64 R.width, .int .i64 R.height, .slice pA R.pieces.length pc, .slice sA R.start.length sc, .bool R.falls, .bool R.keeps, .slice eA R.ends.length ec, .int .i64 R.blocked, .int .i64 R.quiet, .int .i64 R.rept, .slice (some ⟨gl, 0, none⟩) ps.length lc, .slice (some ⟨gm, 0, none⟩) (ms.length + 1) mc]) rfl
  replace yy := (⟨_, _, k9⟩ : (fun W => ∃ lv mv, Blk W BG 109 #[.string R.name, .int .i64 R.width, .int .i64 R.height, .slice pA R.pieces.length pc, .slice sA R.start.length sc, .bool R.falls, .bool R.keeps, .slice eA R.ends.length ec, .int .i64 R.blocked, .int .i64 R.quiet, .int .i64 R.rept, lv, mv]) (wa.drew.setCell ⟨BG, 11, none⟩ (.slice (some ⟨gl, 0, none⟩) ps.length lc)))
  have TF11 := hide (TFr.set (ts := [109]) ss (List.mem_singleton.2 rfl) 11 (.slice (some ⟨gl, 0, none⟩) ps.length lc))
  replace ss := k9
  go_simp
  clear q5 z5 k9 sn
  have hT1 := keepK.out _ yy
  refine hK.out _ _ hT1 (fun h => by cases h) ?_
  clear hK K
  try simp only [Act.put, List.setIfInBounds_toArray, List.set_cons_zero, List.set_cons_succ]
  refine anyK_take 27 (oi := ?oo28) ?ho28 (by kernel_rfl) (by kernel_rfl) (by kernel_rfl) (by kernel_rfl) ?hq28 ?hw28 hT1 (fun h => by cases h) (v := ?vv28) ?hy28 ?hk28
  case ho28 => (simp only [List.getElem?_toArray, List.getElem?_cons_succ, List.getElem?_cons_zero]; rfl)
  case hq28 => exact fun _ _ _ h => h
  case hw28 => rfl
  case hy28 =>
    intro W hW
    go_simp
    first | done | with_reducible rfl
  case hk28 =>
  try simp only [Act.put, List.setIfInBounds_toArray, List.set_cons_zero, List.set_cons_succ]
  refine anyK_take 28 (oi := ?oo29) ?ho29 (by kernel_rfl) (by kernel_rfl) (by kernel_rfl) (by kernel_rfl) ?hq29 ?hw29 hT1 (fun h => by cases h) (v := ?vv29) ?hy29 ?hk29
  case ho29 => (simp only [List.getElem?_toArray, List.getElem?_cons_succ, List.getElem?_cons_zero]; rfl)
  case hq29 => exact fun _ _ _ h => h
  case hw29 => rfl
  case hy29 =>
    intro W hW
    go_simp
    first | done | with_reducible rfl
  case hk29 =>
  try simp only [Act.put, List.setIfInBounds_toArray, List.set_cons_zero, List.set_cons_succ]
  refine anyK_on1 29 (by kernel_rfl) ?_
  refine anyK_one 29 (o := ?oo30) ?ho30 ?hk30
  case ho30 => (simp only [List.getElem?_toArray, List.getElem?_cons_succ, List.getElem?_cons_zero]; rfl)
  case hk30 =>
  intro K hK
  have sn : Blk ((wa.setCell ⟨BG, 11, none⟩ (.slice (some ⟨gl, 0, none⟩) ps.length lc)).drew) BG 109 #[.string R.name, .int .i64 R.width, .int .i64 R.height, .slice pA R.pieces.length pc, .slice sA R.start.length sc, .bool R.falls, .bool R.keeps, .slice eA R.ends.length ec, .int .i64 R.blocked, .int .i64 R.quiet, .int .i64 R.rept, .slice (some ⟨gl, 0, none⟩) ps.length lc, .slice (some ⟨gm, 0, none⟩) (ms.length + 1) mc] := ss
  have q5 := sn.cell
  have z5 := sn.frozen
  have k9 := blk_put (i := 12) (u := .slice (some ⟨gm, 0, none⟩) ms.length mc) ss (cs' := #[.string R.name, .int .i64 R.width, .int .i64 R.height, .slice pA R.pieces.length pc, .slice sA R.start.length sc, .bool R.falls, .bool R.keeps, .slice eA R.ends.length ec, .int .i64 R.blocked, .int .i64 R.quiet, .int .i64 R.rept, .slice (some ⟨gl, 0, none⟩) ps.length lc, .slice (some ⟨gm, 0, none⟩) ms.length mc]) rfl
  replace yy := (⟨_, _, k9⟩ : (fun W => ∃ lv mv, Blk W BG 109 #[.string R.name, .int .i64 R.width, .int .i64 R.height, .slice pA R.pieces.length pc, .slice sA R.start.length sc, .bool R.falls, .bool R.keeps, .slice eA R.ends.length ec, .int .i64 R.blocked, .int .i64 R.quiet, .int .i64 R.rept, lv, mv]) ((wa.drew.setCell ⟨BG, 11, none⟩ (.slice (some ⟨gl, 0, none⟩) ps.length lc)).setCell ⟨BG, 12, none⟩ (.slice (some ⟨gm, 0, none⟩) ms.length mc)))
  have TF12 := hide (TFr.set (ts := [109]) ss (List.mem_singleton.2 rfl) 12 (.slice (some ⟨gm, 0, none⟩) ms.length mc))
  replace ss := k9
  go_simp
  clear q5 z5 k9 sn
  have hT2 := keepK.out _ yy
  refine hK.out _ _ hT2 (fun h => by cases h) ?_
  clear hK K
  try simp only [Act.put, List.setIfInBounds_toArray, List.set_cons_zero, List.set_cons_succ]
  refine anyK_done (by kernel_rfl) ?_ _
  clear keepK hT0 hT1 hT2
  try clear keepS hS0 hS1
  have TF := hide (TF11.out.trans TF12.out)
  have HBG := hide H56.out.1
  have X := hide (ext_set (ext_set (ext_trans H56.out.2 zz) (p := ⟨BG, 11, none⟩) HBG.out (.slice (some ⟨gl, 0, none⟩) ps.length lc)) (p := ⟨BG, 12, none⟩) HBG.out (.slice (some ⟨gm, 0, none⟩) ms.length mc))
  have KF := hide ss
  have H2F := hide ((H2.out.ext zz).tfr ⟨by decide, by decide, by decide, by decide⟩ TF.out)
  have HPF := hide ((HP.out.ext zz).tfr (by decide) (by decide) TF.out)
  have HMF := hide ((HM.out.ext zz).tfr (by decide) TF.out)
  clear yy ss zz TF11 TF12 TF
  go_wp2
  go_ret
  exact ⟨rfl, pA, pc, sA, sc, eA, ec, base, _, _, KF.out, H2F.out, HPF.out, HMF.out, HBG.out, X.out⟩

end Go.Proofs.Ytmofipijjokjfaa
namespace Go.Proofs.Ytmofipijjokjfaa
open Go.ChangeShapes Go.WideShapes Go.ChangeAt Go.RowKit Go.Shelf
set_option linter.unusedVariables false
set_option linter.unusedSimpArgs false
set_option maxHeartbeats 2000000 in
set_option maxRecDepth 100000 in
theorem Begin_no (R : RulesM) (v : Value) (w : World) (hR : RulesAt w v R) (h : rulesE R ≠ 0) :
    Calls Try.prog 53 #[v] w fun e w' => e = .returned (.tuple #[zeroPos, .int .i64 (rulesE R)]) ∧ Ext w w' := by
  have HC := hide (fun W (hW : Ext w W) => Check_any v R W (hR.ext hW))
  obtain ⟨pA, pc, sA, sc, eA, ec, rfl, -⟩ := hR
  have t0 : (rulesE R != 0) = true := by simpa using h
  obtain ⟨x1, k1, k2⟩ := blks2 w #[.string R.name, .int .i64 R.width, .int .i64 R.height, .slice pA R.pieces.length pc, .slice sA R.start.length sc, .bool R.falls, .bool R.keeps, .slice eA R.ends.length ec, .int .i64 R.blocked, .int .i64 R.quiet, .int .i64 R.rept] 26 #[.slice none 0 0, .slice none 0 0, .slice none 0 0, .int .i64 0, .int .i64 0] 29
  have HX := hide x1
  have K2 := hide k2
  have f1 := k1.cell
  have HLT : Hid (w.heap.size ≤ w.heap.size + 1) := hide (by omega)
  clear x1 k1 k2 h
  generalize rulesE R = E at *
  go_enter Try.func53, Try.ntmps53
  go_wp2_with fail
  refine (HC.out _ HX.out).mono ?_
  rintro e w2 ⟨rfl, x2⟩
  have X2 := hide (ext_trans HX.out x2)
  have KO2 := hide (K2.out.ext x2)
  clear f1 x2 HX K2
  generalize w.heap.size + 1 = BO at *
  have gz := KO2.out.frozen
  have gc := KO2.out.cell
  go_wp2
  have K9 := blk_put (i := 4) (u := .int .i64 0) (blk_put (i := 3) (u := .int .i64 0) (blk_put (i := 2) (u := .slice none 0 0) (blk_put (i := 1) (u := .slice none 0 0) (blk_put (i := 0) (u := .slice none 0 0) KO2.out rfl) rfl) rfl) rfl) (cs' := #[.slice none 0 0, .slice none 0 0, .slice none 0 0, .int .i64 0, .int .i64 0]) rfl
  have X9 := (ext_set (ext_set (ext_set (ext_set (ext_set X2.out (p := ⟨BO, 0, none⟩) HLT.out (.slice none 0 0)) (p := ⟨BO, 1, none⟩) HLT.out (.slice none 0 0)) (p := ⟨BO, 2, none⟩) HLT.out (.slice none 0 0)) (p := ⟨BO, 3, none⟩) HLT.out (.int .i64 0)) (p := ⟨BO, 4, none⟩) HLT.out (.int .i64 0))
  generalize (((((w2.setCell ⟨BO, 0, none⟩ (.slice none 0 0)).setCell ⟨BO, 1, none⟩ (.slice none 0 0)).setCell ⟨BO, 2, none⟩ (.slice none 0 0)).setCell ⟨BO, 3, none⟩ (.int .i64 0)).setCell ⟨BO, 4, none⟩ (.int .i64 0)) = Wf at *
  clear gz gc
  have rr0 : Wf.cell? ⟨BO, 0, none⟩ = some (.slice none 0 0) := K9.cell 0
  have rr1 : Wf.cell? ⟨BO, 1, none⟩ = some (.slice none 0 0) := K9.cell 1
  have rr2 : Wf.cell? ⟨BO, 2, none⟩ = some (.slice none 0 0) := K9.cell 2
  have rr3 : Wf.cell? ⟨BO, 3, none⟩ = some (.int .i64 0) := K9.cell 3
  have rr4 : Wf.cell? ⟨BO, 4, none⟩ = some (.int .i64 0) := K9.cell 4
  refine bodyPost_ret (v := .tuple #[zeroPos, .int .i64 E]) ?_ rfl ?_
  · simp [results, Try.results53, go_sem, rr0, rr1, rr2, rr3, rr4]
  · exact ⟨rfl, X9⟩
set_option maxHeartbeats 2000000 in
set_option maxRecDepth 100000 in
theorem New_no (R : RulesM) (v : Value) (w : World) (hR : RulesAt w v R) (h : rulesE R ≠ 0) :
    Calls Try.prog 37 #[v] w fun e w' => e = .returned (.tuple #[.pointer none, .int .i64 (rulesE R)]) ∧ Ext w w' := by
  have HB := hide (fun W (hW : Ext w W) => Begin_no R v W (hR.ext hW) h)
  obtain ⟨pA, pc, sA, sc, eA, ec, rfl, -⟩ := hR
  have t0 : (rulesE R != 0) = true := by simpa using h
  obtain ⟨x1, k1⟩ := blks1 w #[.string R.name, .int .i64 R.width, .int .i64 R.height, .slice pA R.pieces.length pc, .slice sA R.start.length sc, .bool R.falls, .bool R.keeps, .slice eA R.ends.length ec, .int .i64 R.blocked, .int .i64 R.quiet, .int .i64 R.rept] 26
  have HX := hide x1
  have f1 := k1.cell
  clear x1 k1 h
  generalize rulesE R = E at *
  go_enter Try.func37, Try.ntmps37
  go_wp2_with fail
  refine (HB.out _ HX.out).mono ?_
  rintro e w2 ⟨rfl, x2⟩
  have X2 := hide (ext_trans HX.out x2)
  clear f1 x2 HX HB
  go_wp2
  go_ret2
  exact ⟨rfl, ext_alloc X2.out _⟩
theorem ownP_one {w0 w : World} {BL : Nat} {P : PosM} {g0 g1 g2 d0 d1 d2 : Nat} (k : Blk w BL 29 #[.slice (some ⟨g0, 0, none⟩) P.cells.length d0, .slice (some ⟨g1, 0, none⟩) P.hand0.length d1, .slice (some ⟨g2, 0, none⟩) P.hand1.length d2, .int .i64 P.turn, .int .i64 P.quiet]) (hb : w0.heap.size ≤ BL) (hp : PosI w (.agg #[.slice (some ⟨g0, 0, none⟩) P.cells.length d0, .slice (some ⟨g1, 0, none⟩) P.hand0.length d1, .slice (some ⟨g2, 0, none⟩) P.hand1.length d2, .int .i64 P.turn, .int .i64 P.quiet]) P) : OwnP w0 w (.slice (some ⟨BL, 0, none⟩) 1 1) [P] :=
  ⟨_, 1, [[.slice (some ⟨g0, 0, none⟩) P.cells.length d0, .slice (some ⟨g1, 0, none⟩) P.hand0.length d1, .slice (some ⟨g2, 0, none⟩) P.hand1.length d2, .int .i64 P.turn, .int .i64 P.quiet]], rfl, ⟨rfl, .inr ⟨BL, 1, #[.slice (some ⟨g0, 0, none⟩) P.cells.length d0, .slice (some ⟨g1, 0, none⟩) P.hand0.length d1, .slice (some ⟨g2, 0, none⟩) P.hand1.length d2, .int .i64 P.turn, .int .i64 P.quiet], rfl, hb, k, Nat.le_refl _, by simp [maxLen], rfl, rfl⟩⟩, rfl, fun i c Q a b => by
    rcases i with _ | i
    · simp only [List.getElem?_cons_zero, Option.some.injEq] at a b
      subst a b
      exact ⟨rfl, hp⟩
    · simp at a⟩
def NewPost (w : World) (R : RulesM) (e : Ending) (w' : World) : Prop := ∃ BG, e = .returned (.tuple #[.pointer (some ⟨BG, 0, none⟩), .int .i64 0]) ∧ GameAt w w' BG R [beginP R] []
set_option maxHeartbeats 4000000 in
set_option maxRecDepth 100000 in
theorem New_yes (R : RulesM) (v : Value) (w : World) (hR : RulesAt w v R) (hV : Valid R) :
    Calls Try.prog 37 #[v] w (NewPost w R) := by
  have HB := hide (fun W (hW : Ext w W) => Begin_own R v W (hR.ext hW) hV)
  have HCP := hide (fun W (hW : Ext w W) => Copy_any v R W (hR.ext hW) hV)
  unfold NewPost
  obtain ⟨pA, pc, sA, sc, eA, ec, rfl, -⟩ := hR
  obtain ⟨x1, k1⟩ := blks1 w #[.string R.name, .int .i64 R.width, .int .i64 R.height, .slice pA R.pieces.length pc, .slice sA R.start.length sc, .bool R.falls, .bool R.keeps, .slice eA R.ends.length ec, .int .i64 R.blocked, .int .i64 R.quiet, .int .i64 R.rept] 26
  have HX1 := hide x1
  have K1 := hide k1
  have f1 := k1.cell
  clear x1 k1 hV
  generalize beginP R = P at *
  go_enter Try.func37, Try.ntmps37
  go_wp2_with fail
  refine (HB.out _ HX1.out).mono ?_
  rintro e w2 ⟨v2, rfl, p2, x2⟩
  have HP2 := hide p2
  obtain ⟨g0, d0, g1, d1, g2, d2, rfl, -⟩ := p2
  obtain ⟨x3, kV⟩ := blks1 w2 #[.slice (some ⟨g0, 0, none⟩) P.cells.length d0, .slice (some ⟨g1, 0, none⟩) P.hand0.length d1, .slice (some ⟨g2, 0, none⟩) P.hand1.length d2, .int .i64 P.turn, .int .i64 P.quiet] 29
  have K2 := hide (K1.out.ext x2)
  have X2 := hide (ext_trans HX1.out x2)
  clear f1 x2 HX1 HB K1
  go_upto_region 4 with fail
  have KV := hide kV
  have KR := hide (K2.out.ext x3)
  have HP4 := hide (HP2.out.ext x3)
  have X4 := hide (ext_trans X2.out x3)
  clear kV x3 X2 K2 HP2
  generalize w2.alloc (.cells #[.slice (some ⟨g0, 0, none⟩) P.cells.length d0, .slice (some ⟨g1, 0, none⟩) P.hand0.length d1, .slice (some ⟨g2, 0, none⟩) P.hand1.length d2, .int .i64 P.turn, .int .i64 P.quiet] 29) = w4 at *
  generalize w2.heap.size = BV at *
  generalize hBR : w.heap.size = BR at *
  have HBR := hide hBR
  clear hBR
  have keepK := hide (fun W (h : Ext w4 W) => (show (fun W => W.cell? ⟨BR, 0, none⟩ = some (.string R.name) ∧ W.cell? ⟨BR, 1, none⟩ = some (.int .i64 R.width) ∧ W.cell? ⟨BR, 2, none⟩ = some (.int .i64 R.height) ∧ W.cell? ⟨BR, 3, none⟩ = some (.slice pA R.pieces.length pc) ∧ W.cell? ⟨BR, 4, none⟩ = some (.slice sA R.start.length sc) ∧ W.cell? ⟨BR, 5, none⟩ = some (.bool R.falls) ∧ W.cell? ⟨BR, 6, none⟩ = some (.bool R.keeps) ∧ W.cell? ⟨BR, 7, none⟩ = some (.slice eA R.ends.length ec) ∧ W.cell? ⟨BR, 8, none⟩ = some (.int .i64 R.blocked) ∧ W.cell? ⟨BR, 9, none⟩ = some (.int .i64 R.quiet) ∧ W.cell? ⟨BR, 10, none⟩ = some (.int .i64 R.rept) ∧ W.cell? ⟨BV, 0, none⟩ = some (.slice (some ⟨g0, 0, none⟩) P.cells.length d0) ∧ W.cell? ⟨BV, 1, none⟩ = some (.slice (some ⟨g1, 0, none⟩) P.hand0.length d1) ∧ W.cell? ⟨BV, 2, none⟩ = some (.slice (some ⟨g2, 0, none⟩) P.hand1.length d2) ∧ W.cell? ⟨BV, 3, none⟩ = some (.int .i64 P.turn) ∧ W.cell? ⟨BV, 4, none⟩ = some (.int .i64 P.quiet) ∧ Ext w4 W) W from ⟨(KR.out.ext h).cell 0, (KR.out.ext h).cell 1, (KR.out.ext h).cell 2, (KR.out.ext h).cell 3, (KR.out.ext h).cell 4, (KR.out.ext h).cell 5, (KR.out.ext h).cell 6, (KR.out.ext h).cell 7, (KR.out.ext h).cell 8, (KR.out.ext h).cell 9, (KR.out.ext h).cell 10, (KV.out.ext h).cell 0, (KV.out.ext h).cell 1, (KV.out.ext h).cell 2, (KV.out.ext h).cell 3, (KV.out.ext h).cell 4, h⟩))
  have yy : Ext w4 w4.drew := Below.drew (Below.refl _ _)
  refine region_K (fun W => W.cell? ⟨BR, 0, none⟩ = some (.string R.name) ∧ W.cell? ⟨BR, 1, none⟩ = some (.int .i64 R.width) ∧ W.cell? ⟨BR, 2, none⟩ = some (.int .i64 R.height) ∧ W.cell? ⟨BR, 3, none⟩ = some (.slice pA R.pieces.length pc) ∧ W.cell? ⟨BR, 4, none⟩ = some (.slice sA R.start.length sc) ∧ W.cell? ⟨BR, 5, none⟩ = some (.bool R.falls) ∧ W.cell? ⟨BR, 6, none⟩ = some (.bool R.keeps) ∧ W.cell? ⟨BR, 7, none⟩ = some (.slice eA R.ends.length ec) ∧ W.cell? ⟨BR, 8, none⟩ = some (.int .i64 R.blocked) ∧ W.cell? ⟨BR, 9, none⟩ = some (.int .i64 R.quiet) ∧ W.cell? ⟨BR, 10, none⟩ = some (.int .i64 R.rept) ∧ W.cell? ⟨BV, 0, none⟩ = some (.slice (some ⟨g0, 0, none⟩) P.cells.length d0) ∧ W.cell? ⟨BV, 1, none⟩ = some (.slice (some ⟨g1, 0, none⟩) P.hand0.length d1) ∧ W.cell? ⟨BV, 2, none⟩ = some (.slice (some ⟨g2, 0, none⟩) P.hand1.length d2) ∧ W.cell? ⟨BV, 3, none⟩ = some (.int .i64 P.turn) ∧ W.cell? ⟨BV, 4, none⟩ = some (.int .i64 P.quiet) ∧ Ext w4 W) (fun _ => True) [] (by kernel_rfl) ?_
  have hT0 := keepK.out _ yy
  refine anyK_take 0 (oi := ?oo1) ?ho1 (by kernel_rfl) (by kernel_rfl) (by kernel_rfl) (by kernel_rfl) ?hq1 ?hw1 hT0 (fun _ => trivial) (v := ?vv1) ?hy1 ?hk1
  case ho1 => (simp only [List.getElem?_toArray, List.getElem?_cons_succ, List.getElem?_cons_zero]; rfl)
  case hq1 => exact fun _ _ _ h => h
  case hw1 => rfl
  case hy1 =>
    intro W hW
    obtain ⟨z0, z1, z2, z3, z4, z5, z6, z7, z8, z9, z10, z11, z12, z13, z14, z15, z16⟩ := hW
    go_simp
    first | done | with_reducible rfl
  case hk1 =>
  try simp only [Act.put, List.setIfInBounds_toArray, List.set_cons_zero, List.set_cons_succ]
  refine anyK_take 2 (oi := ?oo2) ?ho2 (by kernel_rfl) (by kernel_rfl) (by kernel_rfl) (by kernel_rfl) ?hq2 ?hw2 hT0 (fun _ => trivial) (v := ?vv2) ?hy2 ?hk2
  case ho2 => (simp only [List.getElem?_toArray, List.getElem?_cons_succ, List.getElem?_cons_zero]; rfl)
  case hq2 => exact fun _ _ _ h => h
  case hw2 => rfl
  case hy2 =>
    intro W hW
    obtain ⟨z0, z1, z2, z3, z4, z5, z6, z7, z8, z9, z10, z11, z12, z13, z14, z15, z16⟩ := hW
    go_simp
    first | done | with_reducible rfl
  case hk2 =>
  try simp only [Act.put, List.setIfInBounds_toArray, List.set_cons_zero, List.set_cons_succ]
  refine anyK_on2 1 3 (by kernel_rfl) ?_ ?_
  · skip
    refine anyK_one 1 (o := ?oo3) ?ho3 ?hk3
    case ho3 => (simp only [List.getElem?_toArray, List.getElem?_cons_succ, List.getElem?_cons_zero]; rfl)
    case hk3 =>
    intro K hK
    go_simp
    refine (HCP.out _ (ext_trans X4.out yy)).mono ?_
    rintro e wk ⟨vr, bs, rfl, -, own, xx⟩
    try go_wp2_with fail
    replace yy := ext_trans yy xx
    have HRO := hide own
    obtain ⟨pA2, pc2, sA2, sc2, eA2, ec2, vss2, rfl, -⟩ := own
    try (replace HL := hide (HL.out.ext xx))
    have hT1 := keepK.out _ yy
    refine hK.out _ _ hT1 (fun _ => trivial) ?_
    clear hK K
    try simp only [Act.put, List.setIfInBounds_toArray, List.set_cons_zero, List.set_cons_succ]
    refine anyK_on1 3 (by kernel_rfl) ?_
    refine anyK_one 3 (o := ?oo4) ?ho4 ?hk4
    case ho4 => (simp only [List.getElem?_toArray, List.getElem?_cons_succ, List.getElem?_cons_zero]; rfl)
    case hk4 =>
    intro K hK
    go_simp
    have HL : Hid (Blk (wk.alloc (.cells #[.slice (some ⟨g0, 0, none⟩) P.cells.length d0, .slice (some ⟨g1, 0, none⟩) P.hand0.length d1, .slice (some ⟨g2, 0, none⟩) P.hand1.length d2, .int .i64 P.turn, .int .i64 P.quiet] 29)) (wk.heap.size) 29 #[.slice (some ⟨g0, 0, none⟩) P.cells.length d0, .slice (some ⟨g1, 0, none⟩) P.hand0.length d1, .slice (some ⟨g2, 0, none⟩) P.hand1.length d2, .int .i64 P.turn, .int .i64 P.quiet]) := hide (Blk.new wk 29 #[.slice (some ⟨g0, 0, none⟩) P.cells.length d0, .slice (some ⟨g1, 0, none⟩) P.hand0.length d1, .slice (some ⟨g2, 0, none⟩) P.hand1.length d2, .int .i64 P.turn, .int .i64 P.quiet])
    try (replace HRO := hide (HRO.out.ext (ext_alloc (Below.refl _ _) (.cells #[.slice (some ⟨g0, 0, none⟩) P.cells.length d0, .slice (some ⟨g1, 0, none⟩) P.hand0.length d1, .slice (some ⟨g2, 0, none⟩) P.hand1.length d2, .int .i64 P.turn, .int .i64 P.quiet] 29))))
    have HBL : Hid (w.heap.size ≤ wk.heap.size) := hide (ext_trans X4.out yy).size
    replace yy := ext_alloc yy (.cells #[.slice (some ⟨g0, 0, none⟩) P.cells.length d0, .slice (some ⟨g1, 0, none⟩) P.hand0.length d1, .slice (some ⟨g2, 0, none⟩) P.hand1.length d2, .int .i64 P.turn, .int .i64 P.quiet] 29)
    have hT2 := keepK.out _ yy
    refine hK.out _ _ hT2 (fun _ => trivial) ?_
    clear hK K
    try simp only [Act.put, List.setIfInBounds_toArray, List.set_cons_zero, List.set_cons_succ]
    refine anyK_take 4 (oi := ?oo5) ?ho5 (by kernel_rfl) (by kernel_rfl) (by kernel_rfl) (by kernel_rfl) ?hq5 ?hw5 hT2 (fun _ => trivial) (v := ?vv5) ?hy5 ?hk5
    case ho5 => (simp only [List.getElem?_toArray, List.getElem?_cons_succ, List.getElem?_cons_zero]; rfl)
    case hq5 => exact fun _ _ _ h => h
    case hw5 => rfl
    case hy5 =>
      intro W hW
      go_simp
      first | done | with_reducible rfl
    case hk5 =>
    try simp only [Act.put, List.setIfInBounds_toArray, List.set_cons_zero, List.set_cons_succ]
    refine anyK_on1 5 (by kernel_rfl) ?_
    refine anyK_one 5 (o := ?oo6) ?ho6 ?hk6
    case ho6 => (simp only [List.getElem?_toArray, List.getElem?_cons_succ, List.getElem?_cons_zero]; rfl)
    case hk6 =>
    intro K hK
    go_simp
    have HBG : Hid (w.heap.size ≤ wk.heap.size + 1) := hide (by rw [show wk.heap.size + 1 = (wk.alloc (.cells #[.slice (some ⟨g0, 0, none⟩) P.cells.length d0, .slice (some ⟨g1, 0, none⟩) P.hand0.length d1, .slice (some ⟨g2, 0, none⟩) P.hand1.length d2, .int .i64 P.turn, .int .i64 P.quiet] 29)).heap.size by simp]; exact (ext_trans X4.out yy).size)
    have HG : Hid (Blk ((wk.alloc (.cells #[.slice (some ⟨g0, 0, none⟩) P.cells.length d0, .slice (some ⟨g1, 0, none⟩) P.hand0.length d1, .slice (some ⟨g2, 0, none⟩) P.hand1.length d2, .int .i64 P.turn, .int .i64 P.quiet] 29)).alloc (.cells #[.string R.name, .int .i64 R.width, .int .i64 R.height, .slice pA2 R.pieces.length pc2, .slice sA2 R.start.length sc2, .bool R.falls, .bool R.keeps, .slice eA2 R.ends.length ec2, .int .i64 R.blocked, .int .i64 R.quiet, .int .i64 R.rept, .slice (some ⟨wk.heap.size, 0, none⟩) 1 1, .slice none 0 0] 109)) (wk.heap.size + 1) 109 #[.string R.name, .int .i64 R.width, .int .i64 R.height, .slice pA2 R.pieces.length pc2, .slice sA2 R.start.length sc2, .bool R.falls, .bool R.keeps, .slice eA2 R.ends.length ec2, .int .i64 R.blocked, .int .i64 R.quiet, .int .i64 R.rept, .slice (some ⟨wk.heap.size, 0, none⟩) 1 1, .slice none 0 0]) := hide (by rw [show wk.heap.size + 1 = (wk.alloc (.cells #[.slice (some ⟨g0, 0, none⟩) P.cells.length d0, .slice (some ⟨g1, 0, none⟩) P.hand0.length d1, .slice (some ⟨g2, 0, none⟩) P.hand1.length d2, .int .i64 P.turn, .int .i64 P.quiet] 29)).heap.size by simp]; exact Blk.new (wk.alloc (.cells #[.slice (some ⟨g0, 0, none⟩) P.cells.length d0, .slice (some ⟨g1, 0, none⟩) P.hand0.length d1, .slice (some ⟨g2, 0, none⟩) P.hand1.length d2, .int .i64 P.turn, .int .i64 P.quiet] 29)) 109 #[.string R.name, .int .i64 R.width, .int .i64 R.height, .slice pA2 R.pieces.length pc2, .slice sA2 R.start.length sc2, .bool R.falls, .bool R.keeps, .slice eA2 R.ends.length ec2, .int .i64 R.blocked, .int .i64 R.quiet, .int .i64 R.rept, .slice (some ⟨wk.heap.size, 0, none⟩) 1 1, .slice none 0 0])
    replace HRO := hide (HRO.out.ext (ext_alloc (Below.refl _ _) (.cells #[.string R.name, .int .i64 R.width, .int .i64 R.height, .slice pA2 R.pieces.length pc2, .slice sA2 R.start.length sc2, .bool R.falls, .bool R.keeps, .slice eA2 R.ends.length ec2, .int .i64 R.blocked, .int .i64 R.quiet, .int .i64 R.rept, .slice (some ⟨wk.heap.size, 0, none⟩) 1 1, .slice none 0 0] 109)))
    replace HL := hide (HL.out.ext (ext_alloc (Below.refl _ _) (.cells #[.string R.name, .int .i64 R.width, .int .i64 R.height, .slice pA2 R.pieces.length pc2, .slice sA2 R.start.length sc2, .bool R.falls, .bool R.keeps, .slice eA2 R.ends.length ec2, .int .i64 R.blocked, .int .i64 R.quiet, .int .i64 R.rept, .slice (some ⟨wk.heap.size, 0, none⟩) 1 1, .slice none 0 0] 109)))
    replace yy := ext_alloc yy (.cells #[.string R.name, .int .i64 R.width, .int .i64 R.height, .slice pA2 R.pieces.length pc2, .slice sA2 R.start.length sc2, .bool R.falls, .bool R.keeps, .slice eA2 R.ends.length ec2, .int .i64 R.blocked, .int .i64 R.quiet, .int .i64 R.rept, .slice (some ⟨wk.heap.size, 0, none⟩) 1 1, .slice none 0 0] 109)
    have hT3 := keepK.out _ yy
    refine hK.out _ _ hT3 (fun _ => trivial) ?_
    clear hK K
    try simp only [Act.put, List.setIfInBounds_toArray, List.set_cons_zero, List.set_cons_succ]
    refine anyK_take 6 (oi := ?oo7) ?ho7 (by kernel_rfl) (by kernel_rfl) (by kernel_rfl) (by kernel_rfl) ?hq7 ?hw7 hT3 (fun _ => trivial) (v := ?vv7) ?hy7 ?hk7
    case ho7 => (simp only [List.getElem?_toArray, List.getElem?_cons_succ, List.getElem?_cons_zero]; rfl)
    case hq7 => exact fun _ _ _ h => h
    case hw7 => rfl
    case hy7 =>
      intro W hW
      go_simp
      first | done | with_reducible rfl
    case hk7 =>
    try simp only [Act.put, List.setIfInBounds_toArray, List.set_cons_zero, List.set_cons_succ]
    refine anyK_take 7 (oi := ?oo8) ?ho8 (by kernel_rfl) (by kernel_rfl) (by kernel_rfl) (by kernel_rfl) ?hq8 ?hw8 hT3 (fun _ => trivial) (v := ?vv8) ?hy8 ?hk8
    case ho8 => (simp only [List.getElem?_toArray, List.getElem?_cons_succ, List.getElem?_cons_zero]; rfl)
    case hq8 => exact fun _ _ _ h => h
    case hw8 => rfl
    case hy8 =>
      intro W hW
      go_simp
      first | done | with_reducible rfl
    case hk8 =>
    try simp only [Act.put, List.setIfInBounds_toArray, List.set_cons_zero, List.set_cons_succ]
    refine anyK_done (by kernel_rfl) ?_ _
    clear keepK hT0 hT1 hT2 hT3
    have HX := hide (ext_trans X4.out yy)
    have HPF := hide (HP4.out.ext yy)
    go_wp2
    go_ret2
    exact ⟨_, rfl, pA2, pc2, sA2, sc2, eA2, ec2, bs, _, _, HG.out, HRO.out, ownP_one HL.out HBL.out HPF.out, OwnM.nil _ _, HBG.out, HX.out⟩
  · skip
    refine anyK_one 3 (o := ?oo9) ?ho9 ?hk9
    case ho9 => (simp only [List.getElem?_toArray, List.getElem?_cons_succ, List.getElem?_cons_zero]; rfl)
    case hk9 =>
    intro K hK
    go_simp
    have HL : Hid (Blk (w4.drew.alloc (.cells #[.slice (some ⟨g0, 0, none⟩) P.cells.length d0, .slice (some ⟨g1, 0, none⟩) P.hand0.length d1, .slice (some ⟨g2, 0, none⟩) P.hand1.length d2, .int .i64 P.turn, .int .i64 P.quiet] 29)) (w4.heap.size) 29 #[.slice (some ⟨g0, 0, none⟩) P.cells.length d0, .slice (some ⟨g1, 0, none⟩) P.hand0.length d1, .slice (some ⟨g2, 0, none⟩) P.hand1.length d2, .int .i64 P.turn, .int .i64 P.quiet]) := hide (Blk.new w4.drew 29 #[.slice (some ⟨g0, 0, none⟩) P.cells.length d0, .slice (some ⟨g1, 0, none⟩) P.hand0.length d1, .slice (some ⟨g2, 0, none⟩) P.hand1.length d2, .int .i64 P.turn, .int .i64 P.quiet])
    try (replace HRO := hide (HRO.out.ext (ext_alloc (Below.refl _ _) (.cells #[.slice (some ⟨g0, 0, none⟩) P.cells.length d0, .slice (some ⟨g1, 0, none⟩) P.hand0.length d1, .slice (some ⟨g2, 0, none⟩) P.hand1.length d2, .int .i64 P.turn, .int .i64 P.quiet] 29))))
    have HBL : Hid (w.heap.size ≤ w4.heap.size) := hide (ext_trans X4.out yy).size
    replace yy := ext_alloc yy (.cells #[.slice (some ⟨g0, 0, none⟩) P.cells.length d0, .slice (some ⟨g1, 0, none⟩) P.hand0.length d1, .slice (some ⟨g2, 0, none⟩) P.hand1.length d2, .int .i64 P.turn, .int .i64 P.quiet] 29)
    have hT1 := keepK.out _ yy
    refine hK.out _ _ hT1 (fun _ => trivial) ?_
    clear hK K
    try simp only [Act.put, List.setIfInBounds_toArray, List.set_cons_zero, List.set_cons_succ]
    refine anyK_on1 1 (by kernel_rfl) ?_
    refine anyK_one 1 (o := ?oo10) ?ho10 ?hk10
    case ho10 => (simp only [List.getElem?_toArray, List.getElem?_cons_succ, List.getElem?_cons_zero]; rfl)
    case hk10 =>
    intro K hK
    go_simp
    refine (HCP.out _ (ext_trans X4.out yy)).mono ?_
    rintro e wk ⟨vr, bs, rfl, -, own, xx⟩
    try go_wp2_with fail
    replace yy := ext_trans yy xx
    have HRO := hide own
    obtain ⟨pA2, pc2, sA2, sc2, eA2, ec2, vss2, rfl, -⟩ := own
    try (replace HL := hide (HL.out.ext xx))
    have hT2 := keepK.out _ yy
    refine hK.out _ _ hT2 (fun _ => trivial) ?_
    clear hK K
    try simp only [Act.put, List.setIfInBounds_toArray, List.set_cons_zero, List.set_cons_succ]
    refine anyK_take 4 (oi := ?oo11) ?ho11 (by kernel_rfl) (by kernel_rfl) (by kernel_rfl) (by kernel_rfl) ?hq11 ?hw11 hT2 (fun _ => trivial) (v := ?vv11) ?hy11 ?hk11
    case ho11 => (simp only [List.getElem?_toArray, List.getElem?_cons_succ, List.getElem?_cons_zero]; rfl)
    case hq11 => exact fun _ _ _ h => h
    case hw11 => rfl
    case hy11 =>
      intro W hW
      go_simp
      first | done | with_reducible rfl
    case hk11 =>
    try simp only [Act.put, List.setIfInBounds_toArray, List.set_cons_zero, List.set_cons_succ]
    refine anyK_on1 5 (by kernel_rfl) ?_
    refine anyK_one 5 (o := ?oo12) ?ho12 ?hk12
    case ho12 => (simp only [List.getElem?_toArray, List.getElem?_cons_succ, List.getElem?_cons_zero]; rfl)
    case hk12 =>
    intro K hK
    go_simp
    have HBG : Hid (w.heap.size ≤ wk.heap.size) := hide (by rw [show wk.heap.size = wk.heap.size by simp]; exact (ext_trans X4.out yy).size)
    have HG : Hid (Blk (wk.alloc (.cells #[.string R.name, .int .i64 R.width, .int .i64 R.height, .slice pA2 R.pieces.length pc2, .slice sA2 R.start.length sc2, .bool R.falls, .bool R.keeps, .slice eA2 R.ends.length ec2, .int .i64 R.blocked, .int .i64 R.quiet, .int .i64 R.rept, .slice (some ⟨w4.heap.size, 0, none⟩) 1 1, .slice none 0 0] 109)) (wk.heap.size) 109 #[.string R.name, .int .i64 R.width, .int .i64 R.height, .slice pA2 R.pieces.length pc2, .slice sA2 R.start.length sc2, .bool R.falls, .bool R.keeps, .slice eA2 R.ends.length ec2, .int .i64 R.blocked, .int .i64 R.quiet, .int .i64 R.rept, .slice (some ⟨w4.heap.size, 0, none⟩) 1 1, .slice none 0 0]) := hide (by rw [show wk.heap.size = wk.heap.size by simp]; exact Blk.new wk 109 #[.string R.name, .int .i64 R.width, .int .i64 R.height, .slice pA2 R.pieces.length pc2, .slice sA2 R.start.length sc2, .bool R.falls, .bool R.keeps, .slice eA2 R.ends.length ec2, .int .i64 R.blocked, .int .i64 R.quiet, .int .i64 R.rept, .slice (some ⟨w4.heap.size, 0, none⟩) 1 1, .slice none 0 0])
    replace HRO := hide (HRO.out.ext (ext_alloc (Below.refl _ _) (.cells #[.string R.name, .int .i64 R.width, .int .i64 R.height, .slice pA2 R.pieces.length pc2, .slice sA2 R.start.length sc2, .bool R.falls, .bool R.keeps, .slice eA2 R.ends.length ec2, .int .i64 R.blocked, .int .i64 R.quiet, .int .i64 R.rept, .slice (some ⟨w4.heap.size, 0, none⟩) 1 1, .slice none 0 0] 109)))
    replace HL := hide (HL.out.ext (ext_alloc (Below.refl _ _) (.cells #[.string R.name, .int .i64 R.width, .int .i64 R.height, .slice pA2 R.pieces.length pc2, .slice sA2 R.start.length sc2, .bool R.falls, .bool R.keeps, .slice eA2 R.ends.length ec2, .int .i64 R.blocked, .int .i64 R.quiet, .int .i64 R.rept, .slice (some ⟨w4.heap.size, 0, none⟩) 1 1, .slice none 0 0] 109)))
    replace yy := ext_alloc yy (.cells #[.string R.name, .int .i64 R.width, .int .i64 R.height, .slice pA2 R.pieces.length pc2, .slice sA2 R.start.length sc2, .bool R.falls, .bool R.keeps, .slice eA2 R.ends.length ec2, .int .i64 R.blocked, .int .i64 R.quiet, .int .i64 R.rept, .slice (some ⟨w4.heap.size, 0, none⟩) 1 1, .slice none 0 0] 109)
    have hT3 := keepK.out _ yy
    refine hK.out _ _ hT3 (fun _ => trivial) ?_
    clear hK K
    try simp only [Act.put, List.setIfInBounds_toArray, List.set_cons_zero, List.set_cons_succ]
    refine anyK_take 6 (oi := ?oo13) ?ho13 (by kernel_rfl) (by kernel_rfl) (by kernel_rfl) (by kernel_rfl) ?hq13 ?hw13 hT3 (fun _ => trivial) (v := ?vv13) ?hy13 ?hk13
    case ho13 => (simp only [List.getElem?_toArray, List.getElem?_cons_succ, List.getElem?_cons_zero]; rfl)
    case hq13 => exact fun _ _ _ h => h
    case hw13 => rfl
    case hy13 =>
      intro W hW
      go_simp
      first | done | with_reducible rfl
    case hk13 =>
    try simp only [Act.put, List.setIfInBounds_toArray, List.set_cons_zero, List.set_cons_succ]
    refine anyK_take 7 (oi := ?oo14) ?ho14 (by kernel_rfl) (by kernel_rfl) (by kernel_rfl) (by kernel_rfl) ?hq14 ?hw14 hT3 (fun _ => trivial) (v := ?vv14) ?hy14 ?hk14
    case ho14 => (simp only [List.getElem?_toArray, List.getElem?_cons_succ, List.getElem?_cons_zero]; rfl)
    case hq14 => exact fun _ _ _ h => h
    case hw14 => rfl
    case hy14 =>
      intro W hW
      go_simp
      first | done | with_reducible rfl
    case hk14 =>
    try simp only [Act.put, List.setIfInBounds_toArray, List.set_cons_zero, List.set_cons_succ]
    refine anyK_done (by kernel_rfl) ?_ _
    clear keepK hT0 hT1 hT2 hT3
    have HX := hide (ext_trans X4.out yy)
    have HPF := hide (HP4.out.ext yy)
    go_wp2
    go_ret2
    exact ⟨_, rfl, pA2, pc2, sA2, sc2, eA2, ec2, bs, _, _, HG.out, HRO.out, ownP_one HL.out HBL.out HPF.out, OwnM.nil _ _, HBG.out, HX.out⟩
end Go.Proofs.Ytmofipijjokjfaa
namespace Go.Proofs.Ytmofipijjokjfaa
set_option linter.unusedVariables false
theorem play_zero {R : RulesM} {ps : List PosM} {ms : List MoveM} {P : PosM} {m : MoveM} (h : playE R ps ms P m = 0) : resultG R ps P = 0 ∧ m ∈ listM R P ∧ ms.length ≠ 400 := by
  by_cases h1 : resultG R ps P = 0
  · by_cases h2 : m ∈ listM R P
    · by_cases h3 : ms.length = 400
      · rw [play3 h1 h2 h3] at h; exact absurd h (by decide)
      · exact ⟨h1, h2, h3⟩
    · rw [play2 h1 h2] at h; exact absurd h (by decide)
  · rw [play1 h1] at h; exact absurd h (by decide)
/-- The positions and moves of a game. -/
structure Played (R : RulesM) (ps : List PosM) (ms : List MoveM) : Prop where
  len : ps.length = ms.length + 1
  first : ps[0]? = some (beginP R)
  step : ∀ (k : Nat) (m : MoveM) (P : PosM), ms[k]? = some m → ps[k]? = some P → playE R (ps.take (k + 1)) (ms.take k) P m = 0 ∧ ps[k + 1]? = some (makeM R P m)
theorem played_nil (R : RulesM) : Played R [beginP R] [] := ⟨rfl, rfl, fun k m P h => by simp at h⟩
theorem last_take {ps : List PosM} {k : Nat} {P : PosM} (h : ps[k]? = some P) : (ps.take (k + 1)).getLast? = some P := by
  rw [List.take_add_one, h]
  simp
theorem Played.last {R : RulesM} {ps : List PosM} {ms : List MoveM} (h : Played R ps ms) : ∃ P, ps[ms.length]? = some P ∧ ps.getLast? = some P := by
  have hl := h.len
  have hlt : ms.length < ps.length := by omega
  refine ⟨ps[ms.length], List.getElem?_eq_getElem hlt, ?_⟩
  rw [List.getLast?_eq_getElem?, show ps.length - 1 = ms.length by omega]
  exact List.getElem?_eq_getElem hlt
theorem Played.at_last {R : RulesM} {ps : List PosM} {ms : List MoveM} (h : Played R ps ms) {P : PosM} (hP : ps.getLast? = some P) : ps[ms.length]? = some P := by
  obtain ⟨Q, h1, h2⟩ := h.last
  rw [hP] at h2
  cases h2
  exact h1
theorem Played.snoc {R : RulesM} {ps : List PosM} {ms : List MoveM} (h : Played R ps ms) {P : PosM} {m : MoveM} (hP : ps.getLast? = some P) (hm : playE R ps ms P m = 0) : Played R (ps ++ [makeM R P m]) (ms ++ [m]) := by
  have hl := h.len
  have hL := h.at_last hP
  refine ⟨by simp [hl], ?_, ?_⟩
  · rw [List.getElem?_append_left (by omega)]; exact h.first
  · intro k m' P' h1 h2
    by_cases hk : k < ms.length
    · rw [List.getElem?_append_left hk] at h1
      rw [List.getElem?_append_left (by omega)] at h2
      have s := h.step k m' P' h1 h2
      rw [List.take_append_of_le_length (by omega), List.take_append_of_le_length (by omega), List.getElem?_append_left (by omega)]
      exact s
    · by_cases hk2 : k = ms.length
      · subst hk2
        rw [List.getElem?_append_right (by omega)] at h1
        rw [List.getElem?_append_left (by omega), hL] at h2
        simp only [Nat.sub_self, List.getElem?_cons_zero, Option.some.injEq] at h1 h2
        subst h1 h2
        refine ⟨?_, ?_⟩
        · rw [List.take_append_of_le_length (by omega), List.take_append_of_le_length (by omega), List.take_of_length_le (by omega), List.take_of_length_le (by omega)]
          exact hm
        · rw [List.getElem?_append_right (by omega), show ms.length + 1 - ps.length = 0 by omega]; rfl
      · rw [List.getElem?_eq_none (by simp; omega)] at h1
        cases h1
theorem Played.pop {R : RulesM} {ps : List PosM} {ms : List MoveM} {P : PosM} {m : MoveM} (h : Played R (ps ++ [P]) (ms ++ [m])) : Played R ps ms := by
  have hl : ps.length = ms.length + 1 := by have := h.len; simpa using this
  refine ⟨hl, ?_, ?_⟩
  · have := h.first
    rwa [List.getElem?_append_left (by omega)] at this
  · intro k m' P' h1 h2
    have hk := (List.getElem?_eq_some_iff.1 h1).1
    have s := h.step k m' P' (by rw [List.getElem?_append_left hk]; exact h1) (by rw [List.getElem?_append_left (by omega)]; exact h2)
    rwa [List.take_append_of_le_length (by omega), List.take_append_of_le_length (by omega), List.getElem?_append_left (by omega)] at s
theorem Played.get {R : RulesM} {ps : List PosM} {ms : List MoveM} (h : Played R ps ms) (hV : Valid R) : ∀ (k : Nat) (P : PosM), ps[k]? = some P → Sound R P
  | 0, P, hk => by
    rw [h.first] at hk
    cases hk
    exact sound_begin hV
  | k + 1, P, hk => by
    have hlt := (List.getElem?_eq_some_iff.1 hk).1
    have hl := h.len
    have h1 : ms[k]? = some ms[k] := List.getElem?_eq_getElem (by omega)
    have h2 : ps[k]? = some ps[k] := List.getElem?_eq_getElem (by omega)
    have s := h.step k _ _ h1 h2
    rw [s.2] at hk
    cases hk
    exact sound_make hV (h.get hV k _ h2) (mem_listM.1 (play_zero s.1).2.1)
theorem Played.sound {R : RulesM} {ps : List PosM} {ms : List MoveM} (h : Played R ps ms) (hV : Valid R) : ∀ Q ∈ ps, Sound R Q := fun Q hQ => by
  obtain ⟨k, hk⟩ := List.getElem?_of_mem hQ
  exact h.get hV k Q hk
theorem Played.bd {R : RulesM} {ps : List PosM} {ms : List MoveM} (h : Played R ps ms) : ms.length ≤ 400 := by
  by_cases hn : ms.length ≤ 400
  · exact hn
  · have hl := h.len
    have h1 : ms[400]? = some (ms[400]'(by omega)) := List.getElem?_eq_getElem _
    have h2 : ps[400]? = some (ps[400]'(by omega)) := List.getElem?_eq_getElem _
    have s := (play_zero (h.step 400 _ _ h1 h2).1).2.2
    rw [List.length_take] at s
    omega
theorem Played.take {R : RulesM} {ps : List PosM} {ms : List MoveM} (h : Played R ps ms) (k : Nat) (hk : k ≤ ms.length) : Played R (ps.take (k + 1)) (ms.take k) := by
  have hl := h.len
  refine ⟨by rw [List.length_take, List.length_take]; omega, by rw [List.getElem?_take_of_lt (by omega)]; exact h.first, fun j m P h1 h2 => ?_⟩
  have hj := (List.getElem?_eq_some_iff.1 h1).1
  rw [List.length_take] at hj
  rw [List.getElem?_take_of_lt (by omega)] at h1 h2
  have s := h.step j m P h1 h2
  rw [List.take_take, List.take_take, Nat.min_eq_left (by omega), Nat.min_eq_left (by omega), List.getElem?_take_of_lt (by omega)]
  exact s
end Go.Proofs.Ytmofipijjokjfaa
namespace Go.Proofs.Ytmofipijjokjfaa
open Go.ChangeShapes Go.WideShapes Go.ChangeAt Go.RowKit Go.Shelf
set_option linter.unusedVariables false
set_option linter.unusedSimpArgs false
def RunPost (w : World) (P : PosM) (x : Int) (e : Ending) (w' : World) : Prop := ∃ v', e = .returned (.tuple #[v', .int .i64 x, .int .i64 0]) ∧ PosI w' v' P ∧ Ext w w'
set_option maxHeartbeats 4000000 in
set_option maxRecDepth 100000 in
theorem Run_yes (R : RulesM) (v u : Value) (ps : List PosM) (ms : List MoveM) (P : PosM) (w : World) (hR : RulesAt w v R) (hV : Valid R) (hM : MovesAt w u ms) (hp : Played R ps ms) (hP : ps.getLast? = some P) :
    Calls Try.prog 44 #[v, u] w (RunPost w P (resultG R ps P)) := by
  have HNW := hide (fun W (hW : Ext w W) => New_yes R v W (hR.ext hW) hV)
  have HPL := hide hp
  have HV := hide hV
  have HLP := hide hP
  have hbd := hp.bd
  have HBD := hide hbd
  obtain ⟨pA, pc, sA, sc, eA, ec, rfl, -⟩ := hR
  have HM := hide hM
  obtain ⟨mA, mc, rfl, -⟩ := hM
  obtain ⟨x1, k1, k2⟩ := blks2 w #[.string R.name, .int .i64 R.width, .int .i64 R.height, .slice pA R.pieces.length pc, .slice sA R.start.length sc, .bool R.falls, .bool R.keeps, .slice eA R.ends.length ec, .int .i64 R.blocked, .int .i64 R.quiet, .int .i64 R.rept] 26 #[.slice none 0 0, .slice none 0 0, .slice none 0 0, .int .i64 0, .int .i64 0] 29
  have HX1 := hide x1
  have K2 := hide k2
  have f1 := k1.cell
  have HLT : Hid (w.heap.size ≤ w.heap.size + 1) := hide (by omega)
  clear x1 k1 k2 hp hV hP hbd
  go_enter Try.func44, Try.ntmps44
  go_wp2_with fail
  refine (HNW.out _ HX1.out).mono ?_
  generalize hwn : (w.alloc (.cells #[.string R.name, .int .i64 R.width, .int .i64 R.height, .slice pA R.pieces.length pc, .slice sA R.start.length sc, .bool R.falls, .bool R.keeps, .slice eA R.ends.length ec, .int .i64 R.blocked, .int .i64 R.quiet, .int .i64 R.rept] 26)).alloc (.cells #[.slice none 0 0, .slice none 0 0, .slice none 0 0, .int .i64 0, .int .i64 0] 29) = wn at *
  rintro e w2 ⟨BG, rfl, hG⟩
  have HG := hide hG
  clear f1 hG hwn HNW
  generalize w.heap.size + 1 = BO at *
  have hll : ms.length ≤ 400 := HBD.out
  go_wp2
  go_loopw [23] (fun i wr => ∃ k : Nat, k ≤ ms.length ∧ i = .int .i64 k ∧ GameAt wn wr BG R (ps.take (k + 1)) (ms.take k)) (fun i _ => ms.length - (intOf i).toNat)
  case atStart => exact ⟨0, Nat.zero_le _, rfl, by
    have h := HPL.out.first
    rw [show ps.take (0 + 1) = [beginP R] by rw [List.take_add_one, h]; rfl]
    exact HG.out⟩
  case round =>
    obtain ⟨k, hk, rfl, hG⟩ := hrel
    have HGr := hide hG
    clear hG
    by_cases hlt : k < ms.length
    · obtain ⟨m, hm⟩ : ∃ m, ms[k]? = some m := ⟨ms[k], List.getElem?_eq_getElem _⟩
      obtain ⟨Q, hQ⟩ : ∃ Q, ps[k]? = some Q := ⟨ps[k]'(by have := HPL.out.len; omega), List.getElem?_eq_getElem _⟩
      have s := HPL.out.step k m Q hm hQ
      obtain ⟨z1, z2, z3⟩ := play_zero s.1
      have HT := HPL.out.take k hk
      have e1 : (ps.take (k + 1)) ++ [makeM R Q m] = ps.take (k + 1 + 1) := by rw [List.take_add_one (i := k + 1), s.2]; rfl
      have e2 : (ms.take k) ++ [m] = ms.take (k + 1) := by rw [List.take_add_one, hm]; rfl
      have l1 : (ps.take (k + 1)).length ≤ 100000 := by rw [List.length_take]; omega
      have l2 : (ms.take k).length ≤ 100000 := by rw [List.length_take]; omega
      have HPY := hide (fun W (x : Ext wr W) => Play_yes (HGr.out.ext x) l1 l2 HV.out (HT.sound HV.out) (last_take hQ) m z1 z2 z3)
      rw [e1, e2] at HPY
      obtain ⟨A', c', e', hc'⟩ := (HM.out.ext (ext_trans HX1.out HGr.out.old))
      obtain ⟨b, o, rfl, m0, m1, m2⟩ := moves_get hc' hm
      simp only [Value.slice.injEq] at e'
      obtain ⟨rfl, -, rfl⟩ := e'
      clear s z1 z2 z3 HT e1 e2 l1 l2 hm hQ hc'
      go_upto_region 7 with fail
      obtain ⟨x5, k5⟩ := blks1 wr #[.int .i64 m.src, .int .i64 m.dst, .int .i64 m.piece] 39
      have HPY5 := hide (HPY.out _ x5)
      have f5 := k5.cell
      clear x5 k5 m0 m1 m2 HPY
      generalize wr.alloc (.cells #[.int .i64 m.src, .int .i64 m.dst, .int .i64 m.piece] 39) = w5 at *
      generalize wr.heap.size = BM at *
      go_wp2_with fail
      refine HPY5.out.mono ?_
      rintro e w6 ⟨rfl, hG6⟩
      have HG6 := hide hG6
      clear hG6 f5
      go_wp2
      go_roundw
      case rel => exact ⟨k + 1, by omega, by go_num, HG6.out⟩
      case measure => simp [intOf]; omega
    · obtain rfl : k = ms.length := by omega
      have ht : ps.take (ms.length + 1) = ps := List.take_of_length_le (by have := HPL.out.len; omega)
      rw [ht, List.take_length] at HGr
      have hl : ps.length ≤ 100000 := by have := HPL.out.len; omega
      have HPO := hide (fun W (x : Ext wr W) => GPosition_any (HGr.out.ext x) (by omega) (fit_of HV.out (HPL.out.sound HV.out)) HLP.out)
      have HRE := hide (fun W (x : Ext wr W) => GResult_any (HGr.out.ext x) (by omega) HV.out (HPL.out.sound HV.out) HLP.out)
      have XR := hide (ext_trans HX1.out HGr.out.old)
      have KO := hide (K2.out.ext HGr.out.old)
      clear ht hl hk hlt
      generalize resultG R ps P = x at *
      go_wp2_with fail
      refine (HPO.out _ (Below.refl _ _)).mono ?_
      rintro e w6 ⟨v6, rfl, p6, x6⟩
      have P6 := hide p6
      obtain ⟨g0, d0, g1, d1, g2, d2, rfl, -⟩ := p6
      have X6 := hide x6
      clear x6
      go_wp2_with fail
      refine (HRE.out _ X6.out).mono ?_
      rintro e w7 ⟨rfl, x7⟩
      have P7 := hide (P6.out.ext x7)
      have KO7 := hide ((KO.out.ext X6.out).ext x7)
      have X7 := hide (ext_trans XR.out (ext_trans X6.out x7))
      clear x7 X6 P6 KO XR
      have gz := KO7.out.frozen
      have gc := KO7.out.cell
      go_wp2
      have K9 := blk_put (i := 4) (u := .int .i64 P.quiet) (blk_put (i := 3) (u := .int .i64 P.turn) (blk_put (i := 2) (u := .slice (some ⟨g2, 0, none⟩) P.hand1.length d2) (blk_put (i := 1) (u := .slice (some ⟨g1, 0, none⟩) P.hand0.length d1) (blk_put (i := 0) (u := .slice (some ⟨g0, 0, none⟩) P.cells.length d0) KO7.out rfl) rfl) rfl) rfl) (cs' := #[.slice (some ⟨g0, 0, none⟩) P.cells.length d0, .slice (some ⟨g1, 0, none⟩) P.hand0.length d1, .slice (some ⟨g2, 0, none⟩) P.hand1.length d2, .int .i64 P.turn, .int .i64 P.quiet]) rfl
      have X9 := (ext_set (ext_set (ext_set (ext_set (ext_set X7.out (p := ⟨BO, 0, none⟩) HLT.out (.slice (some ⟨g0, 0, none⟩) P.cells.length d0)) (p := ⟨BO, 1, none⟩) HLT.out (.slice (some ⟨g1, 0, none⟩) P.hand0.length d1)) (p := ⟨BO, 2, none⟩) HLT.out (.slice (some ⟨g2, 0, none⟩) P.hand1.length d2)) (p := ⟨BO, 3, none⟩) HLT.out (.int .i64 P.turn)) (p := ⟨BO, 4, none⟩) HLT.out (.int .i64 P.quiet))
      have P9 := PosI.far5 (u0 := .slice (some ⟨g0, 0, none⟩) P.cells.length d0) (u1 := .slice (some ⟨g1, 0, none⟩) P.hand0.length d1) (u2 := .slice (some ⟨g2, 0, none⟩) P.hand1.length d2) (u3 := .int .i64 P.turn) (u4 := .int .i64 P.quiet) P7.out KO7.out
      generalize (((((w7.setCell ⟨BO, 0, none⟩ (.slice (some ⟨g0, 0, none⟩) P.cells.length d0)).setCell ⟨BO, 1, none⟩ (.slice (some ⟨g1, 0, none⟩) P.hand0.length d1)).setCell ⟨BO, 2, none⟩ (.slice (some ⟨g2, 0, none⟩) P.hand1.length d2)).setCell ⟨BO, 3, none⟩ (.int .i64 P.turn)).setCell ⟨BO, 4, none⟩ (.int .i64 P.quiet)) = Wf at *
      clear gz gc
      have rr0 : Wf.cell? ⟨BO, 0, none⟩ = some (.slice (some ⟨g0, 0, none⟩) P.cells.length d0) := K9.cell 0
      have rr1 : Wf.cell? ⟨BO, 1, none⟩ = some (.slice (some ⟨g1, 0, none⟩) P.hand0.length d1) := K9.cell 1
      have rr2 : Wf.cell? ⟨BO, 2, none⟩ = some (.slice (some ⟨g2, 0, none⟩) P.hand1.length d2) := K9.cell 2
      have rr3 : Wf.cell? ⟨BO, 3, none⟩ = some (.int .i64 P.turn) := K9.cell 3
      have rr4 : Wf.cell? ⟨BO, 4, none⟩ = some (.int .i64 P.quiet) := K9.cell 4
      refine bodyPost_ret (v := .tuple #[.agg #[.slice (some ⟨g0, 0, none⟩) P.cells.length d0, .slice (some ⟨g1, 0, none⟩) P.hand0.length d1, .slice (some ⟨g2, 0, none⟩) P.hand1.length d2, .int .i64 P.turn, .int .i64 P.quiet], .int .i64 x, .int .i64 0]) ?_ rfl ?_
      · simp [results, Try.results44, go_sem, rr0, rr1, rr2, rr3, rr4]
      · exact ⟨_, rfl, P9, X9⟩
end Go.Proofs.Ytmofipijjokjfaa
namespace Go.Proofs.Ytmofipijjokjfaa
open Go.ChangeShapes Go.WideShapes Go.ChangeAt Go.RowKit Go.Shelf
set_option linter.unusedVariables false
set_option linter.unusedSimpArgs false
def gp0 : PosM := beginP threeR
def gpM (P : PosM) (s : Int) : PosM := makeM threeR P ⟨-1, s, 0⟩
def winMs : List MoveM := [⟨-1, 0, 0⟩, ⟨-1, 3, 0⟩, ⟨-1, 1, 0⟩, ⟨-1, 4, 0⟩, ⟨-1, 2, 0⟩]
def winP : PosM := gpM (gpM (gpM (gpM (gpM gp0 0) 3) 1) 4) 2
def winPs : List PosM := [gp0, gpM gp0 0, gpM (gpM gp0 0) 3, gpM (gpM (gpM gp0 0) 3) 1, gpM (gpM (gpM (gpM gp0 0) 3) 1) 4, winP]
theorem win_steps : playE threeR [gp0] [] gp0 ⟨-1, 0, 0⟩ = 0 ∧ playE threeR [gp0, gpM gp0 0] [⟨-1, 0, 0⟩] (gpM gp0 0) ⟨-1, 3, 0⟩ = 0 ∧ playE threeR [gp0, gpM gp0 0, gpM (gpM gp0 0) 3] [⟨-1, 0, 0⟩, ⟨-1, 3, 0⟩] (gpM (gpM gp0 0) 3) ⟨-1, 1, 0⟩ = 0 ∧
    playE threeR [gp0, gpM gp0 0, gpM (gpM gp0 0) 3, gpM (gpM (gpM gp0 0) 3) 1] [⟨-1, 0, 0⟩, ⟨-1, 3, 0⟩, ⟨-1, 1, 0⟩] (gpM (gpM (gpM gp0 0) 3) 1) ⟨-1, 4, 0⟩ = 0 ∧
    playE threeR [gp0, gpM gp0 0, gpM (gpM gp0 0) 3, gpM (gpM (gpM gp0 0) 3) 1, gpM (gpM (gpM (gpM gp0 0) 3) 1) 4] [⟨-1, 0, 0⟩, ⟨-1, 3, 0⟩, ⟨-1, 1, 0⟩, ⟨-1, 4, 0⟩] (gpM (gpM (gpM (gpM gp0 0) 3) 1) 4) ⟨-1, 2, 0⟩ = 0 := by decide +kernel
theorem win_played : Played threeR winPs winMs :=
  (((((played_nil threeR).snoc (P := gp0) rfl win_steps.1).snoc (P := gpM gp0 0) rfl win_steps.2.1).snoc (P := gpM (gpM gp0 0) 3) rfl win_steps.2.2.1).snoc (P := gpM (gpM (gpM gp0 0) 3) 1) rfl win_steps.2.2.2.1).snoc (P := gpM (gpM (gpM (gpM gp0 0) 3) 1) 4) rfl win_steps.2.2.2.2
theorem win_last : winPs.getLast? = some winP := rfl
theorem win_result : resultG threeR winPs winP = 1 := by decide +kernel
theorem win_nine : winP.cells.length = 9 := by decide +kernel
theorem near_g : resultG threeR [gp0] gp0 = 0 ∧ ¬ (⟨-1, 9, 0⟩ : MoveM) ∈ listM threeR gp0 ∧ (⟨-1, 4, 0⟩ : MoveM) ∈ listM threeR gp0 ∧ countG [gp0, gpM gp0 4] (gpM gp0 4) = 1 := by decide +kernel
theorem begin_soundL {R : RulesM} (hV : Valid R) : ∀ Q ∈ [beginP R], Sound R Q := (played_nil R).sound hV
theorem fine_okA {w : World} {g : Nat} (h : Blk w g 32 #[.int .i64 0, .int .i64 0]) : Calls Try.prog 24 #[.slice (some ⟨g, 0, none⟩) 2 2] w fun e w' => e = .returned (.bool true) ∧ Ext w w' :=
  fine_ext (fine_any (some ⟨g, 0, none⟩) 2 2 [0, 0] w rfl (by omega) (blk_ints h))
set_option maxHeartbeats 4000000 in
set_option maxRecDepth 100000 in
theorem played_any (w : World) : Calls Try.prog 36 #[] w fun e w' => e = .returned (.bool true) ∧ Ext w w' := by
  have HRN := hide (fun W (v1 v2 : Value) (h1 : RulesAt W v1 threeR) (h2 : MovesAt W v2 winMs) => Run_yes threeR v1 v2 winPs winMs winP W h1 valid_three h2 win_played win_last)
  rw [win_result] at HRN
  have HC9 := hide win_nine
  generalize winP = P at *
  go_enter Try.func36, Try.ntmps36
  go_wp2_with fail
  refine (three_any _).mono ?_
  rintro e w2 ⟨v1, rfl, h1, x⟩
  have X := x
  clear x
  go_wp2_with fail
  refine (put_any 0 _).mono ?_
  rintro e w3 ⟨rfl, x⟩
  replace h1 := h1.ext x
  replace X := ext_trans X x
  clear x
  go_wp2_with fail
  refine (put_any 3 _).mono ?_
  rintro e w4 ⟨rfl, x⟩
  replace h1 := h1.ext x
  replace X := ext_trans X x
  clear x
  go_wp2_with fail
  refine (put_any 1 _).mono ?_
  rintro e w5 ⟨rfl, x⟩
  replace h1 := h1.ext x
  replace X := ext_trans X x
  clear x
  go_wp2_with fail
  refine (put_any 4 _).mono ?_
  rintro e w6 ⟨rfl, x⟩
  replace h1 := h1.ext x
  replace X := ext_trans X x
  clear x
  go_wp2_with fail
  refine (put_any 2 _).mono ?_
  rintro e w7 ⟨rfl, x⟩
  replace h1 := h1.ext x
  replace X := ext_trans X x
  clear x
  go_wp2_with fail
  have hM : MovesAt (w7.alloc (.cells #[.int .i64 (-1), .int .i64 0, .int .i64 0, .int .i64 (-1), .int .i64 3, .int .i64 0, .int .i64 (-1), .int .i64 1, .int .i64 0, .int .i64 (-1), .int .i64 4, .int .i64 0, .int .i64 (-1), .int .i64 2, .int .i64 0] 39)) (.slice (some ⟨w7.heap.size, 0, none⟩) 5 5) winMs := ⟨_, 5, rfl, cellsAt_new w7 39 (winMs.flatMap MoveM.vals)⟩
  replace h1 := h1.ext (ext_alloc (Below.refl _ _) (.cells #[.int .i64 (-1), .int .i64 0, .int .i64 0, .int .i64 (-1), .int .i64 3, .int .i64 0, .int .i64 (-1), .int .i64 1, .int .i64 0, .int .i64 (-1), .int .i64 4, .int .i64 0, .int .i64 (-1), .int .i64 2, .int .i64 0] 39))
  replace X := ext_alloc X (.cells #[.int .i64 (-1), .int .i64 0, .int .i64 0, .int .i64 (-1), .int .i64 3, .int .i64 0, .int .i64 (-1), .int .i64 1, .int .i64 0, .int .i64 (-1), .int .i64 4, .int .i64 0, .int .i64 (-1), .int .i64 2, .int .i64 0] 39)
  refine (HRN.out _ _ _ h1 hM).mono ?_
  rintro e w8 ⟨v2, rfl, p2, x⟩
  replace h1 := h1.ext x
  replace X := ext_trans X x
  clear x
  obtain ⟨g0, d0, g1, d1, g2, d2, rfl, -⟩ := p2
  clear HRN hM h1
  obtain ⟨xa, kP⟩ := blks1 w8 #[.slice (some ⟨g0, 0, none⟩) P.cells.length d0, .slice (some ⟨g1, 0, none⟩) P.hand0.length d1, .slice (some ⟨g2, 0, none⟩) P.hand1.length d2, .int .i64 P.turn, .int .i64 P.quiet] 29
  replace X := ext_trans X xa
  clear xa
  go_wp2_with fail
  generalize (w8.alloc (.cells #[.slice (some ⟨g0, 0, none⟩) P.cells.length d0, .slice (some ⟨g1, 0, none⟩) P.hand0.length d1, .slice (some ⟨g2, 0, none⟩) P.hand1.length d2, .int .i64 P.turn, .int .i64 P.quiet] 29)) = w9 at *
  generalize w8.heap.size = BP at *
  refine (three_any _).mono ?_
  rintro e w10 ⟨v3, rfl, h3, x⟩
  replace kP := kP.ext x
  replace X := ext_trans X x
  clear x
  go_wp2_with fail
  have XW := X
  refine (New_yes threeR _ _ h3 valid_three).mono ?_
  rintro e wg ⟨BG, rfl, hG⟩
  have XG := hG.old
  replace kP := kP.ext XG
  replace X := ext_trans X XG
  clear XG h3
  obtain ⟨xa, kE⟩ := blks1 wg #[.int .i64 0, .int .i64 0] 32
  replace kP := kP.ext xa
  replace hG := hG.ext xa
  replace X := ext_trans X xa
  clear xa
  go_wp2_with fail
  generalize (wg.alloc (.cells #[.int .i64 0, .int .i64 0] 32)) = w31 at *
  generalize wg.heap.size = BE at *
  refine (fine_okA kE).mono ?_
  rintro e w32 ⟨rfl, x⟩
  replace kP := kP.ext x
  replace hG := hG.ext x
  replace kE := kE.ext x
  replace X := ext_trans X x
  clear x
  clear kE
  have fP := kP.cell
  have t9 : ((P.cells.length : Int) == 9) = true := by rw [HC9.out]; rfl
  go_wp2_with fail
  refine (put_any 9 _).mono ?_
  rintro e w33 ⟨rfl, x⟩
  replace kP := kP.ext x
  replace hG := hG.ext x
  replace X := ext_trans X x
  replace fP := kP.cell
  clear x
  clear fP
  go_wp2_with fail
  refine (Play_ill hG (by decide) (by decide) valid_three (begin_soundL valid_three) rfl ⟨-1, 9, 0⟩ near_g.1 near_g.2.1).mono ?_
  rintro e w34 ⟨rfl, x⟩
  replace kP := kP.ext x
  replace hG := hG.ext x
  replace X := ext_trans X x
  clear x
  go_wp2_with fail
  refine (put_any 4 _).mono ?_
  rintro e w35 ⟨rfl, x⟩
  replace kP := kP.ext x
  replace hG := hG.ext x
  replace X := ext_trans X x
  clear x
  go_wp2_with fail
  refine (Play_yes hG (by decide) (by decide) valid_three (begin_soundL valid_three) (P := gp0) rfl ⟨-1, 4, 0⟩ near_g.1 near_g.2.2.1 (by decide)).mono ?_
  rintro e wp ⟨rfl, hG4⟩
  change GameAt _ wp BG threeR ([gp0] ++ [gpM gp0 4]) ([] ++ [⟨-1, 4, 0⟩]) at hG4
  clear hG kP
  clear X
  have hl2 := near_g.2.2.2
  have HS2 : ∀ Q ∈ [beginP threeR] ++ [makeM threeR (beginP threeR) ⟨-1, 4, 0⟩], Sound threeR Q := by
    have hs := begin_soundL valid_three
    intro Q hQ
    rcases List.mem_append.1 hQ with h | h
    · exact hs Q h
    · rw [List.mem_singleton.1 h]
      exact sound_make valid_three (hs _ (by simp)) (mem_listM.1 near_g.2.2.1)
  skip
  go_wp2_with fail
  refine (GCount_any hG4 (by decide) (fit_of valid_three HS2) (P := gpM gp0 4) rfl).mono ?_
  rintro e w56 ⟨rfl, x⟩
  replace hG4 := hG4.ext x
  have X := x
  clear x
  rw [show countG ([gp0] ++ [gpM gp0 4]) (gpM gp0 4) = 1 from hl2]
  go_wp2_with fail
  refine (Back_yes hG4 (by decide) (by decide)).mono ?_
  rintro e wq ⟨rfl, hG5⟩
  clear hG4
  go_wp2_with fail
  refine (Back_no (ms := []) hG5).mono ?_
  rintro e wr ⟨rfl, xr⟩
  have hG6 := hG5.ext xr
  clear hG5 xr
  go_wp2_with fail
  refine (GMoves_any hG6 (by decide)).mono ?_
  rintro e ws ⟨vs, rfl, os, xs⟩
  have XF := ext_trans XW (ext_trans hG6.old xs)
  obtain ⟨A9, c9, rfl, -⟩ := os
  clear hG6 xs
  simp only [List.length_nil]
  go_wp2
  all_goals go_ret
  all_goals exact ⟨by first | rfl | simp, XF⟩
end Go.Proofs.Ytmofipijjokjfaa
