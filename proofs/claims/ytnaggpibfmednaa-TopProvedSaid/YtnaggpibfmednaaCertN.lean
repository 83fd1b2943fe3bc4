/- Walk: the maker's node. -/
import Derived.Test.YtnaggpibfmednaaGCertA
namespace Go.Proofs.Ytnaggpibfmednaa
open Go.ChangeShapes Go.WideShapes Go.ChangeAt Go.RowKit Go.Shelf
set_option linter.unusedVariables false
set_option linter.unusedSimpArgs false
/-- What the maker's node does: its nodes stand behind the others; or there are too many. -/
def NodePost (w0 w : World) (BX : Nat) (R : RulesM) (pA sA eA : Option Addr) (pc sc ec : Nat) (ns : List (MoveM × Value)) (L : List CNode) (e : Ending) (w' : World) : Prop :=
  Ext w0 w' ∧ TFr [93, 135] w w' ∧ w.heap.size ≤ w'.heap.size ∧ ∃ ok, e = .returned (.bool ok) ∧ (ok = true → ∃ ms A c, Blk w' BX 93 #[.string R.name, .int .i64 R.width, .int .i64 R.height, .slice pA R.pieces.length pc, .slice sA R.start.length sc, .bool R.falls, .bool R.keeps, .slice eA R.ends.length ec, .int .i64 R.blocked, .int .i64 R.quiet, .int .i64 R.rept, .slice A (ns.length + ms.length) c] ∧ RowC w0.heap.size w' A c (ns ++ ms) ∧ Made w.heap.size w' ms L ∧ ns.length + ms.length ≤ 5000) ∧ (ok = false → 5000 < ns.length + L.length)

set_option maxHeartbeats 8000000 in
set_option maxRecDepth 100000 in
theorem node_step {w0 w : World} {BX : Nat} {R : RulesM} {pA sA eA : Option Addr} {pc sc ec : Nat} {d : Nat} {P : PosM} {v : Value} {ns : List (MoveM × Value)} {A : Option Addr} {c : Nat} (hV : Valid R) (hd : d ≤ 12) (hS : Sound R P) (hr : resultM R P = 0) (ho : 0 < ofM R d P) (hbx : w0.heap.size ≤ BX)
    (hR : RulesAt w0 (.agg #[.string R.name, .int .i64 R.width, .int .i64 R.height, .slice pA R.pieces.length pc, .slice sA R.start.length sc, .bool R.falls, .bool R.keeps, .slice eA R.ends.length ec, .int .i64 R.blocked, .int .i64 R.quiet, .int .i64 R.rept]) R) (hP : PosS w0 w v P) (hX : Blk w BX 93 #[.string R.name, .int .i64 R.width, .int .i64 R.height, .slice pA R.pieces.length pc, .slice sA R.start.length sc, .bool R.falls, .bool R.keeps, .slice eA R.ends.length ec, .int .i64 R.blocked, .int .i64 R.quiet, .int .i64 R.rept, .slice A ns.length c]) (hrow : RowC w0.heap.size w A c ns) (x0 : Ext w0 w) (hn : ns.length ≤ 5000)
    (ih : ∀ (d2 : Nat) (Q : PosM) (u : Value) (W : World) (ms : List (MoveM × Value)) (A : Option Addr) (c : Nat), d2 + 2 = d → Sound R Q → resultM R Q = 0 → 0 < ofM R d2 Q → PosS w0 W u Q → Blk W BX 93 #[.string R.name, .int .i64 R.width, .int .i64 R.height, .slice pA R.pieces.length pc, .slice sA R.start.length sc, .bool R.falls, .bool R.keeps, .slice eA R.ends.length ec, .int .i64 R.blocked, .int .i64 R.quiet, .int .i64 R.rept, .slice A ms.length c] → RowC w0.heap.size W A c ms → Ext w0 W → ms.length ≤ 5000 →
      Calls Try.prog 34 #[.pointer (some ⟨BX, 0, none⟩), u, .int .i64 (d2 : Int)] W (NodePost w0 W BX R pA sA eA pc sc ec ms (certM R d2 ms.length Q))) :
    Calls Try.prog 34 #[.pointer (some ⟨BX, 0, none⟩), v, .int .i64 (d : Int)] w (NodePost w0 w BX R pA sA eA pc sc ec ns (certM R d ns.length P)) := by
  obtain ⟨d1, rfl, hm, h0, hk⟩ := cert_open hV (by omega) hS hr ho
  have hfa := first_any R hV d1 (by omega)
  have HCE := hide (certM_eq (b := ns.length) (R := R) (P := P) (d := d1) rfl h0)
  have HFS := hide (fun (W : World) (hW : Ext w0 W) (u : Value) (hQ : PosAt W u P) => hfa P (.agg #[.string R.name, .int .i64 R.width, .int .i64 R.height, .slice pA R.pieces.length pc, .slice sA R.start.length sc, .bool R.falls, .bool R.keeps, .slice eA R.ends.length ec, .int .i64 R.blocked, .int .i64 R.quiet, .int .i64 R.rept]) u ((d1 + 1 : Nat) : Int) W (by omega) hS (hR.ext hW) hQ)
  generalize certM R (d1 + 1) ns.length P = CL at *
  generalize (firstM R d1 P).2 = fsc at *
  generalize (firstM R d1 P).1 = m at *
  have hSq := sound_make hV hS (mem_listM.1 hm)
  have HMK := hide (fun (W : World) (hW : Ext w0 W) (u : Value) (hQ : PosAt W u P) => Make_any R P m (.agg #[.string R.name, .int .i64 R.width, .int .i64 R.height, .slice pA R.pieces.length pc, .slice sA R.start.length sc, .bool R.falls, .bool R.keeps, .slice eA R.ends.length ec, .int .i64 R.blocked, .int .i64 R.quiet, .int .i64 R.rept]) u W (hR.ext hW) hQ hV hS (mem_listM.1 hm))
  generalize makeM R P m = q at *
  have HEM := hide (fun (W : World) (hW : Ext w0 W) (u : Value) (hQ : PosAt W u q) => EMoves_any R q (.agg #[.string R.name, .int .i64 R.width, .int .i64 R.height, .slice pA R.pieces.length pc, .slice sA R.start.length sc, .bool R.falls, .bool R.keeps, .slice eA R.ends.length ec, .int .i64 R.blocked, .int .i64 R.quiet, .int .i64 R.rept]) u W (hR.ext hW) hQ hV hSq)
  have HML := hide (movesM_len' hV hSq)
  have HMA := hide (fun (a : MoveM) (ha : a ∈ movesM R q) (W : World) (hW : Ext w0 W) (u : Value) (hQ : PosAt W u q) => Make_any R q a (.agg #[.string R.name, .int .i64 R.width, .int .i64 R.height, .slice pA R.pieces.length pc, .slice sA R.start.length sc, .bool R.falls, .bool R.keeps, .slice eA R.ends.length ec, .int .i64 R.blocked, .int .i64 R.quiet, .int .i64 R.rept]) u W (hR.ext hW) hQ hV hSq (raw_move ha))
  have HSA := hide (fun (a : MoveM) (ha : a ∈ movesM R q) => sound_move hV hSq ha)
  have HRA := hide (fun (a : MoveM) (ha : a ∈ movesM R q) (W : World) (hW : Ext w0 W) (u : Value) (hQ : PosAt W u (makeM R q a)) => Result_any R (makeM R q a) (.agg #[.string R.name, .int .i64 R.width, .int .i64 R.height, .slice pA R.pieces.length pc, .slice sA R.start.length sc, .bool R.falls, .bool R.keeps, .slice eA R.ends.length ec, .int .i64 R.blocked, .int .i64 R.quiet, .int .i64 R.rept]) u W (hR.ext hW) hQ hV (sound_move hV hSq ha))
  have HK := hide hk
  have HIH := hide ih
  have HBX := hide hbx
  have HN := hide hn
  have HD := hide hd
  obtain ⟨ML, hML⟩ : ∃ L, movesM R q = L := ⟨_, rfl⟩
  rw [hML] at HCE HEM HML HMA HSA HRA HK
  have hPA : PosAt w v P := hP.at_ x0
  obtain ⟨cA, cc, aA, ac, bA, bc, rfl, -⟩ := hPA
  obtain ⟨x1, k1⟩ := blks1 w #[.slice cA P.cells.length cc, .slice aA P.hand0.length ac, .slice bA P.hand1.length bc, .int .i64 P.turn, .int .i64 P.quiet] 29
  have KP1 := hide k1
  have X1 := hide x1
  have X01 := hide (ext_trans x0 x1)
  have KX1 := hide (hX.ext x1)
  have RW1 : Hid (RowC w0.heap.size (w.alloc (.cells #[.slice cA P.cells.length cc, .slice aA P.hand0.length ac, .slice bA P.hand1.length bc, .int .i64 P.turn, .int .i64 P.quiet] 29)) A c ns) := hide (own_ext hrow x1)
  have HPS1 := hide (hP.tfr (ts := [135]) (by decide) (TFr.of_ext x1))
  clear hML hV hS hr ho hbx hR hP hX hrow x0 ih hk h0 hm hfa hSq x1 k1 hd
  go_enter Try.func34, Try.ntmps34
  go_upto_region 1 with fail
  generalize w.alloc (.cells #[.slice cA P.cells.length cc, .slice aA P.hand0.length ac, .slice bA P.hand1.length bc, .int .i64 P.turn, .int .i64 P.quiet] 29) = w1 at *
  generalize w.heap.size = BP at KP1 ⊢
  have f1 := KX1.out.cell
  by_cases hfull : ns.length = 5000
  · have t0 : ((ns.length : Int) == 5000) = true := by simp; omega
    have HFL := hide hfull
    clear hfull hn
    go_wp2
    go_ret
    exact ⟨X01.out, TFr.of_ext X1.out, X1.out.size, false, rfl, fun h => (by cases h), fun _ => (by rw [HCE.out, List.length_cons]; have := HFL.out; omega)⟩
  · have t0 : ((ns.length : Int) == 5000) = false := beq_eq_false_iff_ne.2 (by omega)
    have hn1 : ns.length + 1 ≤ 5000 := by omega
    have HN1 := hide hn1
    clear hfull hn1
    go_upto_region 4 with fail
    clear t0 f1 hn
    go_cut [8] (fun s8 wx => ∃ BM, s8 = .pointer (some ⟨BM, 0, none⟩) ∧ Blk wx BM 37 #[.int .i64 m.src, .int .i64 m.dst, .int .i64 m.piece] ∧ Ext w1 wx)
    case first =>
      have keepK := hide (fun W (h : Ext w1 W) => (show (fun W => W.cell? ⟨BX, 0, none⟩ = some (.string R.name) ∧ W.cell? ⟨BX, 1, none⟩ = some (.int .i64 R.width) ∧ W.cell? ⟨BX, 2, none⟩ = some (.int .i64 R.height) ∧ W.cell? ⟨BX, 3, none⟩ = some (.slice pA R.pieces.length pc) ∧ W.cell? ⟨BX, 4, none⟩ = some (.slice sA R.start.length sc) ∧ W.cell? ⟨BX, 5, none⟩ = some (.bool R.falls) ∧ W.cell? ⟨BX, 6, none⟩ = some (.bool R.keeps) ∧ W.cell? ⟨BX, 7, none⟩ = some (.slice eA R.ends.length ec) ∧ W.cell? ⟨BX, 8, none⟩ = some (.int .i64 R.blocked) ∧ W.cell? ⟨BX, 9, none⟩ = some (.int .i64 R.quiet) ∧ W.cell? ⟨BX, 10, none⟩ = some (.int .i64 R.rept) ∧ W.cell? ⟨BX, 11, none⟩ = some (.slice A ns.length c) ∧ W.cell? ⟨BP, 0, none⟩ = some (.slice cA P.cells.length cc) ∧ W.cell? ⟨BP, 1, none⟩ = some (.slice aA P.hand0.length ac) ∧ W.cell? ⟨BP, 2, none⟩ = some (.slice bA P.hand1.length bc) ∧ W.cell? ⟨BP, 3, none⟩ = some (.int .i64 P.turn) ∧ W.cell? ⟨BP, 4, none⟩ = some (.int .i64 P.quiet) ∧ Ext w1 W) W from ⟨(KX1.out.ext h).cell 0, (KX1.out.ext h).cell 1, (KX1.out.ext h).cell 2, (KX1.out.ext h).cell 3, (KX1.out.ext h).cell 4, (KX1.out.ext h).cell 5, (KX1.out.ext h).cell 6, (KX1.out.ext h).cell 7, (KX1.out.ext h).cell 8, (KX1.out.ext h).cell 9, (KX1.out.ext h).cell 10, (KX1.out.ext h).cell 11, (KP1.out.ext h).cell 0, (KP1.out.ext h).cell 1, (KP1.out.ext h).cell 2, (KP1.out.ext h).cell 3, (KP1.out.ext h).cell 4, h⟩))
      have yy : Ext w1 w1.drew := Below.drew (Below.refl _ _)
      refine region_K (fun W => W.cell? ⟨BX, 0, none⟩ = some (.string R.name) ∧ W.cell? ⟨BX, 1, none⟩ = some (.int .i64 R.width) ∧ W.cell? ⟨BX, 2, none⟩ = some (.int .i64 R.height) ∧ W.cell? ⟨BX, 3, none⟩ = some (.slice pA R.pieces.length pc) ∧ W.cell? ⟨BX, 4, none⟩ = some (.slice sA R.start.length sc) ∧ W.cell? ⟨BX, 5, none⟩ = some (.bool R.falls) ∧ W.cell? ⟨BX, 6, none⟩ = some (.bool R.keeps) ∧ W.cell? ⟨BX, 7, none⟩ = some (.slice eA R.ends.length ec) ∧ W.cell? ⟨BX, 8, none⟩ = some (.int .i64 R.blocked) ∧ W.cell? ⟨BX, 9, none⟩ = some (.int .i64 R.quiet) ∧ W.cell? ⟨BX, 10, none⟩ = some (.int .i64 R.rept) ∧ W.cell? ⟨BX, 11, none⟩ = some (.slice A ns.length c) ∧ W.cell? ⟨BP, 0, none⟩ = some (.slice cA P.cells.length cc) ∧ W.cell? ⟨BP, 1, none⟩ = some (.slice aA P.hand0.length ac) ∧ W.cell? ⟨BP, 2, none⟩ = some (.slice bA P.hand1.length bc) ∧ W.cell? ⟨BP, 3, none⟩ = some (.int .i64 P.turn) ∧ W.cell? ⟨BP, 4, none⟩ = some (.int .i64 P.quiet) ∧ Ext w1 W) (fun _ => True) [] (by kernel_rfl) ?_
      have hT0 := keepK.out _ yy
      refine anyK_take 0 (oi := ?oo1) ?ho1 (by kernel_rfl) (by kernel_rfl) (by kernel_rfl) (by kernel_rfl) ?hq1 ?hw1 hT0 (fun _ => trivial) (v := ?vv1) ?hy1 ?hk1
      case ho1 => (simp only [List.getElem?_toArray, List.getElem?_cons_succ, List.getElem?_cons_zero]; rfl)
      case hq1 => exact fun _ _ _ h => h
      case hw1 => rfl
      case hy1 =>
        intro W hW
        go_simp
        first | done | with_reducible rfl
      case hk1 =>
      try simp only [Act.put, List.setIfInBounds_toArray, List.set_cons_zero, List.set_cons_succ]
      refine anyK_take 1 (oi := ?oo2) ?ho2 (by kernel_rfl) (by kernel_rfl) (by kernel_rfl) (by kernel_rfl) ?hq2 ?hw2 hT0 (fun _ => trivial) (v := ?vv2) ?hy2 ?hk2
      case ho2 => (simp only [List.getElem?_toArray, List.getElem?_cons_succ, List.getElem?_cons_zero]; rfl)
      case hq2 => exact fun _ _ _ h => h
      case hw2 => rfl
      case hy2 =>
        intro W hW
        go_simp
        first | done | with_reducible rfl
      case hk2 =>
      try simp only [Act.put, List.setIfInBounds_toArray, List.set_cons_zero, List.set_cons_succ]
      refine anyK_take 2 (oi := ?oo3) ?ho3 (by kernel_rfl) (by kernel_rfl) (by kernel_rfl) (by kernel_rfl) ?hq3 ?hw3 hT0 (fun _ => trivial) (v := ?vv3) ?hy3 ?hk3
      case ho3 => (simp only [List.getElem?_toArray, List.getElem?_cons_succ, List.getElem?_cons_zero]; rfl)
      case hq3 => exact fun _ _ _ h => h
      case hw3 => rfl
      case hy3 =>
        intro W hW
        go_simp
        first | done | with_reducible rfl
      case hk3 =>
      try simp only [Act.put, List.setIfInBounds_toArray, List.set_cons_zero, List.set_cons_succ]
      refine anyK_take 3 (oi := ?oo4) ?ho4 (by kernel_rfl) (by kernel_rfl) (by kernel_rfl) (by kernel_rfl) ?hq4 ?hw4 hT0 (fun _ => trivial) (v := ?vv4) ?hy4 ?hk4
      case ho4 => (simp only [List.getElem?_toArray, List.getElem?_cons_succ, List.getElem?_cons_zero]; rfl)
      case hq4 => exact fun _ _ _ h => h
      case hw4 => rfl
      case hy4 =>
        intro W hW
        obtain ⟨z0, z1, z2, z3, z4, z5, z6, z7, z8, z9, z10, z11, z12, z13, z14, z15, z16, z17⟩ := hW
        go_simp
        first | done | with_reducible rfl
      case hk4 =>
      try simp only [Act.put, List.setIfInBounds_toArray, List.set_cons_zero, List.set_cons_succ]
      refine anyK_take 4 (oi := ?oo5) ?ho5 (by kernel_rfl) (by kernel_rfl) (by kernel_rfl) (by kernel_rfl) ?hq5 ?hw5 hT0 (fun _ => trivial) (v := ?vv5) ?hy5 ?hk5
      case ho5 => (simp only [List.getElem?_toArray, List.getElem?_cons_succ, List.getElem?_cons_zero]; rfl)
      case hq5 => exact fun _ _ _ h => h
      case hw5 => rfl
      case hy5 =>
        intro W hW
        obtain ⟨z0, z1, z2, z3, z4, z5, z6, z7, z8, z9, z10, z11, z12, z13, z14, z15, z16, z17⟩ := hW
        go_simp
        first | done | with_reducible rfl
      case hk5 =>
      try simp only [Act.put, List.setIfInBounds_toArray, List.set_cons_zero, List.set_cons_succ]
      refine anyK_take 5 (oi := ?oo6) ?ho6 (by kernel_rfl) (by kernel_rfl) (by kernel_rfl) (by kernel_rfl) ?hq6 ?hw6 hT0 (fun _ => trivial) (v := ?vv6) ?hy6 ?hk6
      case ho6 => (simp only [List.getElem?_toArray, List.getElem?_cons_succ, List.getElem?_cons_zero]; rfl)
      case hq6 => exact fun _ _ _ h => h
      case hw6 => rfl
      case hy6 =>
        intro W hW
        go_simp
        first | done | with_reducible rfl
      case hk6 =>
      try simp only [Act.put, List.setIfInBounds_toArray, List.set_cons_zero, List.set_cons_succ]
      refine anyK_on2 6 10 (by kernel_rfl) ?_ ?_
      · skip
        refine anyK_one 6 (o := ?oo7) ?ho7 ?hk7
        case ho7 => (simp only [List.getElem?_toArray, List.getElem?_cons_succ, List.getElem?_cons_zero]; rfl)
        case hk7 =>
        intro K hK
        go_simp
        refine (HFS.out _ (ext_trans X01.out yy) _ ((HPS1.out.at_ X01.out).ext yy)).mono ?_
        rintro e we ⟨rfl, xx⟩
        try go_wp2_with fail
        replace yy := ext_trans yy xx
        try (replace KN := hide (KN.out.ext xx))
        have hT1 := keepK.out _ yy
        refine hK.out _ _ hT1 (fun _ => trivial) ?_
        clear hK K
        try simp only [Act.put, List.setIfInBounds_toArray, List.set_cons_zero, List.set_cons_succ]
        refine anyK_take 7 (oi := ?oo8) ?ho8 (by kernel_rfl) (by kernel_rfl) (by kernel_rfl) (by kernel_rfl) ?hq8 ?hw8 hT1 (fun _ => trivial) (v := ?vv8) ?hy8 ?hk8
        case ho8 => (simp only [List.getElem?_toArray, List.getElem?_cons_succ, List.getElem?_cons_zero]; rfl)
        case hq8 => exact fun _ _ _ h => h
        case hw8 => rfl
        case hy8 =>
          intro W hW
          go_simp
          first | done | with_reducible rfl
        case hk8 =>
        try simp only [Act.put, List.setIfInBounds_toArray, List.set_cons_zero, List.set_cons_succ]
        refine anyK_take 8 (oi := ?oo9) ?ho9 (by kernel_rfl) (by kernel_rfl) (by kernel_rfl) (by kernel_rfl) ?hq9 ?hw9 hT1 (fun _ => trivial) (v := ?vv9) ?hy9 ?hk9
        case ho9 => (simp only [List.getElem?_toArray, List.getElem?_cons_succ, List.getElem?_cons_zero]; rfl)
        case hq9 => exact fun _ _ _ h => h
        case hw9 => rfl
        case hy9 =>
          intro W hW
          go_simp
          first | done | with_reducible rfl
        case hk9 =>
        try simp only [Act.put, List.setIfInBounds_toArray, List.set_cons_zero, List.set_cons_succ]
        refine anyK_take 9 (oi := ?oo10) ?ho10 (by kernel_rfl) (by kernel_rfl) (by kernel_rfl) (by kernel_rfl) ?hq10 ?hw10 hT1 (fun _ => trivial) (v := ?vv10) ?hy10 ?hk10
        case ho10 => (simp only [List.getElem?_toArray, List.getElem?_cons_succ, List.getElem?_cons_zero]; rfl)
        case hq10 => exact fun _ _ _ h => h
        case hw10 => rfl
        case hy10 =>
          intro W hW
          go_simp
          first | done | with_reducible rfl
        case hk10 =>
        try simp only [Act.put, List.setIfInBounds_toArray, List.set_cons_zero, List.set_cons_succ]
        refine anyK_on1 10 (by kernel_rfl) ?_
        refine anyK_one 10 (o := ?oo11) ?ho11 ?hk11
        case ho11 => (simp only [List.getElem?_toArray, List.getElem?_cons_succ, List.getElem?_cons_zero]; rfl)
        case hk11 =>
        intro K hK
        go_simp
        have KN : Hid (Blk (we.alloc (.cells #[.int .i64 0, .int .i64 0, .int .i64 0] 37)) we.heap.size 37 #[.int .i64 0, .int .i64 0, .int .i64 0]) := hide (Blk.new we 37 #[.int .i64 0, .int .i64 0, .int .i64 0])
        generalize hBN : we.heap.size = BN at *
        have HNB : Hid (w1.heap.size ≤ BN) := hide (by have h : w1.heap.size ≤ we.heap.size := (yy : Ext w1 we).size; omega)
        clear hBN
        replace yy := ext_alloc yy (.cells #[.int .i64 0, .int .i64 0, .int .i64 0] 37)
        have hT2 := keepK.out _ yy
        refine hK.out _ _ hT2 (fun _ => trivial) ?_
        clear hK K
        try simp only [Act.put, List.setIfInBounds_toArray, List.set_cons_zero, List.set_cons_succ]
        refine anyK_on1 11 (by kernel_rfl) ?_
        refine anyK_one 11 (o := ?oo12) ?ho12 ?hk12
        case ho12 => (simp only [List.getElem?_toArray, List.getElem?_cons_succ, List.getElem?_cons_zero]; rfl)
        case hk12 =>
        intro K hK
        have q5 := KN.out.cell
        have z5 := KN.out.frozen
        have KPF := hide (blk_put (i := 2) (u := .int .i64 m.piece) (cs' := #[.int .i64 m.src, .int .i64 m.dst, .int .i64 m.piece]) (blk_put (i := 1) (u := .int .i64 m.dst) (cs' := #[.int .i64 m.src, .int .i64 m.dst, .int .i64 0]) (blk_put (i := 0) (u := .int .i64 m.src) (cs' := #[.int .i64 m.src, .int .i64 0, .int .i64 0]) KN.out rfl) rfl) rfl)
        replace yy := (ext_set (ext_set (ext_set yy (p := ⟨BN, 0, none⟩) HNB.out (.int .i64 m.src)) (p := ⟨BN, 1, none⟩) HNB.out (.int .i64 m.dst)) (p := ⟨BN, 2, none⟩) HNB.out (.int .i64 m.piece))
        go_simp
        clear q5 z5
        have hT3 := keepK.out _ yy
        refine hK.out _ _ hT3 (fun _ => trivial) ?_
        clear hK K
        try simp only [Act.put, List.setIfInBounds_toArray, List.set_cons_zero, List.set_cons_succ]
        refine anyK_take 12 (oi := ?oo13) ?ho13 (by kernel_rfl) (by kernel_rfl) (by kernel_rfl) (by kernel_rfl) ?hq13 ?hw13 hT3 (fun _ => trivial) (v := ?vv13) ?hy13 ?hk13
        case ho13 => (simp only [List.getElem?_toArray, List.getElem?_cons_succ, List.getElem?_cons_zero]; rfl)
        case hq13 => exact fun _ _ _ h => h
        case hw13 => rfl
        case hy13 =>
          intro W hW
          go_simp
          first | done | with_reducible rfl
        case hk13 =>
        try simp only [Act.put, List.setIfInBounds_toArray, List.set_cons_zero, List.set_cons_succ]
        refine anyK_done (by kernel_rfl) ?_ _
        clear keepK hT0 hT1 hT2 hT3
        go_wp2_with fail
        go_meet
        exact ⟨BN, rfl, KPF.out, yy⟩
      · skip
        refine anyK_one 10 (o := ?oo14) ?ho14 ?hk14
        case ho14 => (simp only [List.getElem?_toArray, List.getElem?_cons_succ, List.getElem?_cons_zero]; rfl)
        case hk14 =>
        intro K hK
        go_simp
        have KN : Hid (Blk (w1.drew.alloc (.cells #[.int .i64 0, .int .i64 0, .int .i64 0] 37)) w1.heap.size 37 #[.int .i64 0, .int .i64 0, .int .i64 0]) := hide (Blk.new w1.drew 37 #[.int .i64 0, .int .i64 0, .int .i64 0])
        generalize hBN : w1.heap.size = BN at *
        have HNB : Hid (w1.heap.size ≤ BN) := hide (by have h : w1.heap.size ≤ w1.heap.size := (yy : Ext w1 w1.drew).size; omega)
        clear hBN
        replace yy := ext_alloc yy (.cells #[.int .i64 0, .int .i64 0, .int .i64 0] 37)
        have hT1 := keepK.out _ yy
        refine hK.out _ _ hT1 (fun _ => trivial) ?_
        clear hK K
        try simp only [Act.put, List.setIfInBounds_toArray, List.set_cons_zero, List.set_cons_succ]
        refine anyK_on1 6 (by kernel_rfl) ?_
        refine anyK_one 6 (o := ?oo15) ?ho15 ?hk15
        case ho15 => (simp only [List.getElem?_toArray, List.getElem?_cons_succ, List.getElem?_cons_zero]; rfl)
        case hk15 =>
        intro K hK
        go_simp
        refine (HFS.out _ (ext_trans X01.out yy) _ ((HPS1.out.at_ X01.out).ext yy)).mono ?_
        rintro e we ⟨rfl, xx⟩
        try go_wp2_with fail
        replace yy := ext_trans yy xx
        try (replace KN := hide (KN.out.ext xx))
        have hT2 := keepK.out _ yy
        refine hK.out _ _ hT2 (fun _ => trivial) ?_
        clear hK K
        try simp only [Act.put, List.setIfInBounds_toArray, List.set_cons_zero, List.set_cons_succ]
        refine anyK_take 7 (oi := ?oo16) ?ho16 (by kernel_rfl) (by kernel_rfl) (by kernel_rfl) (by kernel_rfl) ?hq16 ?hw16 hT2 (fun _ => trivial) (v := ?vv16) ?hy16 ?hk16
        case ho16 => (simp only [List.getElem?_toArray, List.getElem?_cons_succ, List.getElem?_cons_zero]; rfl)
        case hq16 => exact fun _ _ _ h => h
        case hw16 => rfl
        case hy16 =>
          intro W hW
          go_simp
          first | done | with_reducible rfl
        case hk16 =>
        try simp only [Act.put, List.setIfInBounds_toArray, List.set_cons_zero, List.set_cons_succ]
        refine anyK_take 8 (oi := ?oo17) ?ho17 (by kernel_rfl) (by kernel_rfl) (by kernel_rfl) (by kernel_rfl) ?hq17 ?hw17 hT2 (fun _ => trivial) (v := ?vv17) ?hy17 ?hk17
        case ho17 => (simp only [List.getElem?_toArray, List.getElem?_cons_succ, List.getElem?_cons_zero]; rfl)
        case hq17 => exact fun _ _ _ h => h
        case hw17 => rfl
        case hy17 =>
          intro W hW
          go_simp
          first | done | with_reducible rfl
        case hk17 =>
        try simp only [Act.put, List.setIfInBounds_toArray, List.set_cons_zero, List.set_cons_succ]
        refine anyK_take 9 (oi := ?oo18) ?ho18 (by kernel_rfl) (by kernel_rfl) (by kernel_rfl) (by kernel_rfl) ?hq18 ?hw18 hT2 (fun _ => trivial) (v := ?vv18) ?hy18 ?hk18
        case ho18 => (simp only [List.getElem?_toArray, List.getElem?_cons_succ, List.getElem?_cons_zero]; rfl)
        case hq18 => exact fun _ _ _ h => h
        case hw18 => rfl
        case hy18 =>
          intro W hW
          go_simp
          first | done | with_reducible rfl
        case hk18 =>
        try simp only [Act.put, List.setIfInBounds_toArray, List.set_cons_zero, List.set_cons_succ]
        refine anyK_on1 11 (by kernel_rfl) ?_
        refine anyK_one 11 (o := ?oo19) ?ho19 ?hk19
        case ho19 => (simp only [List.getElem?_toArray, List.getElem?_cons_succ, List.getElem?_cons_zero]; rfl)
        case hk19 =>
        intro K hK
        have q5 := KN.out.cell
        have z5 := KN.out.frozen
        have KPF := hide (blk_put (i := 2) (u := .int .i64 m.piece) (cs' := #[.int .i64 m.src, .int .i64 m.dst, .int .i64 m.piece]) (blk_put (i := 1) (u := .int .i64 m.dst) (cs' := #[.int .i64 m.src, .int .i64 m.dst, .int .i64 0]) (blk_put (i := 0) (u := .int .i64 m.src) (cs' := #[.int .i64 m.src, .int .i64 0, .int .i64 0]) KN.out rfl) rfl) rfl)
        replace yy := (ext_set (ext_set (ext_set yy (p := ⟨BN, 0, none⟩) HNB.out (.int .i64 m.src)) (p := ⟨BN, 1, none⟩) HNB.out (.int .i64 m.dst)) (p := ⟨BN, 2, none⟩) HNB.out (.int .i64 m.piece))
        go_simp
        clear q5 z5
        have hT3 := keepK.out _ yy
        refine hK.out _ _ hT3 (fun _ => trivial) ?_
        clear hK K
        try simp only [Act.put, List.setIfInBounds_toArray, List.set_cons_zero, List.set_cons_succ]
        refine anyK_take 12 (oi := ?oo20) ?ho20 (by kernel_rfl) (by kernel_rfl) (by kernel_rfl) (by kernel_rfl) ?hq20 ?hw20 hT3 (fun _ => trivial) (v := ?vv20) ?hy20 ?hk20
        case ho20 => (simp only [List.getElem?_toArray, List.getElem?_cons_succ, List.getElem?_cons_zero]; rfl)
        case hq20 => exact fun _ _ _ h => h
        case hw20 => rfl
        case hy20 =>
          intro W hW
          go_simp
          first | done | with_reducible rfl
        case hk20 =>
        try simp only [Act.put, List.setIfInBounds_toArray, List.set_cons_zero, List.set_cons_succ]
        refine anyK_done (by kernel_rfl) ?_ _
        clear keepK hT0 hT1 hT2 hT3
        go_wp2_with fail
        go_meet
        exact ⟨BN, rfl, KPF.out, yy⟩
    case rest =>
      obtain ⟨BM, rfl, km, x2⟩ := hcut
      generalize wc = w2 at *
      clear wc
      have KM2 := hide km
      have KX2 := hide (KX1.out.ext x2)
      have KP2 := hide (KP1.out.ext x2)
      have RW2 : Hid (RowC w0.heap.size w2 A c ns) := hide (own_ext RW1.out x2)
      have HPS2 := hide (HPS1.out.tfr (ts := [135]) (by decide) (TFr.of_ext x2))
      have X02 := hide (ext_trans X01.out x2)
      have X2 := hide (ext_trans X1.out x2)
      clear km x2 KX1 KP1 RW1 HPS1 X01 X1 HFS
      go_upto_region 5 with fail
      have zz : Ext w2 w2.drew := Below.drew (Below.refl _ _)
      have ss := KX2.out.ext zz
      have keepK := hide (fun W (h : Blk W BM 37 #[.int .i64 m.src, .int .i64 m.dst, .int .i64 m.piece]) => (show (fun W => W.cell? ⟨BM, 0, none⟩ = some (.int .i64 m.src) ∧ W.cell? ⟨BM, 1, none⟩ = some (.int .i64 m.dst) ∧ W.cell? ⟨BM, 2, none⟩ = some (.int .i64 m.piece) ∧ Blk W BM 37 #[.int .i64 m.src, .int .i64 m.dst, .int .i64 m.piece]) W from ⟨h.cell 0, h.cell 1, h.cell 2, h⟩))
      have yy := (KM2.out.ext zz)
      refine region_K (fun W => W.cell? ⟨BM, 0, none⟩ = some (.int .i64 m.src) ∧ W.cell? ⟨BM, 1, none⟩ = some (.int .i64 m.dst) ∧ W.cell? ⟨BM, 2, none⟩ = some (.int .i64 m.piece) ∧ Blk W BM 37 #[.int .i64 m.src, .int .i64 m.dst, .int .i64 m.piece]) (fun W => W.cell? ⟨BX, 11, none⟩ = some (.slice A ns.length c)) [11] (by kernel_rfl) ?_
      have hS0 := ss.cell 11
      have hT0 := keepK.out _ yy
      refine anyK_take 0 (oi := ?oo21) ?ho21 (by kernel_rfl) (by kernel_rfl) (by kernel_rfl) (by kernel_rfl) ?hq21 ?hw21 hT0 (fun _ => hS0) (v := ?vv21) ?hy21 ?hk21
      case ho21 => (simp only [List.getElem?_toArray, List.getElem?_cons_succ, List.getElem?_cons_zero]; rfl)
      case hq21 => exact fun _ _ _ h => h
      case hw21 => rfl
      case hy21 =>
        intro W hW
        go_simp
        first | done | with_reducible rfl
      case hk21 =>
      try simp only [Act.put, List.setIfInBounds_toArray, List.set_cons_zero, List.set_cons_succ]
      refine anyK_take 1 (oi := ?oo22) ?ho22 (by kernel_rfl) (by kernel_rfl) (by kernel_rfl) (by kernel_rfl) ?hq22 ?hw22 hT0 (fun _ => hS0) (v := ?vv22) ?hy22 ?hk22
      case ho22 => (simp only [List.getElem?_toArray, List.getElem?_cons_succ, List.getElem?_cons_zero]; rfl)
      case hq22 => exact fun _ _ _ h => h
      case hw22 => rfl
      case hy22 =>
        intro W hW
        go_simp
        first | done | with_reducible rfl
      case hk22 =>
      try simp only [Act.put, List.setIfInBounds_toArray, List.set_cons_zero, List.set_cons_succ]
      refine anyK_take 2 (oi := ?oo23) ?ho23 (by kernel_rfl) (by kernel_rfl) (by kernel_rfl) (by kernel_rfl) ?hq23 ?hw23 hT0 (fun _ => hS0) (v := ?vv23) ?hy23 ?hk23
      case ho23 => (simp only [List.getElem?_toArray, List.getElem?_cons_succ, List.getElem?_cons_zero]; rfl)
      case hq23 => exact fun _ _ _ h => h
      case hw23 => rfl
      case hy23 =>
        intro W hW
        go_simp
        first | done | with_reducible rfl
      case hk23 =>
      try simp only [Act.put, List.setIfInBounds_toArray, List.set_cons_zero, List.set_cons_succ]
      refine anyK_take 3 (oi := ?oo24) ?ho24 (by kernel_rfl) (by kernel_rfl) (by kernel_rfl) (by kernel_rfl) ?hq24 ?hw24 hT0 (fun _ => hS0) (v := ?vv24) ?hy24 ?hk24
      case ho24 => (simp only [List.getElem?_toArray, List.getElem?_cons_succ, List.getElem?_cons_zero]; rfl)
      case hq24 => exact fun _ _ _ h => h
      case hw24 => rfl
      case hy24 =>
        intro W hW
        go_simp
        first | done | with_reducible rfl
      case hk24 =>
      try simp only [Act.put, List.setIfInBounds_toArray, List.set_cons_zero, List.set_cons_succ]
      refine anyK_load 4 (oi := ?oo25) ?ho25 (by kernel_rfl) (by kernel_rfl) (by kernel_rfl) (by kernel_rfl) (by kernel_rfl) (by kernel_rfl) ?hq25 ?hw25 hT0 hS0 (v := ?vv25) ?hy25 ?hk25
      case ho25 => (simp only [List.getElem?_toArray, List.getElem?_cons_succ, List.getElem?_cons_zero]; rfl)
      case hq25 => exact fun _ _ _ h => h
      case hw25 => rfl
      case hy25 =>
        intro W hW1 hW
        go_simp
        first | done | with_reducible rfl
      case hk25 =>
      try simp only [Act.put, List.setIfInBounds_toArray, List.set_cons_zero, List.set_cons_succ]
      refine anyK_take 5 (oi := ?oo26) ?ho26 (by kernel_rfl) (by kernel_rfl) (by kernel_rfl) (by kernel_rfl) ?hq26 ?hw26 hT0 (fun _ => hS0) (v := ?vv26) ?hy26 ?hk26
      case ho26 => (simp only [List.getElem?_toArray, List.getElem?_cons_succ, List.getElem?_cons_zero]; rfl)
      case hq26 => exact fun _ _ _ h => h
      case hw26 => rfl
      case hy26 =>
        intro W hW
        obtain ⟨z0, z1, z2, z3⟩ := hW
        go_simp
        first | done | with_reducible rfl
      case hk26 =>
      try simp only [Act.put, List.setIfInBounds_toArray, List.set_cons_zero, List.set_cons_succ]
      refine anyK_take 6 (oi := ?oo27) ?ho27 (by kernel_rfl) (by kernel_rfl) (by kernel_rfl) (by kernel_rfl) ?hq27 ?hw27 hT0 (fun _ => hS0) (v := ?vv27) ?hy27 ?hk27
      case ho27 => (simp only [List.getElem?_toArray, List.getElem?_cons_succ, List.getElem?_cons_zero]; rfl)
      case hq27 => exact fun _ _ _ h => h
      case hw27 => rfl
      case hy27 =>
        intro W hW
        go_simp
        first | done | with_reducible rfl
      case hk27 =>
      try simp only [Act.put, List.setIfInBounds_toArray, List.set_cons_zero, List.set_cons_succ]
      refine anyK_on1 7 (by kernel_rfl) ?_
      refine anyK_one 7 (o := ?oo28) ?ho28 ?hk28
      case ho28 => (simp only [List.getElem?_toArray, List.getElem?_cons_succ, List.getElem?_cons_zero]; rfl)
      case hk28 =>
      intro K hK
      go_simp
      replace yy := (KM2.out.ext (ext_alloc zz (.cells #[.int .i64 m.src, .int .i64 m.dst, .int .i64 m.piece, .slice none 0 0] 135)))
      replace ss := KX2.out.ext (ext_alloc zz (.cells #[.int .i64 m.src, .int .i64 m.dst, .int .i64 m.piece, .slice none 0 0] 135))
      have hT1 := keepK.out _ yy
      have hS1 := ss.cell 11
      refine hK.out _ _ hT1 (fun _ => hS1) ?_
      clear hK K
      try simp only [Act.put, List.setIfInBounds_toArray, List.set_cons_zero, List.set_cons_succ]
      refine anyK_on1 8 (by kernel_rfl) ?_
      refine anyK_one 8 (o := ?oo29) ?ho29 ?hk29
      case ho29 => (simp only [List.getElem?_toArray, List.getElem?_cons_succ, List.getElem?_cons_zero]; rfl)
      case hk29 =>
      intro K hK
      refine ite_yes' rfl ?_
      refine oper_append_cn (.tmp 36) (.tmp 39) rfl w0.heap.size w2.drew A c ns m rfl (own_ext RW2.out zz) rfl (ext_trans X02.out zz).size (by have := HN.out; omega) ?_
      intro A9 c9 w9 own9 g9 f9
      replace yy := f9 _ _ _ (KM2.out.ext zz) (by decide)
      replace ss := f9 _ _ _ (KX2.out.ext zz) (by decide)
      have OWN9 := hide own9
      have F9 := hide f9
      have X09 := hide (ext_grown (ext_trans X02.out zz) g9 (own_row (own_ext RW2.out zz)))
      have HZ9 := hide (show w2.heap.size ≤ w9.heap.size from g9.size)
      clear own9 f9 g9
      have hT2 := keepK.out _ yy
      have hS2 := ss.cell 11
      refine hK.out _ _ hT2 (fun _ => hS2) ?_
      clear hK K
      try simp only [Act.put, List.setIfInBounds_toArray, List.set_cons_zero, List.set_cons_succ]
      refine anyK_take 9 (oi := ?oo30) ?ho30 (by kernel_rfl) (by kernel_rfl) (by kernel_rfl) (by kernel_rfl) ?hq30 ?hw30 hT2 (fun _ => hS2) (v := ?vv30) ?hy30 ?hk30
      case ho30 => (simp only [List.getElem?_toArray, List.getElem?_cons_succ, List.getElem?_cons_zero]; rfl)
      case hq30 => exact fun _ _ _ h => h
      case hw30 => rfl
      case hy30 =>
        intro W hW
        go_simp
        first | done | with_reducible rfl
      case hk30 =>
      try simp only [Act.put, List.setIfInBounds_toArray, List.set_cons_zero, List.set_cons_succ]
      refine anyK_take 10 (oi := ?oo31) ?ho31 (by kernel_rfl) (by kernel_rfl) (by kernel_rfl) (by kernel_rfl) ?hq31 ?hw31 hT2 (fun _ => hS2) (v := ?vv31) ?hy31 ?hk31
      case ho31 => (simp only [List.getElem?_toArray, List.getElem?_cons_succ, List.getElem?_cons_zero]; rfl)
      case hq31 => exact fun _ _ _ h => h
      case hw31 => rfl
      case hy31 =>
        intro W hW
        go_simp
        first | done | with_reducible rfl
      case hk31 =>
      try simp only [Act.put, List.setIfInBounds_toArray, List.set_cons_zero, List.set_cons_succ]
      refine anyK_on1 11 (by kernel_rfl) ?_
      refine anyK_one 11 (o := ?oo32) ?ho32 ?hk32
      case ho32 => (simp only [List.getElem?_toArray, List.getElem?_cons_succ, List.getElem?_cons_zero]; rfl)
      case hk32 =>
      intro K hK
      have q5 := ss.cell
      have z5 := ss.frozen
      have K10 := hide (blk_put (i := 11) (u := (.slice A9 (ns.length + 1) c9)) ss (cs' := #[.string R.name, .int .i64 R.width, .int .i64 R.height, .slice pA R.pieces.length pc, .slice sA R.start.length sc, .bool R.falls, .bool R.keeps, .slice eA R.ends.length ec, .int .i64 R.blocked, .int .i64 R.quiet, .int .i64 R.rept, (.slice A9 (ns.length + 1) c9)]) rfl)
      have TF := hide (TFr.set (ts := [93]) ss (List.mem_singleton.2 rfl) 11 (.slice A9 (ns.length + 1) c9))
      replace yy := TF.out _ _ _ yy (by decide)
      go_simp
      clear q5 z5
      have hT3 := keepK.out _ yy
      refine hK.out _ _ hT3 (fun h => by cases h) ?_
      clear hK K
      try simp only [Act.put, List.setIfInBounds_toArray, List.set_cons_zero, List.set_cons_succ]
      refine anyK_done (by kernel_rfl) ?_ _
      clear keepK hT0 hT1 hT2 hT3
      try clear keepS hS0 hS1 hS2
      have KM3 := hide yy
      have KP3 := hide (TF.out _ _ _ (F9.out _ _ _ (KP2.out.ext zz) (by decide)) (by decide))
      have HPS3 := hide (((HPS2.out.tfr (ts := [135]) (by decide) (TFr.of_ext zz)).tfr (by decide) F9.out).tfr (by decide) TF.out)
      have RW3 : Hid (RowC w0.heap.size (w9.setCell ⟨BX, 11, none⟩ (.slice A9 (ns.length + 1) c9)) A9 c9 (ns ++ [(m, .slice none 0 0)])) := hide (own_tfr OWN9.out (by decide) TF.out)
      have X03 := hide (ext_set X09.out (p := ⟨BX, 11, none⟩) HBX.out (.slice A9 (ns.length + 1) c9))
      have F3 : Hid (TFr [93, 135] w (w9.setCell ⟨BX, 11, none⟩ (.slice A9 (ns.length + 1) c9))) := hide (((TFr.of_ext (ext_trans X2.out zz)).trans (F9.out.more (by simp))).trans (TF.out.more (by simp)))
      have HZ3 : Hid (w.heap.size ≤ (w9.setCell ⟨BX, 11, none⟩ (.slice A9 (ns.length + 1) c9)).heap.size) := hide (by
        have h1 := X2.out.size
        have h2 := HZ9.out
        rw [World.setCell]
        simp
        omega)
      have KX3 := hide K10.out
      clear K10 yy ss zz TF F9 OWN9 X09 HZ9 KM2 KX2 KP2 RW2 HPS2 X02 X2
      generalize w9.setCell ⟨BX, 11, none⟩ (.slice A9 (ns.length + 1) c9) = w3 at *
      go_upto_region 6 with fail
      go_cut [10] (fun s10 wx => ∃ BQ g0 l0 g1 l1 g2 l2, s10 = .pointer (some ⟨BQ, 0, none⟩) ∧ Blk wx BQ 29 #[.slice (some ⟨g0, 0, none⟩) q.cells.length l0, .slice (some ⟨g1, 0, none⟩) q.hand0.length l1, .slice (some ⟨g2, 0, none⟩) q.hand1.length l2, .int .i64 q.turn, .int .i64 q.quiet] ∧ PosI wx (.agg #[.slice (some ⟨g0, 0, none⟩) q.cells.length l0, .slice (some ⟨g1, 0, none⟩) q.hand0.length l1, .slice (some ⟨g2, 0, none⟩) q.hand1.length l2, .int .i64 q.turn, .int .i64 q.quiet]) q ∧ Ext w3 wx)
      case first =>
        have keepK := hide (fun W (h : Ext w3 W) => (show (fun W => W.cell? ⟨BX, 0, none⟩ = some (.string R.name) ∧ W.cell? ⟨BX, 1, none⟩ = some (.int .i64 R.width) ∧ W.cell? ⟨BX, 2, none⟩ = some (.int .i64 R.height) ∧ W.cell? ⟨BX, 3, none⟩ = some (.slice pA R.pieces.length pc) ∧ W.cell? ⟨BX, 4, none⟩ = some (.slice sA R.start.length sc) ∧ W.cell? ⟨BX, 5, none⟩ = some (.bool R.falls) ∧ W.cell? ⟨BX, 6, none⟩ = some (.bool R.keeps) ∧ W.cell? ⟨BX, 7, none⟩ = some (.slice eA R.ends.length ec) ∧ W.cell? ⟨BX, 8, none⟩ = some (.int .i64 R.blocked) ∧ W.cell? ⟨BX, 9, none⟩ = some (.int .i64 R.quiet) ∧ W.cell? ⟨BX, 10, none⟩ = some (.int .i64 R.rept) ∧ W.cell? ⟨BX, 11, none⟩ = some (.slice A9 (ns.length + 1) c9) ∧ W.cell? ⟨BP, 0, none⟩ = some (.slice cA P.cells.length cc) ∧ W.cell? ⟨BP, 1, none⟩ = some (.slice aA P.hand0.length ac) ∧ W.cell? ⟨BP, 2, none⟩ = some (.slice bA P.hand1.length bc) ∧ W.cell? ⟨BP, 3, none⟩ = some (.int .i64 P.turn) ∧ W.cell? ⟨BP, 4, none⟩ = some (.int .i64 P.quiet) ∧ W.cell? ⟨BM, 0, none⟩ = some (.int .i64 m.src) ∧ W.cell? ⟨BM, 1, none⟩ = some (.int .i64 m.dst) ∧ W.cell? ⟨BM, 2, none⟩ = some (.int .i64 m.piece) ∧ Ext w3 W) W from ⟨(KX3.out.ext h).cell 0, (KX3.out.ext h).cell 1, (KX3.out.ext h).cell 2, (KX3.out.ext h).cell 3, (KX3.out.ext h).cell 4, (KX3.out.ext h).cell 5, (KX3.out.ext h).cell 6, (KX3.out.ext h).cell 7, (KX3.out.ext h).cell 8, (KX3.out.ext h).cell 9, (KX3.out.ext h).cell 10, (KX3.out.ext h).cell 11, (KP3.out.ext h).cell 0, (KP3.out.ext h).cell 1, (KP3.out.ext h).cell 2, (KP3.out.ext h).cell 3, (KP3.out.ext h).cell 4, (KM3.out.ext h).cell 0, (KM3.out.ext h).cell 1, (KM3.out.ext h).cell 2, h⟩))
        have yy : Ext w3 w3.drew := Below.drew (Below.refl _ _)
        refine region_K (fun W => W.cell? ⟨BX, 0, none⟩ = some (.string R.name) ∧ W.cell? ⟨BX, 1, none⟩ = some (.int .i64 R.width) ∧ W.cell? ⟨BX, 2, none⟩ = some (.int .i64 R.height) ∧ W.cell? ⟨BX, 3, none⟩ = some (.slice pA R.pieces.length pc) ∧ W.cell? ⟨BX, 4, none⟩ = some (.slice sA R.start.length sc) ∧ W.cell? ⟨BX, 5, none⟩ = some (.bool R.falls) ∧ W.cell? ⟨BX, 6, none⟩ = some (.bool R.keeps) ∧ W.cell? ⟨BX, 7, none⟩ = some (.slice eA R.ends.length ec) ∧ W.cell? ⟨BX, 8, none⟩ = some (.int .i64 R.blocked) ∧ W.cell? ⟨BX, 9, none⟩ = some (.int .i64 R.quiet) ∧ W.cell? ⟨BX, 10, none⟩ = some (.int .i64 R.rept) ∧ W.cell? ⟨BX, 11, none⟩ = some (.slice A9 (ns.length + 1) c9) ∧ W.cell? ⟨BP, 0, none⟩ = some (.slice cA P.cells.length cc) ∧ W.cell? ⟨BP, 1, none⟩ = some (.slice aA P.hand0.length ac) ∧ W.cell? ⟨BP, 2, none⟩ = some (.slice bA P.hand1.length bc) ∧ W.cell? ⟨BP, 3, none⟩ = some (.int .i64 P.turn) ∧ W.cell? ⟨BP, 4, none⟩ = some (.int .i64 P.quiet) ∧ W.cell? ⟨BM, 0, none⟩ = some (.int .i64 m.src) ∧ W.cell? ⟨BM, 1, none⟩ = some (.int .i64 m.dst) ∧ W.cell? ⟨BM, 2, none⟩ = some (.int .i64 m.piece) ∧ Ext w3 W) (fun _ => True) [] (by kernel_rfl) ?_
        have hT0 := keepK.out _ yy
        refine anyK_take 0 (oi := ?oo33) ?ho33 (by kernel_rfl) (by kernel_rfl) (by kernel_rfl) (by kernel_rfl) ?hq33 ?hw33 hT0 (fun _ => trivial) (v := ?vv33) ?hy33 ?hk33
        case ho33 => (simp only [List.getElem?_toArray, List.getElem?_cons_succ, List.getElem?_cons_zero]; rfl)
        case hq33 => exact fun _ _ _ h => h
        case hw33 => rfl
        case hy33 =>
          intro W hW
          go_simp
          first | done | with_reducible rfl
        case hk33 =>
        try simp only [Act.put, List.setIfInBounds_toArray, List.set_cons_zero, List.set_cons_succ]
        refine anyK_take 1 (oi := ?oo34) ?ho34 (by kernel_rfl) (by kernel_rfl) (by kernel_rfl) (by kernel_rfl) ?hq34 ?hw34 hT0 (fun _ => trivial) (v := ?vv34) ?hy34 ?hk34
        case ho34 => (simp only [List.getElem?_toArray, List.getElem?_cons_succ, List.getElem?_cons_zero]; rfl)
        case hq34 => exact fun _ _ _ h => h
        case hw34 => rfl
        case hy34 =>
          intro W hW
          go_simp
          first | done | with_reducible rfl
        case hk34 =>
        try simp only [Act.put, List.setIfInBounds_toArray, List.set_cons_zero, List.set_cons_succ]
        refine anyK_take 2 (oi := ?oo35) ?ho35 (by kernel_rfl) (by kernel_rfl) (by kernel_rfl) (by kernel_rfl) ?hq35 ?hw35 hT0 (fun _ => trivial) (v := ?vv35) ?hy35 ?hk35
        case ho35 => (simp only [List.getElem?_toArray, List.getElem?_cons_succ, List.getElem?_cons_zero]; rfl)
        case hq35 => exact fun _ _ _ h => h
        case hw35 => rfl
        case hy35 =>
          intro W hW
          go_simp
          first | done | with_reducible rfl
        case hk35 =>
        try simp only [Act.put, List.setIfInBounds_toArray, List.set_cons_zero, List.set_cons_succ]
        refine anyK_take 3 (oi := ?oo36) ?ho36 (by kernel_rfl) (by kernel_rfl) (by kernel_rfl) (by kernel_rfl) ?hq36 ?hw36 hT0 (fun _ => trivial) (v := ?vv36) ?hy36 ?hk36
        case ho36 => (simp only [List.getElem?_toArray, List.getElem?_cons_succ, List.getElem?_cons_zero]; rfl)
        case hq36 => exact fun _ _ _ h => h
        case hw36 => rfl
        case hy36 =>
          intro W hW
          obtain ⟨z0, z1, z2, z3, z4, z5, z6, z7, z8, z9, z10, z11, z12, z13, z14, z15, z16, z17, z18, z19, z20⟩ := hW
          go_simp
          first | done | with_reducible rfl
        case hk36 =>
        try simp only [Act.put, List.setIfInBounds_toArray, List.set_cons_zero, List.set_cons_succ]
        refine anyK_take 4 (oi := ?oo37) ?ho37 (by kernel_rfl) (by kernel_rfl) (by kernel_rfl) (by kernel_rfl) ?hq37 ?hw37 hT0 (fun _ => trivial) (v := ?vv37) ?hy37 ?hk37
        case ho37 => (simp only [List.getElem?_toArray, List.getElem?_cons_succ, List.getElem?_cons_zero]; rfl)
        case hq37 => exact fun _ _ _ h => h
        case hw37 => rfl
        case hy37 =>
          intro W hW
          obtain ⟨z0, z1, z2, z3, z4, z5, z6, z7, z8, z9, z10, z11, z12, z13, z14, z15, z16, z17, z18, z19, z20⟩ := hW
          go_simp
          first | done | with_reducible rfl
        case hk37 =>
        try simp only [Act.put, List.setIfInBounds_toArray, List.set_cons_zero, List.set_cons_succ]
        refine anyK_take 5 (oi := ?oo38) ?ho38 (by kernel_rfl) (by kernel_rfl) (by kernel_rfl) (by kernel_rfl) ?hq38 ?hw38 hT0 (fun _ => trivial) (v := ?vv38) ?hy38 ?hk38
        case ho38 => (simp only [List.getElem?_toArray, List.getElem?_cons_succ, List.getElem?_cons_zero]; rfl)
        case hq38 => exact fun _ _ _ h => h
        case hw38 => rfl
        case hy38 =>
          intro W hW
          obtain ⟨z0, z1, z2, z3, z4, z5, z6, z7, z8, z9, z10, z11, z12, z13, z14, z15, z16, z17, z18, z19, z20⟩ := hW
          go_simp
          first | done | with_reducible rfl
        case hk38 =>
        try simp only [Act.put, List.setIfInBounds_toArray, List.set_cons_zero, List.set_cons_succ]
        refine anyK_on2 6 7 (by kernel_rfl) ?_ ?_
        · skip
          refine anyK_one 6 (o := ?oo39) ?ho39 ?hk39
          case ho39 => (simp only [List.getElem?_toArray, List.getElem?_cons_succ, List.getElem?_cons_zero]; rfl)
          case hk39 =>
          intro K hK
          go_simp
          refine (HMK.out _ (ext_trans X03.out yy) _ ((HPS3.out.at_ X03.out).ext yy)).mono ?_
          rintro e we ⟨v9, rfl, own9, xx⟩
          try go_wp2_with fail
          replace yy := ext_trans yy xx
          have HP9 := hide own9.toI
          have hp9 := own9.toI
          obtain ⟨g0, l0, g1, l1, g2, l2, rfl, -⟩ := hp9
          clear own9
          try (replace KN := hide (KN.out.ext xx))
          have hT1 := keepK.out _ yy
          refine hK.out _ _ hT1 (fun _ => trivial) ?_
          clear hK K
          try simp only [Act.put, List.setIfInBounds_toArray, List.set_cons_zero, List.set_cons_succ]
          refine anyK_on1 7 (by kernel_rfl) ?_
          refine anyK_one 7 (o := ?oo40) ?ho40 ?hk40
          case ho40 => (simp only [List.getElem?_toArray, List.getElem?_cons_succ, List.getElem?_cons_zero]; rfl)
          case hk40 =>
          intro K hK
          go_simp
          have KN : Hid (Blk (we.alloc (.cells #[.slice none 0 0, .slice none 0 0, .slice none 0 0, .int .i64 0, .int .i64 0] 29)) we.heap.size 29 #[.slice none 0 0, .slice none 0 0, .slice none 0 0, .int .i64 0, .int .i64 0]) := hide (Blk.new we 29 #[.slice none 0 0, .slice none 0 0, .slice none 0 0, .int .i64 0, .int .i64 0])
          try (replace HP9 := hide (HP9.out.ext (ext_alloc (Below.refl _ _) (.cells #[.slice none 0 0, .slice none 0 0, .slice none 0 0, .int .i64 0, .int .i64 0] 29))))
          generalize hBN : we.heap.size = BN at *
          have HNB : Hid (w3.heap.size ≤ BN) := hide (by have h : w3.heap.size ≤ we.heap.size := (yy : Ext w3 we).size; omega)
          clear hBN
          replace yy := ext_alloc yy (.cells #[.slice none 0 0, .slice none 0 0, .slice none 0 0, .int .i64 0, .int .i64 0] 29)
          have hT2 := keepK.out _ yy
          refine hK.out _ _ hT2 (fun _ => trivial) ?_
          clear hK K
          try simp only [Act.put, List.setIfInBounds_toArray, List.set_cons_zero, List.set_cons_succ]
          refine anyK_on1 8 (by kernel_rfl) ?_
          refine anyK_one 8 (o := ?oo41) ?ho41 ?hk41
          case ho41 => (simp only [List.getElem?_toArray, List.getElem?_cons_succ, List.getElem?_cons_zero]; rfl)
          case hk41 =>
          intro K hK
          have q5 := KN.out.cell
          have z5 := KN.out.frozen
          have KPF := hide (blk_put (i := 4) (u := .int .i64 q.quiet) (cs' := #[.slice (some ⟨g0, 0, none⟩) q.cells.length l0, .slice (some ⟨g1, 0, none⟩) q.hand0.length l1, .slice (some ⟨g2, 0, none⟩) q.hand1.length l2, .int .i64 q.turn, .int .i64 q.quiet]) (blk_put (i := 3) (u := .int .i64 q.turn) (cs' := #[.slice (some ⟨g0, 0, none⟩) q.cells.length l0, .slice (some ⟨g1, 0, none⟩) q.hand0.length l1, .slice (some ⟨g2, 0, none⟩) q.hand1.length l2, .int .i64 q.turn, .int .i64 0]) (blk_put (i := 2) (u := .slice (some ⟨g2, 0, none⟩) q.hand1.length l2) (cs' := #[.slice (some ⟨g0, 0, none⟩) q.cells.length l0, .slice (some ⟨g1, 0, none⟩) q.hand0.length l1, .slice (some ⟨g2, 0, none⟩) q.hand1.length l2, .int .i64 0, .int .i64 0]) (blk_put (i := 1) (u := .slice (some ⟨g1, 0, none⟩) q.hand0.length l1) (cs' := #[.slice (some ⟨g0, 0, none⟩) q.cells.length l0, .slice (some ⟨g1, 0, none⟩) q.hand0.length l1, .slice none 0 0, .int .i64 0, .int .i64 0]) (blk_put (i := 0) (u := .slice (some ⟨g0, 0, none⟩) q.cells.length l0) (cs' := #[.slice (some ⟨g0, 0, none⟩) q.cells.length l0, .slice none 0 0, .slice none 0 0, .int .i64 0, .int .i64 0]) KN.out rfl) rfl) rfl) rfl) rfl)
          have HPF := hide (PosI.far5 (u0 := .slice (some ⟨g0, 0, none⟩) q.cells.length l0) (u1 := .slice (some ⟨g1, 0, none⟩) q.hand0.length l1) (u2 := .slice (some ⟨g2, 0, none⟩) q.hand1.length l2) (u3 := .int .i64 q.turn) (u4 := .int .i64 q.quiet) HP9.out KN.out)
          replace yy := (ext_set (ext_set (ext_set (ext_set (ext_set yy (p := ⟨BN, 0, none⟩) HNB.out (.slice (some ⟨g0, 0, none⟩) q.cells.length l0)) (p := ⟨BN, 1, none⟩) HNB.out (.slice (some ⟨g1, 0, none⟩) q.hand0.length l1)) (p := ⟨BN, 2, none⟩) HNB.out (.slice (some ⟨g2, 0, none⟩) q.hand1.length l2)) (p := ⟨BN, 3, none⟩) HNB.out (.int .i64 q.turn)) (p := ⟨BN, 4, none⟩) HNB.out (.int .i64 q.quiet))
          go_simp
          clear q5 z5
          have hT3 := keepK.out _ yy
          refine hK.out _ _ hT3 (fun _ => trivial) ?_
          clear hK K
          try simp only [Act.put, List.setIfInBounds_toArray, List.set_cons_zero, List.set_cons_succ]
          refine anyK_done (by kernel_rfl) ?_ _
          clear keepK hT0 hT1 hT2 hT3
          go_wp2_with fail
          go_meet
          exact ⟨BN, g0, l0, g1, l1, g2, l2, rfl, KPF.out, HPF.out, yy⟩
        · skip
          refine anyK_one 7 (o := ?oo42) ?ho42 ?hk42
          case ho42 => (simp only [List.getElem?_toArray, List.getElem?_cons_succ, List.getElem?_cons_zero]; rfl)
          case hk42 =>
          intro K hK
          go_simp
          have KN : Hid (Blk (w3.drew.alloc (.cells #[.slice none 0 0, .slice none 0 0, .slice none 0 0, .int .i64 0, .int .i64 0] 29)) w3.heap.size 29 #[.slice none 0 0, .slice none 0 0, .slice none 0 0, .int .i64 0, .int .i64 0]) := hide (Blk.new w3.drew 29 #[.slice none 0 0, .slice none 0 0, .slice none 0 0, .int .i64 0, .int .i64 0])
          try (replace HP9 := hide (HP9.out.ext (ext_alloc (Below.refl _ _) (.cells #[.slice none 0 0, .slice none 0 0, .slice none 0 0, .int .i64 0, .int .i64 0] 29))))
          generalize hBN : w3.heap.size = BN at *
          have HNB : Hid (w3.heap.size ≤ BN) := hide (by have h : w3.heap.size ≤ w3.heap.size := (yy : Ext w3 w3.drew).size; omega)
          clear hBN
          replace yy := ext_alloc yy (.cells #[.slice none 0 0, .slice none 0 0, .slice none 0 0, .int .i64 0, .int .i64 0] 29)
          have hT1 := keepK.out _ yy
          refine hK.out _ _ hT1 (fun _ => trivial) ?_
          clear hK K
          try simp only [Act.put, List.setIfInBounds_toArray, List.set_cons_zero, List.set_cons_succ]
          refine anyK_on1 6 (by kernel_rfl) ?_
          refine anyK_one 6 (o := ?oo43) ?ho43 ?hk43
          case ho43 => (simp only [List.getElem?_toArray, List.getElem?_cons_succ, List.getElem?_cons_zero]; rfl)
          case hk43 =>
          intro K hK
          go_simp
          refine (HMK.out _ (ext_trans X03.out yy) _ ((HPS3.out.at_ X03.out).ext yy)).mono ?_
          rintro e we ⟨v9, rfl, own9, xx⟩
          try go_wp2_with fail
          replace yy := ext_trans yy xx
          have HP9 := hide own9.toI
          have hp9 := own9.toI
          obtain ⟨g0, l0, g1, l1, g2, l2, rfl, -⟩ := hp9
          clear own9
          try (replace KN := hide (KN.out.ext xx))
          have hT2 := keepK.out _ yy
          refine hK.out _ _ hT2 (fun _ => trivial) ?_
          clear hK K
          try simp only [Act.put, List.setIfInBounds_toArray, List.set_cons_zero, List.set_cons_succ]
          refine anyK_on1 8 (by kernel_rfl) ?_
          refine anyK_one 8 (o := ?oo44) ?ho44 ?hk44
          case ho44 => (simp only [List.getElem?_toArray, List.getElem?_cons_succ, List.getElem?_cons_zero]; rfl)
          case hk44 =>
          intro K hK
          have q5 := KN.out.cell
          have z5 := KN.out.frozen
          have KPF := hide (blk_put (i := 4) (u := .int .i64 q.quiet) (cs' := #[.slice (some ⟨g0, 0, none⟩) q.cells.length l0, .slice (some ⟨g1, 0, none⟩) q.hand0.length l1, .slice (some ⟨g2, 0, none⟩) q.hand1.length l2, .int .i64 q.turn, .int .i64 q.quiet]) (blk_put (i := 3) (u := .int .i64 q.turn) (cs' := #[.slice (some ⟨g0, 0, none⟩) q.cells.length l0, .slice (some ⟨g1, 0, none⟩) q.hand0.length l1, .slice (some ⟨g2, 0, none⟩) q.hand1.length l2, .int .i64 q.turn, .int .i64 0]) (blk_put (i := 2) (u := .slice (some ⟨g2, 0, none⟩) q.hand1.length l2) (cs' := #[.slice (some ⟨g0, 0, none⟩) q.cells.length l0, .slice (some ⟨g1, 0, none⟩) q.hand0.length l1, .slice (some ⟨g2, 0, none⟩) q.hand1.length l2, .int .i64 0, .int .i64 0]) (blk_put (i := 1) (u := .slice (some ⟨g1, 0, none⟩) q.hand0.length l1) (cs' := #[.slice (some ⟨g0, 0, none⟩) q.cells.length l0, .slice (some ⟨g1, 0, none⟩) q.hand0.length l1, .slice none 0 0, .int .i64 0, .int .i64 0]) (blk_put (i := 0) (u := .slice (some ⟨g0, 0, none⟩) q.cells.length l0) (cs' := #[.slice (some ⟨g0, 0, none⟩) q.cells.length l0, .slice none 0 0, .slice none 0 0, .int .i64 0, .int .i64 0]) KN.out rfl) rfl) rfl) rfl) rfl)
          have HPF := hide (PosI.far5 (u0 := .slice (some ⟨g0, 0, none⟩) q.cells.length l0) (u1 := .slice (some ⟨g1, 0, none⟩) q.hand0.length l1) (u2 := .slice (some ⟨g2, 0, none⟩) q.hand1.length l2) (u3 := .int .i64 q.turn) (u4 := .int .i64 q.quiet) HP9.out KN.out)
          replace yy := (ext_set (ext_set (ext_set (ext_set (ext_set yy (p := ⟨BN, 0, none⟩) HNB.out (.slice (some ⟨g0, 0, none⟩) q.cells.length l0)) (p := ⟨BN, 1, none⟩) HNB.out (.slice (some ⟨g1, 0, none⟩) q.hand0.length l1)) (p := ⟨BN, 2, none⟩) HNB.out (.slice (some ⟨g2, 0, none⟩) q.hand1.length l2)) (p := ⟨BN, 3, none⟩) HNB.out (.int .i64 q.turn)) (p := ⟨BN, 4, none⟩) HNB.out (.int .i64 q.quiet))
          go_simp
          clear q5 z5
          have hT3 := keepK.out _ yy
          refine hK.out _ _ hT3 (fun _ => trivial) ?_
          clear hK K
          try simp only [Act.put, List.setIfInBounds_toArray, List.set_cons_zero, List.set_cons_succ]
          refine anyK_done (by kernel_rfl) ?_ _
          clear keepK hT0 hT1 hT2 hT3
          go_wp2_with fail
          go_meet
          exact ⟨BN, g0, l0, g1, l1, g2, l2, rfl, KPF.out, HPF.out, yy⟩
      case rest =>
        obtain ⟨BQ, g0, l0, g1, l1, g2, l2, rfl, kq, hq, x4⟩ := hcut
        generalize wc = w4 at *
        clear wc
        have KQ4 := hide kq
        have HQ4 := hide hq
        have KX4 := hide (KX3.out.ext x4)
        have RW4 : Hid (RowC w0.heap.size w4 A9 c9 (ns ++ [(m, .slice none 0 0)])) := hide (own_ext RW3.out x4)
        have X04 := hide (ext_trans X03.out x4)
        have F4 := hide (F3.out.trans (TFr.of_ext x4))
        have HZ4 := hide (Nat.le_trans HZ3.out x4.size)
        clear kq hq x4 KX3 KP3 KM3 RW3 X03 F3 HZ3 HPS3 HMK
        go_upto_region 8 with fail
        have keepK := hide (fun W (h : Ext w4 W) => (show (fun W => W.cell? ⟨BX, 0, none⟩ = some (.string R.name) ∧ W.cell? ⟨BX, 1, none⟩ = some (.int .i64 R.width) ∧ W.cell? ⟨BX, 2, none⟩ = some (.int .i64 R.height) ∧ W.cell? ⟨BX, 3, none⟩ = some (.slice pA R.pieces.length pc) ∧ W.cell? ⟨BX, 4, none⟩ = some (.slice sA R.start.length sc) ∧ W.cell? ⟨BX, 5, none⟩ = some (.bool R.falls) ∧ W.cell? ⟨BX, 6, none⟩ = some (.bool R.keeps) ∧ W.cell? ⟨BX, 7, none⟩ = some (.slice eA R.ends.length ec) ∧ W.cell? ⟨BX, 8, none⟩ = some (.int .i64 R.blocked) ∧ W.cell? ⟨BX, 9, none⟩ = some (.int .i64 R.quiet) ∧ W.cell? ⟨BX, 10, none⟩ = some (.int .i64 R.rept) ∧ W.cell? ⟨BX, 11, none⟩ = some (.slice A9 (ns.length + 1) c9) ∧ W.cell? ⟨BQ, 0, none⟩ = some (.slice (some ⟨g0, 0, none⟩) q.cells.length l0) ∧ W.cell? ⟨BQ, 1, none⟩ = some (.slice (some ⟨g1, 0, none⟩) q.hand0.length l1) ∧ W.cell? ⟨BQ, 2, none⟩ = some (.slice (some ⟨g2, 0, none⟩) q.hand1.length l2) ∧ W.cell? ⟨BQ, 3, none⟩ = some (.int .i64 q.turn) ∧ W.cell? ⟨BQ, 4, none⟩ = some (.int .i64 q.quiet) ∧ Ext w4 W) W from ⟨(KX4.out.ext h).cell 0, (KX4.out.ext h).cell 1, (KX4.out.ext h).cell 2, (KX4.out.ext h).cell 3, (KX4.out.ext h).cell 4, (KX4.out.ext h).cell 5, (KX4.out.ext h).cell 6, (KX4.out.ext h).cell 7, (KX4.out.ext h).cell 8, (KX4.out.ext h).cell 9, (KX4.out.ext h).cell 10, (KX4.out.ext h).cell 11, (KQ4.out.ext h).cell 0, (KQ4.out.ext h).cell 1, (KQ4.out.ext h).cell 2, (KQ4.out.ext h).cell 3, (KQ4.out.ext h).cell 4, h⟩))
        have yy : Ext w4 w4.drew := Below.drew (Below.refl _ _)
        refine region_K (fun W => W.cell? ⟨BX, 0, none⟩ = some (.string R.name) ∧ W.cell? ⟨BX, 1, none⟩ = some (.int .i64 R.width) ∧ W.cell? ⟨BX, 2, none⟩ = some (.int .i64 R.height) ∧ W.cell? ⟨BX, 3, none⟩ = some (.slice pA R.pieces.length pc) ∧ W.cell? ⟨BX, 4, none⟩ = some (.slice sA R.start.length sc) ∧ W.cell? ⟨BX, 5, none⟩ = some (.bool R.falls) ∧ W.cell? ⟨BX, 6, none⟩ = some (.bool R.keeps) ∧ W.cell? ⟨BX, 7, none⟩ = some (.slice eA R.ends.length ec) ∧ W.cell? ⟨BX, 8, none⟩ = some (.int .i64 R.blocked) ∧ W.cell? ⟨BX, 9, none⟩ = some (.int .i64 R.quiet) ∧ W.cell? ⟨BX, 10, none⟩ = some (.int .i64 R.rept) ∧ W.cell? ⟨BX, 11, none⟩ = some (.slice A9 (ns.length + 1) c9) ∧ W.cell? ⟨BQ, 0, none⟩ = some (.slice (some ⟨g0, 0, none⟩) q.cells.length l0) ∧ W.cell? ⟨BQ, 1, none⟩ = some (.slice (some ⟨g1, 0, none⟩) q.hand0.length l1) ∧ W.cell? ⟨BQ, 2, none⟩ = some (.slice (some ⟨g2, 0, none⟩) q.hand1.length l2) ∧ W.cell? ⟨BQ, 3, none⟩ = some (.int .i64 q.turn) ∧ W.cell? ⟨BQ, 4, none⟩ = some (.int .i64 q.quiet) ∧ Ext w4 W) (fun _ => True) [] (by kernel_rfl) ?_
        have hT0 := keepK.out _ yy
        refine anyK_take 0 (oi := ?oo45) ?ho45 (by kernel_rfl) (by kernel_rfl) (by kernel_rfl) (by kernel_rfl) ?hq45 ?hw45 hT0 (fun _ => trivial) (v := ?vv45) ?hy45 ?hk45
        case ho45 => (simp only [List.getElem?_toArray, List.getElem?_cons_succ, List.getElem?_cons_zero]; rfl)
        case hq45 => exact fun _ _ _ h => h
        case hw45 => rfl
        case hy45 =>
          intro W hW
          go_simp
          first | done | with_reducible rfl
        case hk45 =>
        try simp only [Act.put, List.setIfInBounds_toArray, List.set_cons_zero, List.set_cons_succ]
        refine anyK_take 1 (oi := ?oo46) ?ho46 (by kernel_rfl) (by kernel_rfl) (by kernel_rfl) (by kernel_rfl) ?hq46 ?hw46 hT0 (fun _ => trivial) (v := ?vv46) ?hy46 ?hk46
        case ho46 => (simp only [List.getElem?_toArray, List.getElem?_cons_succ, List.getElem?_cons_zero]; rfl)
        case hq46 => exact fun _ _ _ h => h
        case hw46 => rfl
        case hy46 =>
          intro W hW
          go_simp
          first | done | with_reducible rfl
        case hk46 =>
        try simp only [Act.put, List.setIfInBounds_toArray, List.set_cons_zero, List.set_cons_succ]
        refine anyK_take 2 (oi := ?oo47) ?ho47 (by kernel_rfl) (by kernel_rfl) (by kernel_rfl) (by kernel_rfl) ?hq47 ?hw47 hT0 (fun _ => trivial) (v := ?vv47) ?hy47 ?hk47
        case ho47 => (simp only [List.getElem?_toArray, List.getElem?_cons_succ, List.getElem?_cons_zero]; rfl)
        case hq47 => exact fun _ _ _ h => h
        case hw47 => rfl
        case hy47 =>
          intro W hW
          go_simp
          first | done | with_reducible rfl
        case hk47 =>
        try simp only [Act.put, List.setIfInBounds_toArray, List.set_cons_zero, List.set_cons_succ]
        refine anyK_take 3 (oi := ?oo48) ?ho48 (by kernel_rfl) (by kernel_rfl) (by kernel_rfl) (by kernel_rfl) ?hq48 ?hw48 hT0 (fun _ => trivial) (v := ?vv48) ?hy48 ?hk48
        case ho48 => (simp only [List.getElem?_toArray, List.getElem?_cons_succ, List.getElem?_cons_zero]; rfl)
        case hq48 => exact fun _ _ _ h => h
        case hw48 => rfl
        case hy48 =>
          intro W hW
          obtain ⟨z0, z1, z2, z3, z4, z5, z6, z7, z8, z9, z10, z11, z12, z13, z14, z15, z16, z17⟩ := hW
          go_simp
          first | done | with_reducible rfl
        case hk48 =>
        try simp only [Act.put, List.setIfInBounds_toArray, List.set_cons_zero, List.set_cons_succ]
        refine anyK_take 4 (oi := ?oo49) ?ho49 (by kernel_rfl) (by kernel_rfl) (by kernel_rfl) (by kernel_rfl) ?hq49 ?hw49 hT0 (fun _ => trivial) (v := ?vv49) ?hy49 ?hk49
        case ho49 => (simp only [List.getElem?_toArray, List.getElem?_cons_succ, List.getElem?_cons_zero]; rfl)
        case hq49 => exact fun _ _ _ h => h
        case hw49 => rfl
        case hy49 =>
          intro W hW
          obtain ⟨z0, z1, z2, z3, z4, z5, z6, z7, z8, z9, z10, z11, z12, z13, z14, z15, z16, z17⟩ := hW
          go_simp
          first | done | with_reducible rfl
        case hk49 =>
        try simp only [Act.put, List.setIfInBounds_toArray, List.set_cons_zero, List.set_cons_succ]
        refine anyK_take 7 (oi := ?oo50) ?ho50 (by kernel_rfl) (by kernel_rfl) (by kernel_rfl) (by kernel_rfl) ?hq50 ?hw50 hT0 (fun _ => trivial) (v := ?vv50) ?hy50 ?hk50
        case ho50 => (simp only [List.getElem?_toArray, List.getElem?_cons_succ, List.getElem?_cons_zero]; rfl)
        case hq50 => exact fun _ _ _ h => h
        case hw50 => rfl
        case hy50 =>
          intro W hW
          go_simp
          first | done | with_reducible rfl
        case hk50 =>
        try simp only [Act.put, List.setIfInBounds_toArray, List.set_cons_zero, List.set_cons_succ]
        refine anyK_on1 5 (by kernel_rfl) ?_
        refine anyK_one 5 (o := ?oo51) ?ho51 ?hk51
        case ho51 => (simp only [List.getElem?_toArray, List.getElem?_cons_succ, List.getElem?_cons_zero]; rfl)
        case hk51 =>
        intro K hK
        go_simp
        refine (HEM.out _ (ext_trans X04.out yy) _ (HQ4.out.at_.ext yy)).mono ?_
        rintro e w5 ⟨vz, rfl, hz, xx⟩
        try go_wp2_with fail
        replace yy := ext_trans yy xx
        have HMO := hide hz
        obtain ⟨zA, zc, rfl, -⟩ := hz
        have hT1 := keepK.out _ yy
        refine hK.out _ _ hT1 (fun _ => trivial) ?_
        clear hK K
        try simp only [Act.put, List.setIfInBounds_toArray, List.set_cons_zero, List.set_cons_succ]
        refine anyK_take 6 (oi := ?oo52) ?ho52 (by kernel_rfl) (by kernel_rfl) (by kernel_rfl) (by kernel_rfl) ?hq52 ?hw52 hT1 (fun _ => trivial) (v := ?vv52) ?hy52 ?hk52
        case ho52 => (simp only [List.getElem?_toArray, List.getElem?_cons_succ, List.getElem?_cons_zero]; rfl)
        case hq52 => exact fun _ _ _ h => h
        case hw52 => rfl
        case hy52 =>
          intro W hW
          go_simp
          first | done | with_reducible rfl
        case hk52 =>
        try simp only [Act.put, List.setIfInBounds_toArray, List.set_cons_zero, List.set_cons_succ]
        refine anyK_done (by kernel_rfl) ?_ _
        clear keepK hT0 hT1
        have KX5 := hide (KX4.out.ext yy)
        have KQ5 := hide (KQ4.out.ext yy)
        have HQ5 := hide (HQ4.out.ext yy)
        have RW5 : Hid (RowC w0.heap.size w5 A9 c9 (ns ++ [(m, .slice none 0 0)])) := hide (own_ext RW4.out yy)
        have X05 := hide (ext_trans X04.out yy)
        have F5 := hide (F4.out.trans (TFr.of_ext yy))
        have HZ5 := hide (Nat.le_trans HZ4.out yy.size)
        clear yy xx KX4 KQ4 HQ4 RW4 X04 F4 HZ4 HEM

        have HCE1 := hide HCE.out
        clear HCE
        go_wp2
        go_loopw [11, 57] (fun rv i wr => ∃ (j : Nat) (ms : List (MoveM × Value)) (Ar : Option Addr) (cr : Nat), j ≤ ML.length ∧ i = .int .i64 j ∧ Hid (OwnB w5.heap.size wr rv (foldC R (subC R d1) q (ns.length + 1) (ML.take j)).2) ∧ Hid (Blk wr BX 93 #[.string R.name, .int .i64 R.width, .int .i64 R.height, .slice pA R.pieces.length pc, .slice sA R.start.length sc, .bool R.falls, .bool R.keeps, .slice eA R.ends.length ec, .int .i64 R.blocked, .int .i64 R.quiet, .int .i64 R.rept, .slice Ar (ns.length + 1 + ms.length) cr]) ∧
            Hid (RowC w0.heap.size wr Ar cr (ns ++ (m, .slice none 0 0) :: ms)) ∧ Hid (Made w5.heap.size wr ms (foldC R (subC R d1) q (ns.length + 1) (ML.take j)).1) ∧ Hid (Apart rv ms) ∧ Hid (ns.length + 1 + ms.length ≤ 5000) ∧ Hid (Ext w0 wr) ∧ Hid (TFr [93, 135] w5 wr) ∧ Hid (SizeLe w5 wr)) (fun _ i _ => ML.length - (intOf i).toNat)
        case atStart => exact ⟨0, [], A9, c9, Nat.zero_le _, rfl, hide ⟨none, 0, rfl, World.ownsRow_nil _ _ _ _⟩, KX5, RW5, hide (Made.nil _ _), hide (fun i x h => by simp at h), hide (by have := HN1.out; simpa using this), X05, hide (TFr.refl _ _), hide (show SizeLe w5 w5 from Nat.le_refl _)⟩
        case round =>
          obtain ⟨j, ms, Ar, cr, hj, rfl, hO, hK, hRW, hMd, hAp, hN5, hX0, hTL, hZ⟩ := hrel
          obtain ⟨oA, oc, e11, hOw⟩ := hO.out
          subst e11
          have KQR := hide (hTL.out _ _ _ KQ5.out (by decide))
          have HQR := hide (HQ5.out.tfr (by decide) hTL.out)
          have HMR := hide (HMO.out.tfr (by decide) hTL.out).at_
          have hml := HML.out
          obtain ⟨xs, hxs⟩ : ∃ xs, (foldC R (subC R d1) q (ns.length + 1) (ML.take j)).2 = xs := ⟨_, rfl⟩
          rw [hxs] at hO hOw hAp
          rw [hxs]
          have HXS := hide hxs
          have HXL : Hid (xs.length = j) := hide (by rw [← hxs, foldC_len, List.length_take]; omega)
          obtain ⟨N, hNe⟩ : ∃ N, ns.length + 1 + ms.length = N := ⟨_, rfl⟩
          rw [hNe] at hK hN5
          have HNE := hide hNe
          clear hxs hNe
          by_cases hlt : j < ML.length
          · obtain ⟨a, ha⟩ : ∃ a, ML[j]? = some a := ⟨ML[j], List.getElem?_eq_getElem _⟩
            have HTK : Hid (ML.take (j + 1) = ML.take j ++ [a]) := hide (by rw [List.take_add_one, ha]; rfl)
            have hmem := List.mem_of_getElem? ha
            have HMA2 := hide (HMA.out a hmem)
            have HSA2 := hide (HSA.out a hmem)
            have HRA2 := hide (HRA.out a hmem)
            have HK2 := hide (HK.out a hmem)
            have HSN : Hid (foldC R (subC R d1) q (ns.length + 1) (ML.take (j + 1)) = if resultM R (makeM R q a) ≠ 0 then ((foldC R (subC R d1) q (ns.length + 1) (ML.take j)).1, xs ++ [-1]) else ((foldC R (subC R d1) q (ns.length + 1) (ML.take j)).1 ++ subC R d1 N (makeM R q a), xs ++ [(N : Int)])) := hide (by
              rw [HTK.out, foldC_snoc, HXS.out, ← hMd.out.1, HNE.out])
            obtain ⟨lA', lc', e', hc'⟩ := HMR.out
            simp only [Value.slice.injEq, true_and] at e'
            obtain ⟨rfl, rfl⟩ := e'
            obtain ⟨b', o', rfl, m0, m1, m2⟩ := moves_get hc' ha
            have j0 : (0 : Int) ≤ (j : Int) := by omega
            have j1 : (j : Int) < (ML.length : Int) := by omega
            clear ha hmem hc'
            go_upto_region 11 with fail
            obtain ⟨x6, k6⟩ := blks1 wr #[.int .i64 a.src, .int .i64 a.dst, .int .i64 a.piece] 37
            have KA6 := hide k6
            have KX6 := hide (hK.out.ext x6)
            have KQ6 := hide (KQR.out.ext x6)
            have HQ6 := hide (HQR.out.ext x6)
            have RW6 : Hid (RowC w0.heap.size (wr.alloc (.cells #[.int .i64 a.src, .int .i64 a.dst, .int .i64 a.piece] 37)) Ar cr (ns ++ (m, .slice none 0 0) :: ms)) := hide (own_ext hRW.out x6)
            have MD6 := hide (hMd.out.ext x6)
            have OB6 := hide (hO.out.ext x6)
            have X06 := hide (ext_trans hX0.out x6)
            have TL6 := hide (hTL.out.trans (TFr.of_ext x6))
            have HZ6 := hide (hZ.out.le x6.size)
            clear x6 k6 m0 m1 m2 hK KQR HQR hRW hMd hO hX0 hTL hZ HMR HMA HSA HRA
            generalize wr.alloc (.cells #[.int .i64 a.src, .int .i64 a.dst, .int .i64 a.piece] 37) = w6 at *
            generalize wr.heap.size = BA at *
            have keepK := hide (fun W (h : Ext w6 W) => (show (fun W => W.cell? ⟨BX, 0, none⟩ = some (.string R.name) ∧ W.cell? ⟨BX, 1, none⟩ = some (.int .i64 R.width) ∧ W.cell? ⟨BX, 2, none⟩ = some (.int .i64 R.height) ∧ W.cell? ⟨BX, 3, none⟩ = some (.slice pA R.pieces.length pc) ∧ W.cell? ⟨BX, 4, none⟩ = some (.slice sA R.start.length sc) ∧ W.cell? ⟨BX, 5, none⟩ = some (.bool R.falls) ∧ W.cell? ⟨BX, 6, none⟩ = some (.bool R.keeps) ∧ W.cell? ⟨BX, 7, none⟩ = some (.slice eA R.ends.length ec) ∧ W.cell? ⟨BX, 8, none⟩ = some (.int .i64 R.blocked) ∧ W.cell? ⟨BX, 9, none⟩ = some (.int .i64 R.quiet) ∧ W.cell? ⟨BX, 10, none⟩ = some (.int .i64 R.rept) ∧ W.cell? ⟨BX, 11, none⟩ = some (.slice Ar N cr) ∧ W.cell? ⟨BQ, 0, none⟩ = some (.slice (some ⟨g0, 0, none⟩) q.cells.length l0) ∧ W.cell? ⟨BQ, 1, none⟩ = some (.slice (some ⟨g1, 0, none⟩) q.hand0.length l1) ∧ W.cell? ⟨BQ, 2, none⟩ = some (.slice (some ⟨g2, 0, none⟩) q.hand1.length l2) ∧ W.cell? ⟨BQ, 3, none⟩ = some (.int .i64 q.turn) ∧ W.cell? ⟨BQ, 4, none⟩ = some (.int .i64 q.quiet) ∧ W.cell? ⟨BA, 0, none⟩ = some (.int .i64 a.src) ∧ W.cell? ⟨BA, 1, none⟩ = some (.int .i64 a.dst) ∧ W.cell? ⟨BA, 2, none⟩ = some (.int .i64 a.piece) ∧ Ext w6 W) W from ⟨(KX6.out.ext h).cell 0, (KX6.out.ext h).cell 1, (KX6.out.ext h).cell 2, (KX6.out.ext h).cell 3, (KX6.out.ext h).cell 4, (KX6.out.ext h).cell 5, (KX6.out.ext h).cell 6, (KX6.out.ext h).cell 7, (KX6.out.ext h).cell 8, (KX6.out.ext h).cell 9, (KX6.out.ext h).cell 10, (KX6.out.ext h).cell 11, (KQ6.out.ext h).cell 0, (KQ6.out.ext h).cell 1, (KQ6.out.ext h).cell 2, (KQ6.out.ext h).cell 3, (KQ6.out.ext h).cell 4, (KA6.out.ext h).cell 0, (KA6.out.ext h).cell 1, (KA6.out.ext h).cell 2, h⟩))
            have yy : Ext w6 w6.drew := Below.drew (Below.refl _ _)
            refine region_K (fun W => W.cell? ⟨BX, 0, none⟩ = some (.string R.name) ∧ W.cell? ⟨BX, 1, none⟩ = some (.int .i64 R.width) ∧ W.cell? ⟨BX, 2, none⟩ = some (.int .i64 R.height) ∧ W.cell? ⟨BX, 3, none⟩ = some (.slice pA R.pieces.length pc) ∧ W.cell? ⟨BX, 4, none⟩ = some (.slice sA R.start.length sc) ∧ W.cell? ⟨BX, 5, none⟩ = some (.bool R.falls) ∧ W.cell? ⟨BX, 6, none⟩ = some (.bool R.keeps) ∧ W.cell? ⟨BX, 7, none⟩ = some (.slice eA R.ends.length ec) ∧ W.cell? ⟨BX, 8, none⟩ = some (.int .i64 R.blocked) ∧ W.cell? ⟨BX, 9, none⟩ = some (.int .i64 R.quiet) ∧ W.cell? ⟨BX, 10, none⟩ = some (.int .i64 R.rept) ∧ W.cell? ⟨BX, 11, none⟩ = some (.slice Ar N cr) ∧ W.cell? ⟨BQ, 0, none⟩ = some (.slice (some ⟨g0, 0, none⟩) q.cells.length l0) ∧ W.cell? ⟨BQ, 1, none⟩ = some (.slice (some ⟨g1, 0, none⟩) q.hand0.length l1) ∧ W.cell? ⟨BQ, 2, none⟩ = some (.slice (some ⟨g2, 0, none⟩) q.hand1.length l2) ∧ W.cell? ⟨BQ, 3, none⟩ = some (.int .i64 q.turn) ∧ W.cell? ⟨BQ, 4, none⟩ = some (.int .i64 q.quiet) ∧ W.cell? ⟨BA, 0, none⟩ = some (.int .i64 a.src) ∧ W.cell? ⟨BA, 1, none⟩ = some (.int .i64 a.dst) ∧ W.cell? ⟨BA, 2, none⟩ = some (.int .i64 a.piece) ∧ Ext w6 W) (fun _ => True) [] (by kernel_rfl) ?_
            have hT0 := keepK.out _ yy
            refine anyK_take 0 (oi := ?oo53) ?ho53 (by kernel_rfl) (by kernel_rfl) (by kernel_rfl) (by kernel_rfl) ?hq53 ?hw53 hT0 (fun _ => trivial) (v := ?vv53) ?hy53 ?hk53
            case ho53 => (simp only [List.getElem?_toArray, List.getElem?_cons_succ, List.getElem?_cons_zero]; rfl)
            case hq53 => exact fun _ _ _ h => h
            case hw53 => rfl
            case hy53 =>
              intro W hW
              go_simp
              first | done | with_reducible rfl
            case hk53 =>
            try simp only [Act.put, List.setIfInBounds_toArray, List.set_cons_zero, List.set_cons_succ]
            refine anyK_take 1 (oi := ?oo54) ?ho54 (by kernel_rfl) (by kernel_rfl) (by kernel_rfl) (by kernel_rfl) ?hq54 ?hw54 hT0 (fun _ => trivial) (v := ?vv54) ?hy54 ?hk54
            case ho54 => (simp only [List.getElem?_toArray, List.getElem?_cons_succ, List.getElem?_cons_zero]; rfl)
            case hq54 => exact fun _ _ _ h => h
            case hw54 => rfl
            case hy54 =>
              intro W hW
              go_simp
              first | done | with_reducible rfl
            case hk54 =>
            try simp only [Act.put, List.setIfInBounds_toArray, List.set_cons_zero, List.set_cons_succ]
            refine anyK_take 2 (oi := ?oo55) ?ho55 (by kernel_rfl) (by kernel_rfl) (by kernel_rfl) (by kernel_rfl) ?hq55 ?hw55 hT0 (fun _ => trivial) (v := ?vv55) ?hy55 ?hk55
            case ho55 => (simp only [List.getElem?_toArray, List.getElem?_cons_succ, List.getElem?_cons_zero]; rfl)
            case hq55 => exact fun _ _ _ h => h
            case hw55 => rfl
            case hy55 =>
              intro W hW
              go_simp
              first | done | with_reducible rfl
            case hk55 =>
            try simp only [Act.put, List.setIfInBounds_toArray, List.set_cons_zero, List.set_cons_succ]
            refine anyK_take 3 (oi := ?oo56) ?ho56 (by kernel_rfl) (by kernel_rfl) (by kernel_rfl) (by kernel_rfl) ?hq56 ?hw56 hT0 (fun _ => trivial) (v := ?vv56) ?hy56 ?hk56
            case ho56 => (simp only [List.getElem?_toArray, List.getElem?_cons_succ, List.getElem?_cons_zero]; rfl)
            case hq56 => exact fun _ _ _ h => h
            case hw56 => rfl
            case hy56 =>
              intro W hW
              obtain ⟨z0, z1, z2, z3, z4, z5, z6, z7, z8, z9, z10, z11, z12, z13, z14, z15, z16, z17, z18, z19, z20⟩ := hW
              go_simp
              first | done | with_reducible rfl
            case hk56 =>
            try simp only [Act.put, List.setIfInBounds_toArray, List.set_cons_zero, List.set_cons_succ]
            refine anyK_take 4 (oi := ?oo57) ?ho57 (by kernel_rfl) (by kernel_rfl) (by kernel_rfl) (by kernel_rfl) ?hq57 ?hw57 hT0 (fun _ => trivial) (v := ?vv57) ?hy57 ?hk57
            case ho57 => (simp only [List.getElem?_toArray, List.getElem?_cons_succ, List.getElem?_cons_zero]; rfl)
            case hq57 => exact fun _ _ _ h => h
            case hw57 => rfl
            case hy57 =>
              intro W hW
              obtain ⟨z0, z1, z2, z3, z4, z5, z6, z7, z8, z9, z10, z11, z12, z13, z14, z15, z16, z17, z18, z19, z20⟩ := hW
              go_simp
              first | done | with_reducible rfl
            case hk57 =>
            try simp only [Act.put, List.setIfInBounds_toArray, List.set_cons_zero, List.set_cons_succ]
            refine anyK_take 5 (oi := ?oo58) ?ho58 (by kernel_rfl) (by kernel_rfl) (by kernel_rfl) (by kernel_rfl) ?hq58 ?hw58 hT0 (fun _ => trivial) (v := ?vv58) ?hy58 ?hk58
            case ho58 => (simp only [List.getElem?_toArray, List.getElem?_cons_succ, List.getElem?_cons_zero]; rfl)
            case hq58 => exact fun _ _ _ h => h
            case hw58 => rfl
            case hy58 =>
              intro W hW
              obtain ⟨z0, z1, z2, z3, z4, z5, z6, z7, z8, z9, z10, z11, z12, z13, z14, z15, z16, z17, z18, z19, z20⟩ := hW
              go_simp
              first | done | with_reducible rfl
            case hk58 =>
            try simp only [Act.put, List.setIfInBounds_toArray, List.set_cons_zero, List.set_cons_succ]
            refine anyK_on2 6 7 (by kernel_rfl) ?_ ?_
            · skip
              refine anyK_one 6 (o := ?oo59) ?ho59 ?hk59
              case ho59 => (simp only [List.getElem?_toArray, List.getElem?_cons_succ, List.getElem?_cons_zero]; rfl)
              case hk59 =>
              intro K hK
              go_simp
              refine (HMA2.out _ (ext_trans X06.out yy) _ (HQ6.out.at_.ext yy)).mono ?_
              rintro e we ⟨v9, rfl, own9, xx⟩
              try go_wp2_with fail
              replace yy := ext_trans yy xx
              have HP9 := hide (own9.mono (B' := w6.heap.size) (by first | exact Nat.le_refl _ | (simp; done) | (simp; omega)))
              have hp9 := own9.toI
              obtain ⟨h0, e0, h1, e1, h2, e2, rfl, -⟩ := hp9
              clear own9
              try (replace KN := hide (KN.out.ext xx))
              have hT1 := keepK.out _ yy
              refine hK.out _ _ hT1 (fun _ => trivial) ?_
              clear hK K
              try simp only [Act.put, List.setIfInBounds_toArray, List.set_cons_zero, List.set_cons_succ]
              refine anyK_on1 7 (by kernel_rfl) ?_
              refine anyK_one 7 (o := ?oo60) ?ho60 ?hk60
              case ho60 => (simp only [List.getElem?_toArray, List.getElem?_cons_succ, List.getElem?_cons_zero]; rfl)
              case hk60 =>
              intro K hK
              go_simp
              have KN : Hid (Blk (we.alloc (.cells #[.slice none 0 0, .slice none 0 0, .slice none 0 0, .int .i64 0, .int .i64 0] 29)) we.heap.size 29 #[.slice none 0 0, .slice none 0 0, .slice none 0 0, .int .i64 0, .int .i64 0]) := hide (Blk.new we 29 #[.slice none 0 0, .slice none 0 0, .slice none 0 0, .int .i64 0, .int .i64 0])
              try (replace HP9 := hide (HP9.out.ext (ext_alloc (Below.refl _ _) (.cells #[.slice none 0 0, .slice none 0 0, .slice none 0 0, .int .i64 0, .int .i64 0] 29))))
              generalize hBN : we.heap.size = BN at *
              have HNB : Hid (w6.heap.size ≤ BN) := hide (by have h : w6.heap.size ≤ we.heap.size := (yy : Ext w6 we).size; omega)
              clear hBN
              replace yy := ext_alloc yy (.cells #[.slice none 0 0, .slice none 0 0, .slice none 0 0, .int .i64 0, .int .i64 0] 29)
              have hT2 := keepK.out _ yy
              refine hK.out _ _ hT2 (fun _ => trivial) ?_
              clear hK K
              try simp only [Act.put, List.setIfInBounds_toArray, List.set_cons_zero, List.set_cons_succ]
              refine anyK_on1 8 (by kernel_rfl) ?_
              refine anyK_one 8 (o := ?oo61) ?ho61 ?hk61
              case ho61 => (simp only [List.getElem?_toArray, List.getElem?_cons_succ, List.getElem?_cons_zero]; rfl)
              case hk61 =>
              intro K hK
              have q5 := KN.out.cell
              have z5 := KN.out.frozen
              have KPF := hide (blk_put (i := 4) (u := .int .i64 (makeM R q a).quiet) (cs' := #[.slice (some ⟨h0, 0, none⟩) (makeM R q a).cells.length e0, .slice (some ⟨h1, 0, none⟩) (makeM R q a).hand0.length e1, .slice (some ⟨h2, 0, none⟩) (makeM R q a).hand1.length e2, .int .i64 (makeM R q a).turn, .int .i64 (makeM R q a).quiet]) (blk_put (i := 3) (u := .int .i64 (makeM R q a).turn) (cs' := #[.slice (some ⟨h0, 0, none⟩) (makeM R q a).cells.length e0, .slice (some ⟨h1, 0, none⟩) (makeM R q a).hand0.length e1, .slice (some ⟨h2, 0, none⟩) (makeM R q a).hand1.length e2, .int .i64 (makeM R q a).turn, .int .i64 0]) (blk_put (i := 2) (u := .slice (some ⟨h2, 0, none⟩) (makeM R q a).hand1.length e2) (cs' := #[.slice (some ⟨h0, 0, none⟩) (makeM R q a).cells.length e0, .slice (some ⟨h1, 0, none⟩) (makeM R q a).hand0.length e1, .slice (some ⟨h2, 0, none⟩) (makeM R q a).hand1.length e2, .int .i64 0, .int .i64 0]) (blk_put (i := 1) (u := .slice (some ⟨h1, 0, none⟩) (makeM R q a).hand0.length e1) (cs' := #[.slice (some ⟨h0, 0, none⟩) (makeM R q a).cells.length e0, .slice (some ⟨h1, 0, none⟩) (makeM R q a).hand0.length e1, .slice none 0 0, .int .i64 0, .int .i64 0]) (blk_put (i := 0) (u := .slice (some ⟨h0, 0, none⟩) (makeM R q a).cells.length e0) (cs' := #[.slice (some ⟨h0, 0, none⟩) (makeM R q a).cells.length e0, .slice none 0 0, .slice none 0 0, .int .i64 0, .int .i64 0]) KN.out rfl) rfl) rfl) rfl) rfl)
              have HPF := hide (PosOwn.far5 (u0 := .slice (some ⟨h0, 0, none⟩) (makeM R q a).cells.length e0) (u1 := .slice (some ⟨h1, 0, none⟩) (makeM R q a).hand0.length e1) (u2 := .slice (some ⟨h2, 0, none⟩) (makeM R q a).hand1.length e2) (u3 := .int .i64 (makeM R q a).turn) (u4 := .int .i64 (makeM R q a).quiet) HP9.out KN.out)
              replace yy := (ext_set (ext_set (ext_set (ext_set (ext_set yy (p := ⟨BN, 0, none⟩) HNB.out (.slice (some ⟨h0, 0, none⟩) (makeM R q a).cells.length e0)) (p := ⟨BN, 1, none⟩) HNB.out (.slice (some ⟨h1, 0, none⟩) (makeM R q a).hand0.length e1)) (p := ⟨BN, 2, none⟩) HNB.out (.slice (some ⟨h2, 0, none⟩) (makeM R q a).hand1.length e2)) (p := ⟨BN, 3, none⟩) HNB.out (.int .i64 (makeM R q a).turn)) (p := ⟨BN, 4, none⟩) HNB.out (.int .i64 (makeM R q a).quiet))
              go_simp
              clear q5 z5
              have hT3 := keepK.out _ yy
              refine hK.out _ _ hT3 (fun _ => trivial) ?_
              clear hK K
              try simp only [Act.put, List.setIfInBounds_toArray, List.set_cons_zero, List.set_cons_succ]
              refine anyK_done (by kernel_rfl) ?_ _
              clear keepK hT0 hT1 hT2 hT3
              have OLO : Hid (∀ g, (Value.slice oA xs.length oc).ownBlock = some g → g < w6.heap.size) := hide (fun g hg => (OB6.out.low g hg).2)
              have KX7 := hide (KX6.out.ext yy)
              have RW7 : Hid (RowC w0.heap.size ((((((we.alloc (.cells #[.slice none 0 0, .slice none 0 0, .slice none 0 0, .int .i64 0, .int .i64 0] 29)).setCell ⟨BN, 0, none⟩ (.slice (some ⟨h0, 0, none⟩) (makeM R q a).cells.length e0)).setCell ⟨BN, 1, none⟩ (.slice (some ⟨h1, 0, none⟩) (makeM R q a).hand0.length e1)).setCell ⟨BN, 2, none⟩ (.slice (some ⟨h2, 0, none⟩) (makeM R q a).hand1.length e2)).setCell ⟨BN, 3, none⟩ (.int .i64 (makeM R q a).turn)).setCell ⟨BN, 4, none⟩ (.int .i64 (makeM R q a).quiet)) Ar cr (ns ++ (m, .slice none 0 0) :: ms)) := hide (own_ext RW6.out yy)
              have MD7 := hide (MD6.out.ext yy)
              have OB7 := hide (OB6.out.ext yy)
              have X07 := hide (ext_trans X06.out yy)
              have TL7 := hide (TL6.out.trans (TFr.of_ext yy))
              have HZ7 := hide (HZ6.out.le (yy).size)
              clear KX6 RW6 MD6 OB6 X06 TL6 HZ6
              have KS7 := KPF
              have HS7 := HPF
              have HL7 : Hid (SizeLe w6 ((((((we.alloc (.cells #[.slice none 0 0, .slice none 0 0, .slice none 0 0, .int .i64 0, .int .i64 0] 29)).setCell ⟨BN, 0, none⟩ (.slice (some ⟨h0, 0, none⟩) (makeM R q a).cells.length e0)).setCell ⟨BN, 1, none⟩ (.slice (some ⟨h1, 0, none⟩) (makeM R q a).hand0.length e1)).setCell ⟨BN, 2, none⟩ (.slice (some ⟨h2, 0, none⟩) (makeM R q a).hand1.length e2)).setCell ⟨BN, 3, none⟩ (.int .i64 (makeM R q a).turn)).setCell ⟨BN, 4, none⟩ (.int .i64 (makeM R q a).quiet))) := hide (show w6.heap.size ≤ ((((((we.alloc (.cells #[.slice none 0 0, .slice none 0 0, .slice none 0 0, .int .i64 0, .int .i64 0] 29)).setCell ⟨BN, 0, none⟩ (.slice (some ⟨h0, 0, none⟩) (makeM R q a).cells.length e0)).setCell ⟨BN, 1, none⟩ (.slice (some ⟨h1, 0, none⟩) (makeM R q a).hand0.length e1)).setCell ⟨BN, 2, none⟩ (.slice (some ⟨h2, 0, none⟩) (makeM R q a).hand1.length e2)).setCell ⟨BN, 3, none⟩ (.int .i64 (makeM R q a).turn)).setCell ⟨BN, 4, none⟩ (.int .i64 (makeM R q a).quiet)).heap.size from yy.size)
              clear yy xx KQ6 HQ6 KA6 HMA2 HP9 KPF HPF KN HNB
              generalize ((((((we.alloc (.cells #[.slice none 0 0, .slice none 0 0, .slice none 0 0, .int .i64 0, .int .i64 0] 29)).setCell ⟨BN, 0, none⟩ (.slice (some ⟨h0, 0, none⟩) (makeM R q a).cells.length e0)).setCell ⟨BN, 1, none⟩ (.slice (some ⟨h1, 0, none⟩) (makeM R q a).hand0.length e1)).setCell ⟨BN, 2, none⟩ (.slice (some ⟨h2, 0, none⟩) (makeM R q a).hand1.length e2)).setCell ⟨BN, 3, none⟩ (.int .i64 (makeM R q a).turn)).setCell ⟨BN, 4, none⟩ (.int .i64 (makeM R q a).quiet)) = w7 at *
              generalize BN = BS at *
              generalize makeM R q a = s at *
              go_upto_region 12 with fail
              have keepK := hide (fun W (h : Ext w7 W) => (show (fun W => W.cell? ⟨BX, 0, none⟩ = some (.string R.name) ∧ W.cell? ⟨BX, 1, none⟩ = some (.int .i64 R.width) ∧ W.cell? ⟨BX, 2, none⟩ = some (.int .i64 R.height) ∧ W.cell? ⟨BX, 3, none⟩ = some (.slice pA R.pieces.length pc) ∧ W.cell? ⟨BX, 4, none⟩ = some (.slice sA R.start.length sc) ∧ W.cell? ⟨BX, 5, none⟩ = some (.bool R.falls) ∧ W.cell? ⟨BX, 6, none⟩ = some (.bool R.keeps) ∧ W.cell? ⟨BX, 7, none⟩ = some (.slice eA R.ends.length ec) ∧ W.cell? ⟨BX, 8, none⟩ = some (.int .i64 R.blocked) ∧ W.cell? ⟨BX, 9, none⟩ = some (.int .i64 R.quiet) ∧ W.cell? ⟨BX, 10, none⟩ = some (.int .i64 R.rept) ∧ W.cell? ⟨BX, 11, none⟩ = some (.slice Ar N cr) ∧ W.cell? ⟨BS, 0, none⟩ = some (.slice (some ⟨h0, 0, none⟩) s.cells.length e0) ∧ W.cell? ⟨BS, 1, none⟩ = some (.slice (some ⟨h1, 0, none⟩) s.hand0.length e1) ∧ W.cell? ⟨BS, 2, none⟩ = some (.slice (some ⟨h2, 0, none⟩) s.hand1.length e2) ∧ W.cell? ⟨BS, 3, none⟩ = some (.int .i64 s.turn) ∧ W.cell? ⟨BS, 4, none⟩ = some (.int .i64 s.quiet) ∧ Ext w7 W) W from ⟨(KX7.out.ext h).cell 0, (KX7.out.ext h).cell 1, (KX7.out.ext h).cell 2, (KX7.out.ext h).cell 3, (KX7.out.ext h).cell 4, (KX7.out.ext h).cell 5, (KX7.out.ext h).cell 6, (KX7.out.ext h).cell 7, (KX7.out.ext h).cell 8, (KX7.out.ext h).cell 9, (KX7.out.ext h).cell 10, (KX7.out.ext h).cell 11, (KS7.out.ext h).cell 0, (KS7.out.ext h).cell 1, (KS7.out.ext h).cell 2, (KS7.out.ext h).cell 3, (KS7.out.ext h).cell 4, h⟩))
              have yy : Ext w7 w7.drew := Below.drew (Below.refl _ _)
              refine region_K (fun W => W.cell? ⟨BX, 0, none⟩ = some (.string R.name) ∧ W.cell? ⟨BX, 1, none⟩ = some (.int .i64 R.width) ∧ W.cell? ⟨BX, 2, none⟩ = some (.int .i64 R.height) ∧ W.cell? ⟨BX, 3, none⟩ = some (.slice pA R.pieces.length pc) ∧ W.cell? ⟨BX, 4, none⟩ = some (.slice sA R.start.length sc) ∧ W.cell? ⟨BX, 5, none⟩ = some (.bool R.falls) ∧ W.cell? ⟨BX, 6, none⟩ = some (.bool R.keeps) ∧ W.cell? ⟨BX, 7, none⟩ = some (.slice eA R.ends.length ec) ∧ W.cell? ⟨BX, 8, none⟩ = some (.int .i64 R.blocked) ∧ W.cell? ⟨BX, 9, none⟩ = some (.int .i64 R.quiet) ∧ W.cell? ⟨BX, 10, none⟩ = some (.int .i64 R.rept) ∧ W.cell? ⟨BX, 11, none⟩ = some (.slice Ar N cr) ∧ W.cell? ⟨BS, 0, none⟩ = some (.slice (some ⟨h0, 0, none⟩) s.cells.length e0) ∧ W.cell? ⟨BS, 1, none⟩ = some (.slice (some ⟨h1, 0, none⟩) s.hand0.length e1) ∧ W.cell? ⟨BS, 2, none⟩ = some (.slice (some ⟨h2, 0, none⟩) s.hand1.length e2) ∧ W.cell? ⟨BS, 3, none⟩ = some (.int .i64 s.turn) ∧ W.cell? ⟨BS, 4, none⟩ = some (.int .i64 s.quiet) ∧ Ext w7 W) (fun _ => True) [] (by kernel_rfl) ?_
              have hT0 := keepK.out _ yy
              refine anyK_take 0 (oi := ?oo62) ?ho62 (by kernel_rfl) (by kernel_rfl) (by kernel_rfl) (by kernel_rfl) ?hq62 ?hw62 hT0 (fun _ => trivial) (v := ?vv62) ?hy62 ?hk62
              case ho62 => (simp only [List.getElem?_toArray, List.getElem?_cons_succ, List.getElem?_cons_zero]; rfl)
              case hq62 => exact fun _ _ _ h => h
              case hw62 => rfl
              case hy62 =>
                intro W hW
                go_simp
                first | done | with_reducible rfl
              case hk62 =>
              try simp only [Act.put, List.setIfInBounds_toArray, List.set_cons_zero, List.set_cons_succ]
              refine anyK_take 1 (oi := ?oo63) ?ho63 (by kernel_rfl) (by kernel_rfl) (by kernel_rfl) (by kernel_rfl) ?hq63 ?hw63 hT0 (fun _ => trivial) (v := ?vv63) ?hy63 ?hk63
              case ho63 => (simp only [List.getElem?_toArray, List.getElem?_cons_succ, List.getElem?_cons_zero]; rfl)
              case hq63 => exact fun _ _ _ h => h
              case hw63 => rfl
              case hy63 =>
                intro W hW
                go_simp
                first | done | with_reducible rfl
              case hk63 =>
              try simp only [Act.put, List.setIfInBounds_toArray, List.set_cons_zero, List.set_cons_succ]
              refine anyK_take 2 (oi := ?oo64) ?ho64 (by kernel_rfl) (by kernel_rfl) (by kernel_rfl) (by kernel_rfl) ?hq64 ?hw64 hT0 (fun _ => trivial) (v := ?vv64) ?hy64 ?hk64
              case ho64 => (simp only [List.getElem?_toArray, List.getElem?_cons_succ, List.getElem?_cons_zero]; rfl)
              case hq64 => exact fun _ _ _ h => h
              case hw64 => rfl
              case hy64 =>
                intro W hW
                go_simp
                first | done | with_reducible rfl
              case hk64 =>
              try simp only [Act.put, List.setIfInBounds_toArray, List.set_cons_zero, List.set_cons_succ]
              refine anyK_take 3 (oi := ?oo65) ?ho65 (by kernel_rfl) (by kernel_rfl) (by kernel_rfl) (by kernel_rfl) ?hq65 ?hw65 hT0 (fun _ => trivial) (v := ?vv65) ?hy65 ?hk65
              case ho65 => (simp only [List.getElem?_toArray, List.getElem?_cons_succ, List.getElem?_cons_zero]; rfl)
              case hq65 => exact fun _ _ _ h => h
              case hw65 => rfl
              case hy65 =>
                intro W hW
                obtain ⟨z0, z1, z2, z3, z4, z5, z6, z7, z8, z9, z10, z11, z12, z13, z14, z15, z16, z17⟩ := hW
                go_simp
                first | done | with_reducible rfl
              case hk65 =>
              try simp only [Act.put, List.setIfInBounds_toArray, List.set_cons_zero, List.set_cons_succ]
              refine anyK_take 4 (oi := ?oo66) ?ho66 (by kernel_rfl) (by kernel_rfl) (by kernel_rfl) (by kernel_rfl) ?hq66 ?hw66 hT0 (fun _ => trivial) (v := ?vv66) ?hy66 ?hk66
              case ho66 => (simp only [List.getElem?_toArray, List.getElem?_cons_succ, List.getElem?_cons_zero]; rfl)
              case hq66 => exact fun _ _ _ h => h
              case hw66 => rfl
              case hy66 =>
                intro W hW
                obtain ⟨z0, z1, z2, z3, z4, z5, z6, z7, z8, z9, z10, z11, z12, z13, z14, z15, z16, z17⟩ := hW
                go_simp
                first | done | with_reducible rfl
              case hk66 =>
              try simp only [Act.put, List.setIfInBounds_toArray, List.set_cons_zero, List.set_cons_succ]
              refine anyK_on1 5 (by kernel_rfl) ?_
              refine anyK_one 5 (o := ?oo67) ?ho67 ?hk67
              case ho67 => (simp only [List.getElem?_toArray, List.getElem?_cons_succ, List.getElem?_cons_zero]; rfl)
              case hk67 =>
              intro K hK
              go_simp
              refine (HRA2.out _ (ext_trans X07.out yy) _ (HS7.out.toI.at_.ext yy)).mono ?_
              rintro e w8 ⟨rfl, xx⟩
              try go_wp2_with fail
              replace yy := ext_trans yy xx
              have hT1 := keepK.out _ yy
              refine hK.out _ _ hT1 (fun _ => trivial) ?_
              clear hK K
              try simp only [Act.put, List.setIfInBounds_toArray, List.set_cons_zero, List.set_cons_succ]
              refine anyK_take 6 (oi := ?oo68) ?ho68 (by kernel_rfl) (by kernel_rfl) (by kernel_rfl) (by kernel_rfl) ?hq68 ?hw68 hT1 (fun _ => trivial) (v := ?vv68) ?hy68 ?hk68
              case ho68 => (simp only [List.getElem?_toArray, List.getElem?_cons_succ, List.getElem?_cons_zero]; rfl)
              case hq68 => exact fun _ _ _ h => h
              case hw68 => rfl
              case hy68 =>
                intro W hW
                go_simp
                first | done | with_reducible rfl
              case hk68 =>
              try simp only [Act.put, List.setIfInBounds_toArray, List.set_cons_zero, List.set_cons_succ]
              refine anyK_done (by kernel_rfl) ?_ _
              clear keepK hT0 hT1
              have KX8 := hide (KX7.out.ext yy)
              have RW8 : Hid (RowC w0.heap.size w8 Ar cr (ns ++ (m, .slice none 0 0) :: ms)) := hide (own_ext RW7.out yy)
              have MD8 := hide (MD7.out.ext yy)
              have OB8 := hide (OB7.out.ext yy)
              have X08 := hide (ext_trans X07.out yy)
              have TL8 := hide (TL7.out.trans (TFr.of_ext yy))
              have HZ8 := hide (HZ7.out.le (yy).size)
              have KS8 := hide (KS7.out.ext yy)
              have HS8 := hide (HS7.out.ext yy)
              have HL8 := hide (HL7.out.le (yy).size)
              clear KS7 HS7 HL7
              clear KX7 RW7 MD7 OB7 X07 TL7 HZ7
              clear yy xx HRA2
              by_cases hrs : resultM R s ≠ 0
              · have t1 : (resultM R s != 0) = true := by simpa using hrs
                have HS1 := hide (HSN.out.trans (if_pos hrs))
                clear hrs HSN
                go_wp2_with (at_builtin; refine wp_append_rep (.tmp 75) (.tmp 76) rfl rfl w5.heap.size w8 (.slice oA xs.length oc) xs _ rfl OB8.out rfl HZ8.out (by have := HXL.out; omega) ?_)
                intro g c' w9 own9 g9 at9
                have OB9 := hide own9
                have FI := hide (OB8.out.grows g9)
                have KX9 := hide (FI.out _ _ _ KX8.out (by decide))
                have RW9 : Hid (RowC w0.heap.size w9 Ar cr (ns ++ (m, .slice none 0 0) :: ms)) := hide (own_tfr RW8.out (by decide) FI.out)
                have MD9 := hide (MD8.out.grown g9 hAp.out)
                have AP9 : Hid (Apart (.slice (some ⟨g, 0, none⟩) (xs.length + 1) c') ms) := hide (MD8.out.apart_new hAp.out at9 (Nat.le_succ _))
                have X09 := hide (ext_grown X08.out g9 (fun k hk => Nat.le_trans X05.out.size (OB8.out.low k hk).1))
                have TL9 := hide (TL8.out.own g9 (fun k hk => (OB8.out.low k hk).1))
                have HZ9 := hide (HZ8.out.le g9.size)
                
                clear own9 g9 at9 KX8 RW8 MD8 OB8 X08 TL8 HZ8 KS8 HS8 FI t1
                go_wp2
                go_roundw
                case rel => exact ⟨j + 1, ms, Ar, cr, by omega, by go_num, hide (by rw [HS1.out]; exact (by simpa using OB9.out)), by rw [HNE.out]; exact KX9, RW9, hide (by rw [HS1.out]; exact MD9.out), AP9, by rw [HNE.out]; exact hN5, X09, TL9, HZ9⟩
                case measure => simp [intOf]; omega
              · have hrs0 : resultM R s = 0 := by omega
                have t1 : (resultM R s != 0) = false := by simpa using hrs0
                have HS1 := hide (HSN.out.trans (if_neg hrs))
                obtain ⟨d2, hd2, hpos⟩ := HK2.out hrs0
                have HRS0 := hide hrs0
                have HPOS := hide hpos
                have HD2 := hide hd2
                have hw : wrap64 ((d1 : Int) + 1 - 2) = (d2 : Int) := by have := HD.out; unfold wrap64; omega
                have fN := KX8.out.cell
                clear hrs hrs0 HSN hpos hd2
                go_wp2_with (at_builtin; refine wp_append_rep (.tmp 78) (.tmp 84) rfl rfl w5.heap.size w8 (.slice oA xs.length oc) xs _ rfl OB8.out rfl HZ8.out (by have := HXL.out; omega) ?_)
                intro g c' w9 own9 g9 at9
                have OB9 := hide own9
                have FI := hide (OB8.out.grows g9)
                have KX9 := hide (FI.out _ _ _ KX8.out (by decide))
                have RW9 : Hid (RowC w0.heap.size w9 Ar cr (ns ++ (m, .slice none 0 0) :: ms)) := hide (own_tfr RW8.out (by decide) FI.out)
                have MD9 := hide (MD8.out.grown g9 hAp.out)
                have AP9 : Hid (Apart (.slice (some ⟨g, 0, none⟩) (xs.length + 1) c') ms) := hide (MD8.out.apart_new hAp.out at9 (Nat.le_succ _))
                have X09 := hide (ext_grown X08.out g9 (fun k hk => Nat.le_trans X05.out.size (OB8.out.low k hk).1))
                have TL9 := hide (TL8.out.own g9 (fun k hk => (OB8.out.low k hk).1))
                have HZ9 := hide (HZ8.out.le g9.size)
                
                have KS9 := hide (FI.out _ _ _ KS8.out (by decide))
                have HS9 := hide (HS8.out.grown g9 (fun k hk => OLO.out k hk))
                clear own9 g9 at9 KX8 RW8 MD8 OB8 X08 TL8 HZ8 KS8 HS8 FI t1 fN
                have hlN : (ns ++ (m, .slice none 0 0) :: ms).length = N := by have := HNE.out; simp; omega
                have HLN := hide hlN
                have HRC := hide (HIH.out d2 s _ w9 (ns ++ (m, .slice none 0 0) :: ms) Ar cr (by have := HD2.out; omega) HSA2.out HRS0.out HPOS.out (.inr HS9.out.toI) (by rw [hlN]; exact KX9.out) RW9.out X09.out (by rw [hlN]; exact hN5.out))
                have fS := KS9.out.cell
                clear hlN HIH
                go_wp2_with fail
                refine HRC.out.mono ?_
                rintro e w10 ⟨xE, xF, xZ, ok, rfl, hok⟩
                have XE := hide xE
                have XF := hide xF
                have XZ := hide xZ
                have HOK := hide hok
                clear xE xF xZ hok fS HRC hw
                cases ok
                · go_wp2
                  go_ret
                  exact ⟨XE.out, (F5.out.trans TL9.out).trans XF.out, Nat.le_trans HZ5.out (Nat.le_trans HZ9.out XZ.out), false, rfl, fun h => (by cases h), fun _ => (by
                    have h1 := HOK.out.2 (by first | exact trivial | exact rfl)
                    have h2 := foldC_mono R (subC R d1) q ML (j + 1) (ns.length + 1)
                    rw [HS1.out] at h2
                    have h3 := MD9.out.1
                    have e3 : subC R d1 N s = certM R d2 (ns ++ (m, .slice none 0 0) :: ms).length s := by rw [HD2.out, HLN.out]; rfl
                    replace h2 : ((foldC R (subC R d1) q (ns.length + 1) (ML.take j)).1 ++ subC R d1 N s).length ≤ _ := h2
                    rw [List.length_append, e3] at h2
                    have h4 := HNE.out
                    have h5 := HLN.out
                    rw [HCE1.out, List.length_cons]
                    omega)⟩
                · obtain ⟨ms2, A2, c2, kx, rw2, md2, hn2⟩ := HOK.out.1 rfl
                  have e1 : (ns ++ (m, .slice none 0 0) :: ms).length + ms2.length = ns.length + 1 + (ms ++ ms2).length := by simp; omega
                  have e2 : ns ++ (m, .slice none 0 0) :: ms ++ ms2 = ns ++ (m, .slice none 0 0) :: (ms ++ ms2) := by simp
                  have e3 : subC R d1 N s = certM R d2 (ns ++ (m, .slice none 0 0) :: ms).length s := by rw [HD2.out, HLN.out]; rfl
                  rw [e1] at kx hn2
                  rw [e2] at rw2
                  have KX10 := hide kx
                  have RW10 := hide rw2
                  have HN10 := hide hn2
                  have MD10 : Hid (Made w5.heap.size w10 (ms ++ ms2) (foldC R (subC R d1) q (ns.length + 1) (ML.take (j + 1))).1) := hide (by
                    rw [HS1.out]
                    show Made w5.heap.size w10 (ms ++ ms2) (_ ++ subC R d1 N s)
                    rw [e3]
                    exact (MD9.out.tfr (by decide) XF.out).app (md2.mono HZ9.out))
                  have AP10 : Hid (Apart (.slice (some ⟨g, 0, none⟩) (xs.length + 1) c') (ms ++ ms2)) := hide (AP9.out.app (md2.apart (fun k hk => (OB9.out.low k hk).2)))
                  have OB10 := hide (OB9.out.tfr (by decide) XF.out)
                  clear kx rw2 md2 hn2 e1 e2 e3 HOK
                  go_wp2
                  go_roundw
                  case rel => exact ⟨j + 1, ms ++ ms2, A2, c2, by omega, by go_num, hide (by rw [HS1.out]; exact (by simpa using OB10.out)), KX10, RW10, MD10, AP10, HN10, XE, hide (TL9.out.trans XF.out), hide (HZ9.out.le XZ.out)⟩
                  case measure => simp [intOf]; omega
              
            · skip
              refine anyK_one 7 (o := ?oo70) ?ho70 ?hk70
              case ho70 => (simp only [List.getElem?_toArray, List.getElem?_cons_succ, List.getElem?_cons_zero]; rfl)
              case hk70 =>
              intro K hK
              go_simp
              have KN : Hid (Blk (w6.drew.alloc (.cells #[.slice none 0 0, .slice none 0 0, .slice none 0 0, .int .i64 0, .int .i64 0] 29)) w6.heap.size 29 #[.slice none 0 0, .slice none 0 0, .slice none 0 0, .int .i64 0, .int .i64 0]) := hide (Blk.new w6.drew 29 #[.slice none 0 0, .slice none 0 0, .slice none 0 0, .int .i64 0, .int .i64 0])
              try (replace HP9 := hide (HP9.out.ext (ext_alloc (Below.refl _ _) (.cells #[.slice none 0 0, .slice none 0 0, .slice none 0 0, .int .i64 0, .int .i64 0] 29))))
              generalize hBN : w6.heap.size = BN at *
              have HNB : Hid (w6.heap.size ≤ BN) := hide (by have h : w6.heap.size ≤ w6.heap.size := (yy : Ext w6 w6.drew).size; omega)
              clear hBN
              replace yy := ext_alloc yy (.cells #[.slice none 0 0, .slice none 0 0, .slice none 0 0, .int .i64 0, .int .i64 0] 29)
              have hT1 := keepK.out _ yy
              refine hK.out _ _ hT1 (fun _ => trivial) ?_
              clear hK K
              try simp only [Act.put, List.setIfInBounds_toArray, List.set_cons_zero, List.set_cons_succ]
              refine anyK_on1 6 (by kernel_rfl) ?_
              refine anyK_one 6 (o := ?oo71) ?ho71 ?hk71
              case ho71 => (simp only [List.getElem?_toArray, List.getElem?_cons_succ, List.getElem?_cons_zero]; rfl)
              case hk71 =>
              intro K hK
              go_simp
              refine (HMA2.out _ (ext_trans X06.out yy) _ (HQ6.out.at_.ext yy)).mono ?_
              rintro e we ⟨v9, rfl, own9, xx⟩
              try go_wp2_with fail
              replace yy := ext_trans yy xx
              have HP9 := hide (own9.mono (B' := w6.heap.size) (by first | exact Nat.le_refl _ | (simp; done) | (simp; omega)))
              have hp9 := own9.toI
              obtain ⟨h0, e0, h1, e1, h2, e2, rfl, -⟩ := hp9
              clear own9
              try (replace KN := hide (KN.out.ext xx))
              have hT2 := keepK.out _ yy
              refine hK.out _ _ hT2 (fun _ => trivial) ?_
              clear hK K
              try simp only [Act.put, List.setIfInBounds_toArray, List.set_cons_zero, List.set_cons_succ]
              refine anyK_on1 8 (by kernel_rfl) ?_
              refine anyK_one 8 (o := ?oo72) ?ho72 ?hk72
              case ho72 => (simp only [List.getElem?_toArray, List.getElem?_cons_succ, List.getElem?_cons_zero]; rfl)
              case hk72 =>
              intro K hK
              have q5 := KN.out.cell
              have z5 := KN.out.frozen
              have KPF := hide (blk_put (i := 4) (u := .int .i64 (makeM R q a).quiet) (cs' := #[.slice (some ⟨h0, 0, none⟩) (makeM R q a).cells.length e0, .slice (some ⟨h1, 0, none⟩) (makeM R q a).hand0.length e1, .slice (some ⟨h2, 0, none⟩) (makeM R q a).hand1.length e2, .int .i64 (makeM R q a).turn, .int .i64 (makeM R q a).quiet]) (blk_put (i := 3) (u := .int .i64 (makeM R q a).turn) (cs' := #[.slice (some ⟨h0, 0, none⟩) (makeM R q a).cells.length e0, .slice (some ⟨h1, 0, none⟩) (makeM R q a).hand0.length e1, .slice (some ⟨h2, 0, none⟩) (makeM R q a).hand1.length e2, .int .i64 (makeM R q a).turn, .int .i64 0]) (blk_put (i := 2) (u := .slice (some ⟨h2, 0, none⟩) (makeM R q a).hand1.length e2) (cs' := #[.slice (some ⟨h0, 0, none⟩) (makeM R q a).cells.length e0, .slice (some ⟨h1, 0, none⟩) (makeM R q a).hand0.length e1, .slice (some ⟨h2, 0, none⟩) (makeM R q a).hand1.length e2, .int .i64 0, .int .i64 0]) (blk_put (i := 1) (u := .slice (some ⟨h1, 0, none⟩) (makeM R q a).hand0.length e1) (cs' := #[.slice (some ⟨h0, 0, none⟩) (makeM R q a).cells.length e0, .slice (some ⟨h1, 0, none⟩) (makeM R q a).hand0.length e1, .slice none 0 0, .int .i64 0, .int .i64 0]) (blk_put (i := 0) (u := .slice (some ⟨h0, 0, none⟩) (makeM R q a).cells.length e0) (cs' := #[.slice (some ⟨h0, 0, none⟩) (makeM R q a).cells.length e0, .slice none 0 0, .slice none 0 0, .int .i64 0, .int .i64 0]) KN.out rfl) rfl) rfl) rfl) rfl)
              have HPF := hide (PosOwn.far5 (u0 := .slice (some ⟨h0, 0, none⟩) (makeM R q a).cells.length e0) (u1 := .slice (some ⟨h1, 0, none⟩) (makeM R q a).hand0.length e1) (u2 := .slice (some ⟨h2, 0, none⟩) (makeM R q a).hand1.length e2) (u3 := .int .i64 (makeM R q a).turn) (u4 := .int .i64 (makeM R q a).quiet) HP9.out KN.out)
              replace yy := (ext_set (ext_set (ext_set (ext_set (ext_set yy (p := ⟨BN, 0, none⟩) HNB.out (.slice (some ⟨h0, 0, none⟩) (makeM R q a).cells.length e0)) (p := ⟨BN, 1, none⟩) HNB.out (.slice (some ⟨h1, 0, none⟩) (makeM R q a).hand0.length e1)) (p := ⟨BN, 2, none⟩) HNB.out (.slice (some ⟨h2, 0, none⟩) (makeM R q a).hand1.length e2)) (p := ⟨BN, 3, none⟩) HNB.out (.int .i64 (makeM R q a).turn)) (p := ⟨BN, 4, none⟩) HNB.out (.int .i64 (makeM R q a).quiet))
              go_simp
              clear q5 z5
              have hT3 := keepK.out _ yy
              refine hK.out _ _ hT3 (fun _ => trivial) ?_
              clear hK K
              try simp only [Act.put, List.setIfInBounds_toArray, List.set_cons_zero, List.set_cons_succ]
              refine anyK_done (by kernel_rfl) ?_ _
              clear keepK hT0 hT1 hT2 hT3
              have OLO : Hid (∀ g, (Value.slice oA xs.length oc).ownBlock = some g → g < w6.heap.size) := hide (fun g hg => (OB6.out.low g hg).2)
              have KX7 := hide (KX6.out.ext yy)
              have RW7 : Hid (RowC w0.heap.size (((((we.setCell ⟨BN, 0, none⟩ (.slice (some ⟨h0, 0, none⟩) (makeM R q a).cells.length e0)).setCell ⟨BN, 1, none⟩ (.slice (some ⟨h1, 0, none⟩) (makeM R q a).hand0.length e1)).setCell ⟨BN, 2, none⟩ (.slice (some ⟨h2, 0, none⟩) (makeM R q a).hand1.length e2)).setCell ⟨BN, 3, none⟩ (.int .i64 (makeM R q a).turn)).setCell ⟨BN, 4, none⟩ (.int .i64 (makeM R q a).quiet)) Ar cr (ns ++ (m, .slice none 0 0) :: ms)) := hide (own_ext RW6.out yy)
              have MD7 := hide (MD6.out.ext yy)
              have OB7 := hide (OB6.out.ext yy)
              have X07 := hide (ext_trans X06.out yy)
              have TL7 := hide (TL6.out.trans (TFr.of_ext yy))
              have HZ7 := hide (HZ6.out.le (yy).size)
              clear KX6 RW6 MD6 OB6 X06 TL6 HZ6
              have KS7 := KPF
              have HS7 := HPF
              have HL7 : Hid (SizeLe w6 (((((we.setCell ⟨BN, 0, none⟩ (.slice (some ⟨h0, 0, none⟩) (makeM R q a).cells.length e0)).setCell ⟨BN, 1, none⟩ (.slice (some ⟨h1, 0, none⟩) (makeM R q a).hand0.length e1)).setCell ⟨BN, 2, none⟩ (.slice (some ⟨h2, 0, none⟩) (makeM R q a).hand1.length e2)).setCell ⟨BN, 3, none⟩ (.int .i64 (makeM R q a).turn)).setCell ⟨BN, 4, none⟩ (.int .i64 (makeM R q a).quiet))) := hide (show w6.heap.size ≤ (((((we.setCell ⟨BN, 0, none⟩ (.slice (some ⟨h0, 0, none⟩) (makeM R q a).cells.length e0)).setCell ⟨BN, 1, none⟩ (.slice (some ⟨h1, 0, none⟩) (makeM R q a).hand0.length e1)).setCell ⟨BN, 2, none⟩ (.slice (some ⟨h2, 0, none⟩) (makeM R q a).hand1.length e2)).setCell ⟨BN, 3, none⟩ (.int .i64 (makeM R q a).turn)).setCell ⟨BN, 4, none⟩ (.int .i64 (makeM R q a).quiet)).heap.size from yy.size)
              clear yy xx KQ6 HQ6 KA6 HMA2 HP9 KPF HPF KN HNB
              generalize (((((we.setCell ⟨BN, 0, none⟩ (.slice (some ⟨h0, 0, none⟩) (makeM R q a).cells.length e0)).setCell ⟨BN, 1, none⟩ (.slice (some ⟨h1, 0, none⟩) (makeM R q a).hand0.length e1)).setCell ⟨BN, 2, none⟩ (.slice (some ⟨h2, 0, none⟩) (makeM R q a).hand1.length e2)).setCell ⟨BN, 3, none⟩ (.int .i64 (makeM R q a).turn)).setCell ⟨BN, 4, none⟩ (.int .i64 (makeM R q a).quiet)) = w7 at *
              generalize BN = BS at *
              generalize makeM R q a = s at *
              go_upto_region 12 with fail
              have keepK := hide (fun W (h : Ext w7 W) => (show (fun W => W.cell? ⟨BX, 0, none⟩ = some (.string R.name) ∧ W.cell? ⟨BX, 1, none⟩ = some (.int .i64 R.width) ∧ W.cell? ⟨BX, 2, none⟩ = some (.int .i64 R.height) ∧ W.cell? ⟨BX, 3, none⟩ = some (.slice pA R.pieces.length pc) ∧ W.cell? ⟨BX, 4, none⟩ = some (.slice sA R.start.length sc) ∧ W.cell? ⟨BX, 5, none⟩ = some (.bool R.falls) ∧ W.cell? ⟨BX, 6, none⟩ = some (.bool R.keeps) ∧ W.cell? ⟨BX, 7, none⟩ = some (.slice eA R.ends.length ec) ∧ W.cell? ⟨BX, 8, none⟩ = some (.int .i64 R.blocked) ∧ W.cell? ⟨BX, 9, none⟩ = some (.int .i64 R.quiet) ∧ W.cell? ⟨BX, 10, none⟩ = some (.int .i64 R.rept) ∧ W.cell? ⟨BX, 11, none⟩ = some (.slice Ar N cr) ∧ W.cell? ⟨BS, 0, none⟩ = some (.slice (some ⟨h0, 0, none⟩) s.cells.length e0) ∧ W.cell? ⟨BS, 1, none⟩ = some (.slice (some ⟨h1, 0, none⟩) s.hand0.length e1) ∧ W.cell? ⟨BS, 2, none⟩ = some (.slice (some ⟨h2, 0, none⟩) s.hand1.length e2) ∧ W.cell? ⟨BS, 3, none⟩ = some (.int .i64 s.turn) ∧ W.cell? ⟨BS, 4, none⟩ = some (.int .i64 s.quiet) ∧ Ext w7 W) W from ⟨(KX7.out.ext h).cell 0, (KX7.out.ext h).cell 1, (KX7.out.ext h).cell 2, (KX7.out.ext h).cell 3, (KX7.out.ext h).cell 4, (KX7.out.ext h).cell 5, (KX7.out.ext h).cell 6, (KX7.out.ext h).cell 7, (KX7.out.ext h).cell 8, (KX7.out.ext h).cell 9, (KX7.out.ext h).cell 10, (KX7.out.ext h).cell 11, (KS7.out.ext h).cell 0, (KS7.out.ext h).cell 1, (KS7.out.ext h).cell 2, (KS7.out.ext h).cell 3, (KS7.out.ext h).cell 4, h⟩))
              have yy : Ext w7 w7.drew := Below.drew (Below.refl _ _)
              refine region_K (fun W => W.cell? ⟨BX, 0, none⟩ = some (.string R.name) ∧ W.cell? ⟨BX, 1, none⟩ = some (.int .i64 R.width) ∧ W.cell? ⟨BX, 2, none⟩ = some (.int .i64 R.height) ∧ W.cell? ⟨BX, 3, none⟩ = some (.slice pA R.pieces.length pc) ∧ W.cell? ⟨BX, 4, none⟩ = some (.slice sA R.start.length sc) ∧ W.cell? ⟨BX, 5, none⟩ = some (.bool R.falls) ∧ W.cell? ⟨BX, 6, none⟩ = some (.bool R.keeps) ∧ W.cell? ⟨BX, 7, none⟩ = some (.slice eA R.ends.length ec) ∧ W.cell? ⟨BX, 8, none⟩ = some (.int .i64 R.blocked) ∧ W.cell? ⟨BX, 9, none⟩ = some (.int .i64 R.quiet) ∧ W.cell? ⟨BX, 10, none⟩ = some (.int .i64 R.rept) ∧ W.cell? ⟨BX, 11, none⟩ = some (.slice Ar N cr) ∧ W.cell? ⟨BS, 0, none⟩ = some (.slice (some ⟨h0, 0, none⟩) s.cells.length e0) ∧ W.cell? ⟨BS, 1, none⟩ = some (.slice (some ⟨h1, 0, none⟩) s.hand0.length e1) ∧ W.cell? ⟨BS, 2, none⟩ = some (.slice (some ⟨h2, 0, none⟩) s.hand1.length e2) ∧ W.cell? ⟨BS, 3, none⟩ = some (.int .i64 s.turn) ∧ W.cell? ⟨BS, 4, none⟩ = some (.int .i64 s.quiet) ∧ Ext w7 W) (fun _ => True) [] (by kernel_rfl) ?_
              have hT0 := keepK.out _ yy
              refine anyK_take 0 (oi := ?oo73) ?ho73 (by kernel_rfl) (by kernel_rfl) (by kernel_rfl) (by kernel_rfl) ?hq73 ?hw73 hT0 (fun _ => trivial) (v := ?vv73) ?hy73 ?hk73
              case ho73 => (simp only [List.getElem?_toArray, List.getElem?_cons_succ, List.getElem?_cons_zero]; rfl)
              case hq73 => exact fun _ _ _ h => h
              case hw73 => rfl
              case hy73 =>
                intro W hW
                go_simp
                first | done | with_reducible rfl
              case hk73 =>
              try simp only [Act.put, List.setIfInBounds_toArray, List.set_cons_zero, List.set_cons_succ]
              refine anyK_take 1 (oi := ?oo74) ?ho74 (by kernel_rfl) (by kernel_rfl) (by kernel_rfl) (by kernel_rfl) ?hq74 ?hw74 hT0 (fun _ => trivial) (v := ?vv74) ?hy74 ?hk74
              case ho74 => (simp only [List.getElem?_toArray, List.getElem?_cons_succ, List.getElem?_cons_zero]; rfl)
              case hq74 => exact fun _ _ _ h => h
              case hw74 => rfl
              case hy74 =>
                intro W hW
                go_simp
                first | done | with_reducible rfl
              case hk74 =>
              try simp only [Act.put, List.setIfInBounds_toArray, List.set_cons_zero, List.set_cons_succ]
              refine anyK_take 2 (oi := ?oo75) ?ho75 (by kernel_rfl) (by kernel_rfl) (by kernel_rfl) (by kernel_rfl) ?hq75 ?hw75 hT0 (fun _ => trivial) (v := ?vv75) ?hy75 ?hk75
              case ho75 => (simp only [List.getElem?_toArray, List.getElem?_cons_succ, List.getElem?_cons_zero]; rfl)
              case hq75 => exact fun _ _ _ h => h
              case hw75 => rfl
              case hy75 =>
                intro W hW
                go_simp
                first | done | with_reducible rfl
              case hk75 =>
              try simp only [Act.put, List.setIfInBounds_toArray, List.set_cons_zero, List.set_cons_succ]
              refine anyK_take 3 (oi := ?oo76) ?ho76 (by kernel_rfl) (by kernel_rfl) (by kernel_rfl) (by kernel_rfl) ?hq76 ?hw76 hT0 (fun _ => trivial) (v := ?vv76) ?hy76 ?hk76
              case ho76 => (simp only [List.getElem?_toArray, List.getElem?_cons_succ, List.getElem?_cons_zero]; rfl)
              case hq76 => exact fun _ _ _ h => h
              case hw76 => rfl
              case hy76 =>
                intro W hW
                obtain ⟨z0, z1, z2, z3, z4, z5, z6, z7, z8, z9, z10, z11, z12, z13, z14, z15, z16, z17⟩ := hW
                go_simp
                first | done | with_reducible rfl
              case hk76 =>
              try simp only [Act.put, List.setIfInBounds_toArray, List.set_cons_zero, List.set_cons_succ]
              refine anyK_take 4 (oi := ?oo77) ?ho77 (by kernel_rfl) (by kernel_rfl) (by kernel_rfl) (by kernel_rfl) ?hq77 ?hw77 hT0 (fun _ => trivial) (v := ?vv77) ?hy77 ?hk77
              case ho77 => (simp only [List.getElem?_toArray, List.getElem?_cons_succ, List.getElem?_cons_zero]; rfl)
              case hq77 => exact fun _ _ _ h => h
              case hw77 => rfl
              case hy77 =>
                intro W hW
                obtain ⟨z0, z1, z2, z3, z4, z5, z6, z7, z8, z9, z10, z11, z12, z13, z14, z15, z16, z17⟩ := hW
                go_simp
                first | done | with_reducible rfl
              case hk77 =>
              try simp only [Act.put, List.setIfInBounds_toArray, List.set_cons_zero, List.set_cons_succ]
              refine anyK_on1 5 (by kernel_rfl) ?_
              refine anyK_one 5 (o := ?oo78) ?ho78 ?hk78
              case ho78 => (simp only [List.getElem?_toArray, List.getElem?_cons_succ, List.getElem?_cons_zero]; rfl)
              case hk78 =>
              intro K hK
              go_simp
              refine (HRA2.out _ (ext_trans X07.out yy) _ (HS7.out.toI.at_.ext yy)).mono ?_
              rintro e w8 ⟨rfl, xx⟩
              try go_wp2_with fail
              replace yy := ext_trans yy xx
              have hT1 := keepK.out _ yy
              refine hK.out _ _ hT1 (fun _ => trivial) ?_
              clear hK K
              try simp only [Act.put, List.setIfInBounds_toArray, List.set_cons_zero, List.set_cons_succ]
              refine anyK_take 6 (oi := ?oo79) ?ho79 (by kernel_rfl) (by kernel_rfl) (by kernel_rfl) (by kernel_rfl) ?hq79 ?hw79 hT1 (fun _ => trivial) (v := ?vv79) ?hy79 ?hk79
              case ho79 => (simp only [List.getElem?_toArray, List.getElem?_cons_succ, List.getElem?_cons_zero]; rfl)
              case hq79 => exact fun _ _ _ h => h
              case hw79 => rfl
              case hy79 =>
                intro W hW
                go_simp
                first | done | with_reducible rfl
              case hk79 =>
              try simp only [Act.put, List.setIfInBounds_toArray, List.set_cons_zero, List.set_cons_succ]
              refine anyK_done (by kernel_rfl) ?_ _
              clear keepK hT0 hT1
              have KX8 := hide (KX7.out.ext yy)
              have RW8 : Hid (RowC w0.heap.size w8 Ar cr (ns ++ (m, .slice none 0 0) :: ms)) := hide (own_ext RW7.out yy)
              have MD8 := hide (MD7.out.ext yy)
              have OB8 := hide (OB7.out.ext yy)
              have X08 := hide (ext_trans X07.out yy)
              have TL8 := hide (TL7.out.trans (TFr.of_ext yy))
              have HZ8 := hide (HZ7.out.le (yy).size)
              have KS8 := hide (KS7.out.ext yy)
              have HS8 := hide (HS7.out.ext yy)
              have HL8 := hide (HL7.out.le (yy).size)
              clear KS7 HS7 HL7
              clear KX7 RW7 MD7 OB7 X07 TL7 HZ7
              clear yy xx HRA2
              by_cases hrs : resultM R s ≠ 0
              · have t1 : (resultM R s != 0) = true := by simpa using hrs
                have HS1 := hide (HSN.out.trans (if_pos hrs))
                clear hrs HSN
                go_wp2_with (at_builtin; refine wp_append_rep (.tmp 75) (.tmp 76) rfl rfl w5.heap.size w8 (.slice oA xs.length oc) xs _ rfl OB8.out rfl HZ8.out (by have := HXL.out; omega) ?_)
                intro g c' w9 own9 g9 at9
                have OB9 := hide own9
                have FI := hide (OB8.out.grows g9)
                have KX9 := hide (FI.out _ _ _ KX8.out (by decide))
                have RW9 : Hid (RowC w0.heap.size w9 Ar cr (ns ++ (m, .slice none 0 0) :: ms)) := hide (own_tfr RW8.out (by decide) FI.out)
                have MD9 := hide (MD8.out.grown g9 hAp.out)
                have AP9 : Hid (Apart (.slice (some ⟨g, 0, none⟩) (xs.length + 1) c') ms) := hide (MD8.out.apart_new hAp.out at9 (Nat.le_succ _))
                have X09 := hide (ext_grown X08.out g9 (fun k hk => Nat.le_trans X05.out.size (OB8.out.low k hk).1))
                have TL9 := hide (TL8.out.own g9 (fun k hk => (OB8.out.low k hk).1))
                have HZ9 := hide (HZ8.out.le g9.size)
                
                clear own9 g9 at9 KX8 RW8 MD8 OB8 X08 TL8 HZ8 KS8 HS8 FI t1
                go_wp2
                go_roundw
                case rel => exact ⟨j + 1, ms, Ar, cr, by omega, by go_num, hide (by rw [HS1.out]; exact (by simpa using OB9.out)), by rw [HNE.out]; exact KX9, RW9, hide (by rw [HS1.out]; exact MD9.out), AP9, by rw [HNE.out]; exact hN5, X09, TL9, HZ9⟩
                case measure => simp [intOf]; omega
              · have hrs0 : resultM R s = 0 := by omega
                have t1 : (resultM R s != 0) = false := by simpa using hrs0
                have HS1 := hide (HSN.out.trans (if_neg hrs))
                obtain ⟨d2, hd2, hpos⟩ := HK2.out hrs0
                have HRS0 := hide hrs0
                have HPOS := hide hpos
                have HD2 := hide hd2
                have hw : wrap64 ((d1 : Int) + 1 - 2) = (d2 : Int) := by have := HD.out; unfold wrap64; omega
                have fN := KX8.out.cell
                clear hrs hrs0 HSN hpos hd2
                go_wp2_with (at_builtin; refine wp_append_rep (.tmp 78) (.tmp 84) rfl rfl w5.heap.size w8 (.slice oA xs.length oc) xs _ rfl OB8.out rfl HZ8.out (by have := HXL.out; omega) ?_)
                intro g c' w9 own9 g9 at9
                have OB9 := hide own9
                have FI := hide (OB8.out.grows g9)
                have KX9 := hide (FI.out _ _ _ KX8.out (by decide))
                have RW9 : Hid (RowC w0.heap.size w9 Ar cr (ns ++ (m, .slice none 0 0) :: ms)) := hide (own_tfr RW8.out (by decide) FI.out)
                have MD9 := hide (MD8.out.grown g9 hAp.out)
                have AP9 : Hid (Apart (.slice (some ⟨g, 0, none⟩) (xs.length + 1) c') ms) := hide (MD8.out.apart_new hAp.out at9 (Nat.le_succ _))
                have X09 := hide (ext_grown X08.out g9 (fun k hk => Nat.le_trans X05.out.size (OB8.out.low k hk).1))
                have TL9 := hide (TL8.out.own g9 (fun k hk => (OB8.out.low k hk).1))
                have HZ9 := hide (HZ8.out.le g9.size)
                
                have KS9 := hide (FI.out _ _ _ KS8.out (by decide))
                have HS9 := hide (HS8.out.grown g9 (fun k hk => OLO.out k hk))
                clear own9 g9 at9 KX8 RW8 MD8 OB8 X08 TL8 HZ8 KS8 HS8 FI t1 fN
                have hlN : (ns ++ (m, .slice none 0 0) :: ms).length = N := by have := HNE.out; simp; omega
                have HLN := hide hlN
                have HRC := hide (HIH.out d2 s _ w9 (ns ++ (m, .slice none 0 0) :: ms) Ar cr (by have := HD2.out; omega) HSA2.out HRS0.out HPOS.out (.inr HS9.out.toI) (by rw [hlN]; exact KX9.out) RW9.out X09.out (by rw [hlN]; exact hN5.out))
                have fS := KS9.out.cell
                clear hlN HIH
                go_wp2_with fail
                refine HRC.out.mono ?_
                rintro e w10 ⟨xE, xF, xZ, ok, rfl, hok⟩
                have XE := hide xE
                have XF := hide xF
                have XZ := hide xZ
                have HOK := hide hok
                clear xE xF xZ hok fS HRC hw
                cases ok
                · go_wp2
                  go_ret
                  exact ⟨XE.out, (F5.out.trans TL9.out).trans XF.out, Nat.le_trans HZ5.out (Nat.le_trans HZ9.out XZ.out), false, rfl, fun h => (by cases h), fun _ => (by
                    have h1 := HOK.out.2 (by first | exact trivial | exact rfl)
                    have h2 := foldC_mono R (subC R d1) q ML (j + 1) (ns.length + 1)
                    rw [HS1.out] at h2
                    have h3 := MD9.out.1
                    have e3 : subC R d1 N s = certM R d2 (ns ++ (m, .slice none 0 0) :: ms).length s := by rw [HD2.out, HLN.out]; rfl
                    replace h2 : ((foldC R (subC R d1) q (ns.length + 1) (ML.take j)).1 ++ subC R d1 N s).length ≤ _ := h2
                    rw [List.length_append, e3] at h2
                    have h4 := HNE.out
                    have h5 := HLN.out
                    rw [HCE1.out, List.length_cons]
                    omega)⟩
                · obtain ⟨ms2, A2, c2, kx, rw2, md2, hn2⟩ := HOK.out.1 rfl
                  have e1 : (ns ++ (m, .slice none 0 0) :: ms).length + ms2.length = ns.length + 1 + (ms ++ ms2).length := by simp; omega
                  have e2 : ns ++ (m, .slice none 0 0) :: ms ++ ms2 = ns ++ (m, .slice none 0 0) :: (ms ++ ms2) := by simp
                  have e3 : subC R d1 N s = certM R d2 (ns ++ (m, .slice none 0 0) :: ms).length s := by rw [HD2.out, HLN.out]; rfl
                  rw [e1] at kx hn2
                  rw [e2] at rw2
                  have KX10 := hide kx
                  have RW10 := hide rw2
                  have HN10 := hide hn2
                  have MD10 : Hid (Made w5.heap.size w10 (ms ++ ms2) (foldC R (subC R d1) q (ns.length + 1) (ML.take (j + 1))).1) := hide (by
                    rw [HS1.out]
                    show Made w5.heap.size w10 (ms ++ ms2) (_ ++ subC R d1 N s)
                    rw [e3]
                    exact (MD9.out.tfr (by decide) XF.out).app (md2.mono HZ9.out))
                  have AP10 : Hid (Apart (.slice (some ⟨g, 0, none⟩) (xs.length + 1) c') (ms ++ ms2)) := hide (AP9.out.app (md2.apart (fun k hk => (OB9.out.low k hk).2)))
                  have OB10 := hide (OB9.out.tfr (by decide) XF.out)
                  clear kx rw2 md2 hn2 e1 e2 e3 HOK
                  go_wp2
                  go_roundw
                  case rel => exact ⟨j + 1, ms ++ ms2, A2, c2, by omega, by go_num, hide (by rw [HS1.out]; exact (by simpa using OB10.out)), KX10, RW10, MD10, AP10, HN10, XE, hide (TL9.out.trans XF.out), hide (HZ9.out.le XZ.out)⟩
                  case measure => simp [intOf]; omega
              
          · obtain rfl : j = ML.length := by omega
            have hget : (ns ++ (m, .slice none 0 0) :: ms)[ns.length]? = some (m, .slice none 0 0) := by simp
            obtain ⟨gr, cur, rfl, hgb, hgk, hcell, hfz, hput⟩ := rowC_put hRW.out hget
            have HGB := hide hgb
            have HGK := hide hgk
            have HPU := hide hput
            have HFF : Hid (xs = (foldC R (subC R d1) q (ns.length + 1) ML).2) := hide (by have := HXS.out; rw [List.take_length] at this; exact this.symm)
            have HMD := hMd.out
            rw [List.take_length] at HMD
            have HMD2 := hide HMD
            have hNe := HNE.out
            have i0 : (0 : Int) ≤ (ns.length : Int) := by omega
            have i1 : (ns.length : Int) < (N : Int) := by omega
            have fK := hK.out.cell
            have HKK := hide (hK.out.far (p := ⟨gr, ns.length * 4 + 3, none⟩) (blk_ne hK.out hgk (by decide)) (.slice oA xs.length oc))
            have TF := hide (TFr.set (ts := [135]) hgk (List.mem_singleton.2 rfl) (ns.length * 4 + 3) (.slice oA xs.length oc))
            have HNE2 := hide hNe
            replace hcell : wr.cell? ⟨gr, ns.length * 4 + 3, none⟩ = some (.slice none 0 0) := hcell
            clear hget hgb hgk hput HMD hNe hRW
            go_wp2
            go_ret
            refine ⟨ext_set hX0.out (p := ⟨gr, ns.length * 4 + 3, none⟩) HGB.out _, (F5.out.trans hTL.out).trans (TF.out.more (by simp)), ?_, true, rfl, fun _ => ⟨(m, .slice oA xs.length oc) :: ms, some ⟨gr, 0, none⟩, cr, ?_, ?_, ?_, ?_⟩, fun h => (by cases h)⟩
            · have h1 := HZ5.out
              have h2 : w5.heap.size ≤ wr.heap.size := hZ.out
              rw [World.setCell]
              simp
              omega
            · have h1 := HKK.out
              have h2 : ns.length + ((m, Value.slice oA xs.length oc) :: ms).length = N := by have := HNE2.out; simp; omega
              rw [h2]
              exact h1
            · have h1 := HPU.out (.slice oA xs.length oc)
              have h2 : (ns ++ (m, Value.slice none 0 0) :: ms).set ns.length (m, .slice oA xs.length oc) = ns ++ (m, .slice oA xs.length oc) :: ms := by rw [List.set_append_right _ _ (Nat.le_refl _), Nat.sub_self]; rfl
              rw [h2] at h1
              exact h1
            · rw [HCE1.out, ← HFF.out]
              exact ((HMD2.out.tfr (by decide) TF.out).cons (hO.out.tfr (by decide) TF.out)).mono HZ5.out
            · have h1 := hN5.out
              have := HNE2.out
              simp
              omega

theorem node_any {w0 : World} {BX : Nat} {R : RulesM} {pA sA eA : Option Addr} {pc sc ec : Nat} (hV : Valid R) (hbx : w0.heap.size ≤ BX) (hR : RulesAt w0 (.agg #[.string R.name, .int .i64 R.width, .int .i64 R.height, .slice pA R.pieces.length pc, .slice sA R.start.length sc, .bool R.falls, .bool R.keeps, .slice eA R.ends.length ec, .int .i64 R.blocked, .int .i64 R.quiet, .int .i64 R.rept]) R) : ∀ (d : Nat), d ≤ 12 → ∀ (P : PosM) (v : Value) (w : World) (ns : List (MoveM × Value)) (A : Option Addr) (c : Nat), Sound R P → resultM R P = 0 → 0 < ofM R d P → PosS w0 w v P →
    Blk w BX 93 #[.string R.name, .int .i64 R.width, .int .i64 R.height, .slice pA R.pieces.length pc, .slice sA R.start.length sc, .bool R.falls, .bool R.keeps, .slice eA R.ends.length ec, .int .i64 R.blocked, .int .i64 R.quiet, .int .i64 R.rept, .slice A ns.length c] → RowC w0.heap.size w A c ns → Ext w0 w → ns.length ≤ 5000 →
    Calls Try.prog 34 #[.pointer (some ⟨BX, 0, none⟩), v, .int .i64 (d : Int)] w (NodePost w0 w BX R pA sA eA pc sc ec ns (certM R d ns.length P)) := by
  intro d
  induction d using Nat.strongRecOn with
  | ind d ih =>
    intro hd P v w ns A c hS hr ho hP hX hrow x0 hn
    exact node_step hV hd hS hr ho hbx hR hP hX hrow x0 hn (fun d2 Q u W ms A c he h1 h2 h3 h4 h5 h6 h7 h8 => ih d2 (by omega) (by omega) Q u W ms A c h1 h2 h3 h4 h5 h6 h7 h8)
end Go.Proofs.Ytnaggpibfmednaa
