/- Walk: place.text. -/
import Derived.Test.YtdoibgmmijhlfaaDoorGTxtD
import Derived.Test.YtdoibgmmijhlfaaDoorGTxtC
namespace Go.Proofs.YtdoibgmmijhlfaaDoor
open Go.RowKit
set_option linter.unusedVariables false
set_option linter.unusedSimpArgs false
theorem rowsT_len (R : RulesM) (cells : List Int) : (rowsT R cells).length = R.height.toNat := by simp [rowsT]
theorem rowsT_get (R : RulesM) (cells : List Int) {k : Nat} (h : k < R.height.toNat) : (rowsT R cells)[k]? = some (rowT R.pieces 0 ((cells.drop ((R.height.toNat - 1 - k) * R.width.toNat)).take R.width.toNat)) := by
  unfold rowsT
  rw [List.getElem?_reverse (by simpa using h), List.length_map, List.length_range, List.getElem?_map, List.getElem?_range (by omega)]
  rfl
theorem ints_seg {W : World} {b o : Nat} {zs : List Int} (h : IntsAt W (some ⟨b, o, none⟩) zs) (k m : Nat) : IntsAt W (some ⟨b, o + k, none⟩) ((zs.drop k).take m) := by
  intro i hi
  rw [List.length_take, List.length_drop] at hi
  obtain ⟨b', o', e, hc⟩ := h (k + i) (by omega)
  injection e with e
  injection e with e1 e2
  subst e1 e2
  refine ⟨b, o + k, rfl, ?_⟩
  rw [Nat.add_assoc, hc]
  congr 2
  rw [List.getD_eq_getElem?_getD, List.getD_eq_getElem?_getD, List.getElem?_take_of_lt (by omega), List.getElem?_drop]
theorem rowsT_small {R : RulesM} {P : PosM} (hL : Lets R.pieces) (hW : R.width.toNat ≤ 8) (hc : ∀ x ∈ P.cells, 0 ≤ x ∧ x ≤ 2 * (R.pieces.length : Int)) : ∀ x ∈ rowsT R P.cells, x.length ≤ 17 := by
  intro x hx
  unfold rowsT at hx
  rw [List.mem_reverse] at hx
  obtain ⟨y, -, rfl⟩ := List.mem_map.1 hx
  have := row_len (ps := R.pieces) hL ((P.cells.drop (y * R.width.toNat)).take R.width.toNat) 0 (by rw [List.length_take]; omega)
  rw [List.length_take] at this
  omega
theorem take_strs {L : List BL} {k : Nat} {x : BL} (h : L[k]? = some x) : strsC (L.take (k + 1)) = strsC (L.take k) ++ [.string (strU x)] := by
  rw [List.take_add_one, h]
  simp [strsC]
theorem handS_len {ps : List PieceM} {l : List Int} (h : ∀ n ∈ l, 0 ≤ n ∧ n ≤ 1000) (h6 : l.length ≤ 6) : (handS ps l).length ≤ 200 := by
  have := handT_len (ps := ps) l h ps
  unfold handS
  split
  · simp
  · omega
theorem sound_facts {R : RulesM} {P : PosM} (hs : soundE R P = 0) : ((P.cells.length : Int) = R.width * R.height ∧ P.hand0.length = R.pieces.length ∧ P.hand1.length = R.pieces.length) ∧ (∀ x ∈ P.cells, 0 ≤ x ∧ x ≤ 2 * (R.pieces.length : Int)) ∧ (∀ x ∈ P.hand0, 0 ≤ x ∧ x ≤ 1000) ∧ (∀ x ∈ P.hand1, 0 ≤ x ∧ x ≤ 1000) ∧ (P.turn = 0 ∨ P.turn = 1) ∧ (0 ≤ P.quiet ∧ P.quiet ≤ 200) := by
  unfold soundE at hs
  have hf : formB R P = true := by
    by_cases h : formB R P = true
    · exact h
    · rw [if_neg h] at hs; cases hs
  rw [if_pos hf] at hs
  have hr : rangeB R.pieces.length P = true := by
    by_cases h : rangeB R.pieces.length P = true
    · exact h
    · rw [if_neg h] at hs; cases hs
  unfold formB at hf
  unfold rangeB inB at hr
  simp only [Bool.and_eq_true, decide_eq_true_eq, List.all_eq_true, Bool.or_eq_true] at hf hr
  obtain ⟨f1, f2, f3⟩ := hf
  obtain ⟨r1, r2, r3, r4⟩ := hr
  exact ⟨⟨f1, f2, f3⟩, r1, fun n h => r2 n (List.mem_append_left _ h), fun n h => r2 n (List.mem_append_right _ h), r3, r4⟩
set_option maxHeartbeats 8000000 in
set_option maxRecDepth 100000 in
theorem text_any (R : RulesM) (P : PosM) (v u : Value) (w : World) (hR : RulesAt w v R) (hP : PosAt w u P) (hL : Lets R.pieces) (h6 : R.pieces.length ≤ 6) (hW0 : 1 ≤ R.width) (hW8 : R.width ≤ 8) (hH0 : 1 ≤ R.height) (hH8 : R.height ≤ 8) (hs : soundE R P = 0) (hw : LibW w) :
    Calls Tryd.prog 22 #[v, u] w fun e w' => e = .returned (.string (strU (textT R P))) ∧ Ext w w' := by
  obtain ⟨⟨s1, s2, s3⟩, s4, s5, s6, s7, s8⟩ := sound_facts hs
  have HRW := Lib.hid (fun W (x : Ext w W) (l : List Int) (A : Option Addr) (m c : Nat) (h1 : l.length = m) (h2 : m ≤ 8) (h3 : ∀ z ∈ l, 0 ≤ z ∧ z ≤ 2 * (R.pieces.length : Int)) (h4 : IntsAt W A l) => row_any R v l A m c W (hR.ext x) hL h6 h1 h2 h3 h4)
  have HHD := Lib.hid (fun W (x : Ext w W) (l : List Int) (A : Option Addr) (m c : Nat) (h1 : l.length = m) (h2 : R.pieces.length = m) (h3 : ∀ z ∈ l, 0 ≤ z ∧ z ≤ 1000) (h4 : IntsAt W A l) => hand_any R v l A m c W (hR.ext x) hL h6 h1 h2 h3 h4 (hw.ext x))
  have HIT := Lib.hid (fun W (x : Ext w W) (m : Int) (h0 : 0 ≤ m) (h1 : m ≤ 1000) => itoa_any m h0 h1 W (hw.ext x))
  have HSM := Lib.hid (rowsT_small (P := P) hL (by omega) s4)
  have HHL0 := Lib.hid (handS_len (ps := R.pieces) s5 (by omega))
  have HHL1 := Lib.hid (handS_len (ps := R.pieces) s6 (by omega))
  have HTX := Lib.hid (show textT R P = joinL 47 (rowsT R P.cells) ++ 32 :: (handS R.pieces P.hand0 ++ 32 :: (handS R.pieces P.hand1 ++ 32 :: (Lib.itoa (P.turn + 1) ++ 32 :: Lib.itoa P.quiet))) from rfl)
  obtain ⟨pA, pc, sA, sc, eA, ec, rfl, hp, -⟩ := hR
  obtain ⟨cA, cc, aA, ac, bA, bc, rfl, hcA, haA, hbA, hcc, hac, hbc⟩ := hP
  obtain ⟨n, hn⟩ : ∃ n, R.pieces.length = n := ⟨_, rfl⟩
  rw [hn] at s2 s3 s4 h6 HRW HHD ⊢
  rw [s2] at hac ⊢
  rw [s3] at hbc ⊢
  obtain ⟨wd, hwd⟩ : ∃ wd : Nat, R.width = (wd : Int) := ⟨R.width.toNat, by omega⟩
  obtain ⟨ht, hht⟩ : ∃ ht : Nat, R.height = (ht : Int) := ⟨R.height.toNat, by omega⟩
  rw [hwd] at hW0 hW8 s1 HRW HHD ⊢
  rw [hht] at hH0 hH8 s1 HRW HHD ⊢
  have hcl : P.cells.length = wd * ht := by rw [← Int.natCast_mul] at s1; omega
  obtain ⟨L, hLd⟩ : ∃ L, L = rowsT R P.cells := ⟨_, rfl⟩
  have hLl : L.length = ht := by rw [hLd, rowsT_len, hht]; rfl
  have hLg : ∀ k, k < ht → L[k]? = some (rowT R.pieces 0 ((P.cells.drop ((ht - 1 - k) * wd)).take wd)) := fun k hk => by
    rw [hLd, rowsT_get R P.cells (by rw [hht]; exact hk), hht, hwd]
    rfl
  rw [← hLd] at HSM HTX
  have HLL := Lib.hid hLl
  have HLG := Lib.hid hLg
  have HCL := Lib.hid hcl
  have HS4 := Lib.hid s4
  obtain ⟨cb, co, rfl⟩ : ∃ b o, cA = some ⟨b, o, none⟩ := by
    have : 0 < P.cells.length := by rw [hcl]; exact Nat.mul_pos (by omega) (by omega)
    obtain ⟨b, o, e, -⟩ := hcA 0 this
    exact ⟨b, o, e⟩
  have HCA := Lib.hid hcA
  have HCC := Lib.hid hcc
  have HH0' := Lib.hid (fun W (x : Ext w W) => HHD.out W x P.hand0 aA n ac s2 rfl s5 (haA.ext x))
  have HH1' := Lib.hid (fun W (x : Ext w W) => HHD.out W x P.hand1 bA n bc s3 rfl s6 (hbA.ext x))
  have HI0' := Lib.hid (fun W (x : Ext w W) => HIT.out W x (P.turn + 1) (by omega) (by omega))
  have HI1' := Lib.hid (fun W (x : Ext w W) => HIT.out W x P.quiet (by omega) (by omega))
  have HS7 := Lib.hid s7
  have HS8 := Lib.hid s8
  clear s1 s2 s3 s4 s5 s6 hs hLd hLl hLg hcl hcA hcc haA hbA hac hbc HHD HIT hn hw hp hL s7 s8
  obtain ⟨xa, k1, k2⟩ := blks2 w #[.string R.name, .int .i64 (wd : Int), .int .i64 (ht : Int), .slice pA n pc, .slice sA R.start.length sc, .bool R.falls, .bool R.keeps, .slice eA R.ends.length ec, .int .i64 R.blocked, .int .i64 R.quiet, .int .i64 R.rept] 26 #[.slice (some ⟨cb, co, none⟩) P.cells.length cc, .slice aA n ac, .slice bA n bc, .int .i64 P.turn, .int .i64 P.quiet] 29
  go_enter Tryd.func22, Tryd.ntmps22
  go_upto_region 1 with fail
  generalize (w.alloc _).alloc _ = w3 at *
  obtain ⟨B, hB⟩ : ∃ B, B = w.heap.size := ⟨_, rfl⟩
  rw [← hB] at k1 k2 ⊢
  obtain ⟨C, hC⟩ : ∃ C, C = B + 1 := ⟨_, rfl⟩
  rw [← hC] at k2 ⊢
  have HB3 := Lib.hid k1
  have HC3 := Lib.hid k2
  have X3 := Lib.hid xa
  have hc2 := k1.cell
  clear hB hC k2 xa k1
  go_wp2_with fail
  clear hc2
  go_loopw [5, 6] (fun ov yv wr => ∃ k : Nat, k ≤ ht ∧ yv = .int .i64 ((ht : Int) - 1 - (k : Int)) ∧ OwnR 9 1 w3 wr ov k (strsC (L.take k)) ∧ Ext w3 wr) (fun _ yv _ => (RowKit.intOf yv + 1).toNat)
  case atStart => exact ⟨0, Nat.zero_le _, by go_num, OwnR.nil _ _ _ _, Below.refl _ _⟩
  case round =>
    obtain ⟨k, hk, rfl, hO, hx⟩ := hrel
    have HE := Lib.hid hx
    have HB0 := Lib.hid (HB3.out.ext hx)
    have HC0 := Lib.hid (HC3.out.ext hx)
    have HXW := Lib.hid (ext_trans X3.out hx)
    obtain ⟨oA, oc, rfl, hoc, hol, hon, -⟩ := hO.cells
    have HO := Lib.hid hO
    have HOC := Lib.hid (And.intro hoc hol)
    clear hO hx hoc hol hon
    by_cases hkn : k < ht
    · obtain ⟨q, hqq⟩ : ∃ q : Nat, (ht : Int) - 1 - (k : Int) = (q : Int) := ⟨ht - 1 - k, by omega⟩
      rw [hqq]
      have hy : q = ht - 1 - k := by omega
      have hcl := HCL.out
      have hle : (q + 1) * wd ≤ wd * ht := by rw [Nat.mul_comm wd]; exact Nat.mul_le_mul_right _ (by omega)
      have hle2 : wd * ht ≤ 64 := Nat.le_trans (Nat.mul_le_mul (show wd ≤ 8 by omega) (show ht ≤ 8 by omega)) (by decide)
      rw [Nat.add_mul, Nat.one_mul] at hle
      obtain ⟨a, ha⟩ : ∃ a, a = q * wd := ⟨_, rfl⟩
      have hg := HLG.out k hkn
      rw [← hy, ← ha] at hg
      rw [← ha] at hle
      obtain ⟨e, he⟩ : ∃ e, e = a + wd := ⟨_, rfl⟩
      have hm1 : IntKind.i64.wrap ((q : Int) * (wd : Int)) = (a : Int) := by rw [← Int.natCast_mul, ← ha, IntKind.wrap_i64]; omega
      have hm2 : IntKind.i64.wrap (((q : Int) + 1) * (wd : Int)) = (e : Int) := by rw [Int.add_mul, ← Int.natCast_mul, ← ha, IntKind.wrap_i64]; omega
      have hseg := HCA.out
      have HRT := Lib.hid (take_strs (L := L) hg)
      have HRW2 := Lib.hid (fun W (x : Ext wr W) => HRW.out W (ext_trans HXW.out x) ((P.cells.drop a).take wd) (some ⟨cb, co + a, none⟩) wd (cc - a) (by rw [List.length_take, List.length_drop]; omega) (by omega) (fun z hz => HS4.out z (List.mem_of_mem_drop (List.mem_of_mem_take hz))) ((ints_seg HCA.out a wd).ext (ext_trans HXW.out x)))
      obtain ⟨rt, hrt⟩ : ∃ rt, rt = rowT R.pieces 0 ((P.cells.drop a).take wd) := ⟨_, rfl⟩
      rw [← hrt] at HRW2 HRT
      have HKN := Lib.hid (show k ≤ 8 by omega)
      have HKK := Lib.hid hkn
      have b0 : a ≤ e := by omega
      have b1 : e ≤ P.cells.length := by omega
      have b2 := HCC.out
      have b3 : e ≤ cc := by omega
      have b4 : e - a = wd := by omega
      have b5 : (e : Int) - (a : Int) = (wd : Int) := by omega
      have hca : ¬ cc = a := by omega

      have ty : decide ((0 : Int) ≤ (q : Int)) = true := decide_eq_true (by omega)
      have hyB : q ≤ 7 := by omega
      have hsm : IntKind.i64.wrap ((q : Int) + 1) = (q : Int) + 1 := by rw [IntKind.wrap_i64]; omega
      clear hg hrt hle hle2 hcl hseg hkn hk ha he hy HLG
      rename_i hrn
      go_upto_region 5 with fail
      have z0 : Ext wr wr.drew := Below.drew (Below.refl _ _)
      have keepK := hide (fun W (h : Ext w3 W) => (show (fun W => W.cell? ⟨B, 0, none⟩ = some (.string R.name) ∧ W.cell? ⟨B, 1, none⟩ = some (.int .i64 (wd : Int)) ∧ W.cell? ⟨B, 2, none⟩ = some (.int .i64 (ht : Int)) ∧ W.cell? ⟨B, 3, none⟩ = some (.slice pA n pc) ∧ W.cell? ⟨B, 4, none⟩ = some (.slice sA R.start.length sc) ∧ W.cell? ⟨B, 5, none⟩ = some (.bool R.falls) ∧ W.cell? ⟨B, 6, none⟩ = some (.bool R.keeps) ∧ W.cell? ⟨B, 7, none⟩ = some (.slice eA R.ends.length ec) ∧ W.cell? ⟨B, 8, none⟩ = some (.int .i64 R.blocked) ∧ W.cell? ⟨B, 9, none⟩ = some (.int .i64 R.quiet) ∧ W.cell? ⟨B, 10, none⟩ = some (.int .i64 R.rept) ∧ W.cell? ⟨C, 0, none⟩ = some (.slice (some ⟨cb, co, none⟩) P.cells.length cc) ∧ W.cell? ⟨C, 1, none⟩ = some (.slice aA n ac) ∧ W.cell? ⟨C, 2, none⟩ = some (.slice bA n bc) ∧ W.cell? ⟨C, 3, none⟩ = some (.int .i64 P.turn) ∧ W.cell? ⟨C, 4, none⟩ = some (.int .i64 P.quiet) ∧ Ext w3 W) W from ⟨(HB3.out.ext h).cell 0, (HB3.out.ext h).cell 1, (HB3.out.ext h).cell 2, (HB3.out.ext h).cell 3, (HB3.out.ext h).cell 4, (HB3.out.ext h).cell 5, (HB3.out.ext h).cell 6, (HB3.out.ext h).cell 7, (HB3.out.ext h).cell 8, (HB3.out.ext h).cell 9, (HB3.out.ext h).cell 10, (HC3.out.ext h).cell 0, (HC3.out.ext h).cell 1, (HC3.out.ext h).cell 2, (HC3.out.ext h).cell 3, (HC3.out.ext h).cell 4, h⟩))
      have yy := ext_trans HE.out z0
      refine region_K (fun W => W.cell? ⟨B, 0, none⟩ = some (.string R.name) ∧ W.cell? ⟨B, 1, none⟩ = some (.int .i64 (wd : Int)) ∧ W.cell? ⟨B, 2, none⟩ = some (.int .i64 (ht : Int)) ∧ W.cell? ⟨B, 3, none⟩ = some (.slice pA n pc) ∧ W.cell? ⟨B, 4, none⟩ = some (.slice sA R.start.length sc) ∧ W.cell? ⟨B, 5, none⟩ = some (.bool R.falls) ∧ W.cell? ⟨B, 6, none⟩ = some (.bool R.keeps) ∧ W.cell? ⟨B, 7, none⟩ = some (.slice eA R.ends.length ec) ∧ W.cell? ⟨B, 8, none⟩ = some (.int .i64 R.blocked) ∧ W.cell? ⟨B, 9, none⟩ = some (.int .i64 R.quiet) ∧ W.cell? ⟨B, 10, none⟩ = some (.int .i64 R.rept) ∧ W.cell? ⟨C, 0, none⟩ = some (.slice (some ⟨cb, co, none⟩) P.cells.length cc) ∧ W.cell? ⟨C, 1, none⟩ = some (.slice aA n ac) ∧ W.cell? ⟨C, 2, none⟩ = some (.slice bA n bc) ∧ W.cell? ⟨C, 3, none⟩ = some (.int .i64 P.turn) ∧ W.cell? ⟨C, 4, none⟩ = some (.int .i64 P.quiet) ∧ Ext w3 W) (fun _ => True) [] (by kernel_rfl) ?_
      have hT0 := keepK.out _ yy
      refine anyK_take 0 (oi := ?oo1) ?ho1 (by kernel_rfl) (by kernel_rfl) (by kernel_rfl) (by kernel_rfl) ?hq1 ?hw1 hT0 (fun _ => trivial) (v := ?vv1) ?hy1 ?hk1
      case ho1 => (simp only [List.getElem?_toArray, List.getElem?_cons_succ, List.getElem?_cons_zero]; rfl)
      case hq1 => exact fun _ _ _ h => h
      case hw1 => rfl
      case hy1 =>
        intro W hW
        go_simp
        first | done | with_reducible rfl
      case hk1 =>
      try simp only [Act.put, List.setIfInBounds_toArray, List.set_cons_zero, List.set_cons_succ]
      refine anyK_take 1 (oi := ?oo2) ?ho2 (by kernel_rfl) (by kernel_rfl) (by kernel_rfl) (by kernel_rfl) ?hq2 ?hw2 hT0 (fun _ => trivial) (v := ?vv2) ?hy2 ?hk2
      case ho2 => (simp only [List.getElem?_toArray, List.getElem?_cons_succ, List.getElem?_cons_zero]; rfl)
      case hq2 => exact fun _ _ _ h => h
      case hw2 => rfl
      case hy2 =>
        intro W hW
        obtain ⟨z0, z1, z2, z3, z4, z5, z6, z7, z8, z9, z10, z11, z12, z13, z14, z15, z16⟩ := hW
        go_simp
        first | done | with_reducible rfl
      case hk2 =>
      try simp only [Act.put, List.setIfInBounds_toArray, List.set_cons_zero, List.set_cons_succ]
      refine anyK_take 2 (oi := ?oo3) ?ho3 (by kernel_rfl) (by kernel_rfl) (by kernel_rfl) (by kernel_rfl) ?hq3 ?hw3 hT0 (fun _ => trivial) (v := ?vv3) ?hy3 ?hk3
      case ho3 => (simp only [List.getElem?_toArray, List.getElem?_cons_succ, List.getElem?_cons_zero]; rfl)
      case hq3 => exact fun _ _ _ h => h
      case hw3 => rfl
      case hy3 =>
        intro W hW
        go_simp
        first | done | with_reducible rfl
      case hk3 =>
      try simp only [Act.put, List.setIfInBounds_toArray, List.set_cons_zero, List.set_cons_succ]
      refine anyK_take 3 (oi := ?oo4) ?ho4 (by kernel_rfl) (by kernel_rfl) (by kernel_rfl) (by kernel_rfl) ?hq4 ?hw4 hT0 (fun _ => trivial) (v := ?vv4) ?hy4 ?hk4
      case ho4 => (simp only [List.getElem?_toArray, List.getElem?_cons_succ, List.getElem?_cons_zero]; rfl)
      case hq4 => exact fun _ _ _ h => h
      case hw4 => rfl
      case hy4 =>
        intro W hW
        obtain ⟨z0, z1, z2, z3, z4, z5, z6, z7, z8, z9, z10, z11, z12, z13, z14, z15, z16⟩ := hW
        go_simp
        first | done | with_reducible rfl
      case hk4 =>
      try simp only [Act.put, List.setIfInBounds_toArray, List.set_cons_zero, List.set_cons_succ]
      refine anyK_take 4 (oi := ?oo5) ?ho5 (by kernel_rfl) (by kernel_rfl) (by kernel_rfl) (by kernel_rfl) ?hq5 ?hw5 hT0 (fun _ => trivial) (v := ?vv5) ?hy5 ?hk5
      case ho5 => (simp only [List.getElem?_toArray, List.getElem?_cons_succ, List.getElem?_cons_zero]; rfl)
      case hq5 => exact fun _ _ _ h => h
      case hw5 => rfl
      case hy5 =>
        intro W hW
        go_simp
        first | done | with_reducible rfl
      case hk5 =>
      try simp only [Act.put, List.setIfInBounds_toArray, List.set_cons_zero, List.set_cons_succ]
      refine anyK_take 5 (oi := ?oo6) ?ho6 (by kernel_rfl) (by kernel_rfl) (by kernel_rfl) (by kernel_rfl) ?hq6 ?hw6 hT0 (fun _ => trivial) (v := ?vv6) ?hy6 ?hk6
      case ho6 => (simp only [List.getElem?_toArray, List.getElem?_cons_succ, List.getElem?_cons_zero]; rfl)
      case hq6 => exact fun _ _ _ h => h
      case hw6 => rfl
      case hy6 =>
        intro W hW
        go_simp
        first | done | with_reducible rfl
      case hk6 =>
      try simp only [Act.put, List.setIfInBounds_toArray, List.set_cons_zero, List.set_cons_succ]
      refine anyK_take 6 (oi := ?oo7) ?ho7 (by kernel_rfl) (by kernel_rfl) (by kernel_rfl) (by kernel_rfl) ?hq7 ?hw7 hT0 (fun _ => trivial) (v := ?vv7) ?hy7 ?hk7
      case ho7 => (simp only [List.getElem?_toArray, List.getElem?_cons_succ, List.getElem?_cons_zero]; rfl)
      case hq7 => exact fun _ _ _ h => h
      case hw7 => rfl
      case hy7 =>
        intro W hW
        obtain ⟨z0, z1, z2, z3, z4, z5, z6, z7, z8, z9, z10, z11, z12, z13, z14, z15, z16⟩ := hW
        go_simp
        first | done | with_reducible rfl
      case hk7 =>
      try simp only [Act.put, List.setIfInBounds_toArray, List.set_cons_zero, List.set_cons_succ]
      refine anyK_take 7 (oi := ?oo8) ?ho8 (by kernel_rfl) (by kernel_rfl) (by kernel_rfl) (by kernel_rfl) ?hq8 ?hw8 hT0 (fun _ => trivial) (v := ?vv8) ?hy8 ?hk8
      case ho8 => (simp only [List.getElem?_toArray, List.getElem?_cons_succ, List.getElem?_cons_zero]; rfl)
      case hq8 => exact fun _ _ _ h => h
      case hw8 => rfl
      case hy8 =>
        intro W hW
        go_simp
        first | done | with_reducible rfl
      case hk8 =>
      try simp only [Act.put, List.setIfInBounds_toArray, List.set_cons_zero, List.set_cons_succ]
      refine anyK_take 8 (oi := ?oo9) ?ho9 (by kernel_rfl) (by kernel_rfl) (by kernel_rfl) (by kernel_rfl) ?hq9 ?hw9 hT0 (fun _ => trivial) (v := ?vv9) ?hy9 ?hk9
      case ho9 => (simp only [List.getElem?_toArray, List.getElem?_cons_succ, List.getElem?_cons_zero]; rfl)
      case hq9 => exact fun _ _ _ h => h
      case hw9 => rfl
      case hy9 =>
        intro W hW
        go_simp
        first | done | with_reducible rfl
      case hk9 =>
      try simp only [Act.put, List.setIfInBounds_toArray, List.set_cons_zero, List.set_cons_succ]
      refine anyK_take 9 (oi := ?oo10) ?ho10 (by kernel_rfl) (by kernel_rfl) (by kernel_rfl) (by kernel_rfl) ?hq10 ?hw10 hT0 (fun _ => trivial) (v := ?vv10) ?hy10 ?hk10
      case ho10 => (simp only [List.getElem?_toArray, List.getElem?_cons_succ, List.getElem?_cons_zero]; rfl)
      case hq10 => exact fun _ _ _ h => h
      case hw10 => rfl
      case hy10 =>
        intro W hW
        go_simp
        first | done | with_reducible rfl
      case hk10 =>
      try simp only [Act.put, List.setIfInBounds_toArray, List.set_cons_zero, List.set_cons_succ]
      refine anyK_take 10 (oi := ?oo11) ?ho11 (by kernel_rfl) (by kernel_rfl) (by kernel_rfl) (by kernel_rfl) ?hq11 ?hw11 hT0 (fun _ => trivial) (v := ?vv11) ?hy11 ?hk11
      case ho11 => (simp only [List.getElem?_toArray, List.getElem?_cons_succ, List.getElem?_cons_zero]; rfl)
      case hq11 => exact fun _ _ _ h => h
      case hw11 => rfl
      case hy11 =>
        intro W hW
        go_simp
        first | done | with_reducible rfl
      case hk11 =>
      try simp only [Act.put, List.setIfInBounds_toArray, List.set_cons_zero, List.set_cons_succ]
      refine anyK_take 11 (oi := ?oo12) ?ho12 (by kernel_rfl) (by kernel_rfl) (by kernel_rfl) (by kernel_rfl) ?hq12 ?hw12 hT0 (fun _ => trivial) (v := ?vv12) ?hy12 ?hk12
      case ho12 => (simp only [List.getElem?_toArray, List.getElem?_cons_succ, List.getElem?_cons_zero]; rfl)
      case hq12 => exact fun _ _ _ h => h
      case hw12 => rfl
      case hy12 =>
        intro W hW
        obtain ⟨z0, z1, z2, z3, z4, z5, z6, z7, z8, z9, z10, z11, z12, z13, z14, z15, z16⟩ := hW
        go_simp
        first | done | with_reducible rfl
      case hk12 =>
      try simp only [Act.put, List.setIfInBounds_toArray, List.set_cons_zero, List.set_cons_succ]
      refine anyK_take 12 (oi := ?oo13) ?ho13 (by kernel_rfl) (by kernel_rfl) (by kernel_rfl) (by kernel_rfl) ?hq13 ?hw13 hT0 (fun _ => trivial) (v := ?vv13) ?hy13 ?hk13
      case ho13 => (simp only [List.getElem?_toArray, List.getElem?_cons_succ, List.getElem?_cons_zero]; rfl)
      case hq13 => exact fun _ _ _ h => h
      case hw13 => rfl
      case hy13 =>
        intro W hW
        go_simp
        first | done | with_reducible rfl
      case hk13 =>
      try simp only [Act.put, List.setIfInBounds_toArray, List.set_cons_zero, List.set_cons_succ]
      refine anyK_take 13 (oi := ?oo14) ?ho14 (by kernel_rfl) (by kernel_rfl) (by kernel_rfl) (by kernel_rfl) ?hq14 ?hw14 hT0 (fun _ => trivial) (v := ?vv14) ?hy14 ?hk14
      case ho14 => (simp only [List.getElem?_toArray, List.getElem?_cons_succ, List.getElem?_cons_zero]; rfl)
      case hq14 => exact fun _ _ _ h => h
      case hw14 => rfl
      case hy14 =>
        intro W hW
        go_simp
        first | done | with_reducible rfl
      case hk14 =>
      try simp only [Act.put, List.setIfInBounds_toArray, List.set_cons_zero, List.set_cons_succ]
      refine anyK_on1 14 (by kernel_rfl) ?_
      refine anyK_one 14 (o := ?oo15) ?ho15 ?hk15
      case ho15 => (simp only [List.getElem?_toArray, List.getElem?_cons_succ, List.getElem?_cons_zero]; rfl)
      case hk15 =>
      intro K hK
      go_simp
      refine (HRW2.out _ z0).mono ?_
      rintro e wi ⟨rfl, xx⟩
      try go_wp2_with fail
      replace yy := ext_trans yy xx
      have z1 := ext_trans z0 xx
      have hT1 := keepK.out _ yy
      refine hK.out _ _ hT1 (fun _ => trivial) ?_
      clear hK K
      try simp only [Act.put, List.setIfInBounds_toArray, List.set_cons_zero, List.set_cons_succ]
      refine anyK_on1 15 (by kernel_rfl) ?_
      refine anyK_one 15 (o := ?oo16) ?ho16 ?hk16
      case ho16 => (simp only [List.getElem?_toArray, List.getElem?_cons_succ, List.getElem?_cons_zero]; rfl)
      case hk16 =>
      intro K hK
      go_simp
      replace yy := ext_alloc yy (.cells #[.string (strU rt)] 9)
      have hT2 := keepK.out _ yy
      refine hK.out _ _ hT2 (fun _ => trivial) ?_
      clear hK K
      try simp only [Act.put, List.setIfInBounds_toArray, List.set_cons_zero, List.set_cons_succ]
      refine anyK_on1 16 (by kernel_rfl) ?_
      refine anyK_one 16 (o := ?oo17) ?ho17 ?hk17
      case ho17 => (simp only [List.getElem?_toArray, List.getElem?_cons_succ, List.getElem?_cons_zero]; rfl)
      case hk17 =>
      intro K hK
      refine oper_append_r (.tmp 14) (.tmp 29) 45 rfl 9 1 16 (.string ⟨#[]⟩) Tryd.underlying45 strInfoJ rfl (by decide) (by decide) w3 wi (.slice oA k oc) k (strsC (L.take k)) [.string (strU rt)] rfl (HO.out.ext z1) rfl rfl (by simp [Value.oneCell']) (ext_trans HE.out z1) (by have := HKN.out; omega) ?_
      intro v9 w9 own9 x9 g9
      have HO9 := Lib.hid own9
      have yy := x9
      clear own9 x9 g9
      have hT3 := keepK.out _ yy
      refine hK.out _ _ hT3 (fun _ => trivial) ?_
      clear hK K
      try simp only [Act.put, List.setIfInBounds_toArray, List.set_cons_zero, List.set_cons_succ]
      refine anyK_take 17 (oi := ?oo18) ?ho18 (by kernel_rfl) (by kernel_rfl) (by kernel_rfl) (by kernel_rfl) ?hq18 ?hw18 hT3 (fun _ => trivial) (v := ?vv18) ?hy18 ?hk18
      case ho18 => (simp only [List.getElem?_toArray, List.getElem?_cons_succ, List.getElem?_cons_zero]; rfl)
      case hq18 => exact fun _ _ _ h => h
      case hw18 => rfl
      case hy18 =>
        intro W hW
        go_simp
        first | done | with_reducible rfl
      case hk18 =>
      try simp only [Act.put, List.setIfInBounds_toArray, List.set_cons_zero, List.set_cons_succ]
      refine anyK_done (by kernel_rfl) ?_ _
      clear keepK hT0 hT1 hT2 hT3
      clear HRW2 hm1 hm2 b0 b1 b2 b3 b4 b5 ty hca hsm
      have hq2 := hqq
      go_wp2
      go_roundw
      case rel => exact ⟨k + 1, HKK.out, by go_num, by rw [HRT.out]; exact HO9.out, yy⟩
      case measure =>
        simp [RowKit.intOf]
        try omega
    · obtain rfl : ht = k := by omega
      have hneg : (ht : Int) - 1 - (ht : Int) = -1 := by omega
      rw [hneg]
      have hall : L.take ht = L := List.take_of_length_le (by rw [HLL.out]; exact Nat.le_refl _)
      have hoc := HOC.out.1
      have hol := HOC.out.2
      rw [hall] at hoc
      have hjl := joinL_len (c := 47) HSM.out
      rw [HLL.out] at hjl
      have hjl2 : ht * (17 + 1) ≤ 144 := by omega
      obtain ⟨S0, hS0⟩ : ∃ S0, S0 = strU (joinL 47 L) := ⟨_, rfl⟩
      obtain ⟨S1, hS1⟩ : ∃ S1, S1 = strU (handS R.pieces P.hand0) := ⟨_, rfl⟩
      obtain ⟨S2, hS2⟩ : ∃ S2, S2 = strU (handS R.pieces P.hand1) := ⟨_, rfl⟩
      obtain ⟨S3, hS3⟩ : ∃ S3, S3 = strU (Lib.itoa (P.turn + 1)) := ⟨_, rfl⟩
      obtain ⟨S4, hS4⟩ : ∃ S4, S4 = strU (Lib.itoa P.quiet) := ⟨_, rfl⟩
      have HF := Lib.hid (show strU (textT R P) = S0 ++ strU [32] ++ S1 ++ strU [32] ++ S2 ++ strU [32] ++ S3 ++ strU [32] ++ S4 by
        rw [HTX.out, hS0, hS1, hS2, hS3, hS4]
        simp only [strU_app, List.append_assoc, List.singleton_append, List.cons_append, List.nil_append])
      have z0 : S0.size ≤ 200 := by rw [hS0, strU_size]; omega
      have z1 : S1.size ≤ 200 := by rw [hS1, strU_size]; exact HHL0.out
      have z2 : S2.size ≤ 200 := by rw [hS2, strU_size]; exact HHL1.out
      have z3 : S3.size ≤ 200 := by rw [hS3, strU_size]; have := itoa_len (n := P.turn + 1) (by have := HS7.out; omega) (by have := HS7.out; omega); omega
      have z4 : S4.size ≤ 200 := by rw [hS4, strU_size]; have := itoa_len (n := P.quiet) (by have := HS8.out; omega) (by have := HS8.out; omega); omega
      have HJN := Lib.hid (fun W (x : Ext wr W) => by
        have h := join_any 47 L (by rw [HLL.out]; omega) (by rw [HLL.out]; omega) (by omega) oA oc W (hoc.ext x) (by rw [HLL.out]; exact hol)
        rw [HLL.out, ← hS0] at h
        exact h)
      have HH0 := Lib.hid (fun W (x : Ext wr W) => by
        have h := HH0'.out W (ext_trans HXW.out x)
        rw [← hS1] at h
        exact h)
      have HH1 := Lib.hid (fun W (x : Ext wr W) => by
        have h := HH1'.out W (ext_trans HXW.out x)
        rw [← hS2] at h
        exact h)
      have HI0 := Lib.hid (fun W (x : Ext wr W) => by
        have h := HI0'.out W (ext_trans HXW.out x)
        rw [← hS3] at h
        exact h)
      have HI1 := Lib.hid (fun W (x : Ext wr W) => by
        have h := HI1'.out W (ext_trans HXW.out x)
        rw [← hS4] at h
        exact h)
      have sp1 : (strU [32]).size = 1 := rfl
      have ht1 : IntKind.i64.wrap (P.turn + 1) = P.turn + 1 := by have := HS7.out; rw [IntKind.wrap_i64]; omega
      have pl2 : ¬ (9223372036854775807 < S0.size + 1) := by omega
      have pl3 : ¬ (9223372036854775807 < S0.size + 1 + S1.size) := by omega
      have pr3 : ¬ (9223372036854775807 < S0.size + (1 + S1.size)) := by omega
      have pl4 : ¬ (9223372036854775807 < S0.size + 1 + S1.size + 1) := by omega
      have pr4 : ¬ (9223372036854775807 < S0.size + (1 + (S1.size + 1))) := by omega
      have pl5 : ¬ (9223372036854775807 < S0.size + 1 + S1.size + 1 + S2.size) := by omega
      have pr5 : ¬ (9223372036854775807 < S0.size + (1 + (S1.size + (1 + S2.size)))) := by omega
      have pl6 : ¬ (9223372036854775807 < S0.size + 1 + S1.size + 1 + S2.size + 1) := by omega
      have pr6 : ¬ (9223372036854775807 < S0.size + (1 + (S1.size + (1 + (S2.size + 1))))) := by omega
      have pl7 : ¬ (9223372036854775807 < S0.size + 1 + S1.size + 1 + S2.size + 1 + S3.size) := by omega
      have pr7 : ¬ (9223372036854775807 < S0.size + (1 + (S1.size + (1 + (S2.size + (1 + S3.size)))))) := by omega
      have pl8 : ¬ (9223372036854775807 < S0.size + 1 + S1.size + 1 + S2.size + 1 + S3.size + 1) := by omega
      have pr8 : ¬ (9223372036854775807 < S0.size + (1 + (S1.size + (1 + (S2.size + (1 + (S3.size + 1))))))) := by omega
      have pl9 : ¬ (9223372036854775807 < S0.size + 1 + S1.size + 1 + S2.size + 1 + S3.size + 1 + S4.size) := by omega
      have pr9 : ¬ (9223372036854775807 < S0.size + (1 + (S1.size + (1 + (S2.size + (1 + (S3.size + (1 + S4.size)))))))) := by omega
      have tn := HS7.out
      have hT3 := HB0.out
      clear hS0 hS1 hS2 hS3 hS4 hall hoc hol hjl hjl2 hneg HH0' HH1' HI0' HI1' HRW hk hkn
      go_upto_region 6 with fail
      have keepK := hide (fun W (h : Ext wr W) => (show (fun W => W.cell? ⟨B, 0, none⟩ = some (.string R.name) ∧ W.cell? ⟨B, 1, none⟩ = some (.int .i64 (wd : Int)) ∧ W.cell? ⟨B, 2, none⟩ = some (.int .i64 (ht : Int)) ∧ W.cell? ⟨B, 3, none⟩ = some (.slice pA n pc) ∧ W.cell? ⟨B, 4, none⟩ = some (.slice sA R.start.length sc) ∧ W.cell? ⟨B, 5, none⟩ = some (.bool R.falls) ∧ W.cell? ⟨B, 6, none⟩ = some (.bool R.keeps) ∧ W.cell? ⟨B, 7, none⟩ = some (.slice eA R.ends.length ec) ∧ W.cell? ⟨B, 8, none⟩ = some (.int .i64 R.blocked) ∧ W.cell? ⟨B, 9, none⟩ = some (.int .i64 R.quiet) ∧ W.cell? ⟨B, 10, none⟩ = some (.int .i64 R.rept) ∧ W.cell? ⟨C, 0, none⟩ = some (.slice (some ⟨cb, co, none⟩) P.cells.length cc) ∧ W.cell? ⟨C, 1, none⟩ = some (.slice aA n ac) ∧ W.cell? ⟨C, 2, none⟩ = some (.slice bA n bc) ∧ W.cell? ⟨C, 3, none⟩ = some (.int .i64 P.turn) ∧ W.cell? ⟨C, 4, none⟩ = some (.int .i64 P.quiet) ∧ Ext wr W) W from ⟨(HB0.out.ext h).cell 0, (HB0.out.ext h).cell 1, (HB0.out.ext h).cell 2, (HB0.out.ext h).cell 3, (HB0.out.ext h).cell 4, (HB0.out.ext h).cell 5, (HB0.out.ext h).cell 6, (HB0.out.ext h).cell 7, (HB0.out.ext h).cell 8, (HB0.out.ext h).cell 9, (HB0.out.ext h).cell 10, (HC0.out.ext h).cell 0, (HC0.out.ext h).cell 1, (HC0.out.ext h).cell 2, (HC0.out.ext h).cell 3, (HC0.out.ext h).cell 4, h⟩))
      have yy : Ext wr wr.drew := Below.drew (Below.refl _ _)
      refine region_K (fun W => W.cell? ⟨B, 0, none⟩ = some (.string R.name) ∧ W.cell? ⟨B, 1, none⟩ = some (.int .i64 (wd : Int)) ∧ W.cell? ⟨B, 2, none⟩ = some (.int .i64 (ht : Int)) ∧ W.cell? ⟨B, 3, none⟩ = some (.slice pA n pc) ∧ W.cell? ⟨B, 4, none⟩ = some (.slice sA R.start.length sc) ∧ W.cell? ⟨B, 5, none⟩ = some (.bool R.falls) ∧ W.cell? ⟨B, 6, none⟩ = some (.bool R.keeps) ∧ W.cell? ⟨B, 7, none⟩ = some (.slice eA R.ends.length ec) ∧ W.cell? ⟨B, 8, none⟩ = some (.int .i64 R.blocked) ∧ W.cell? ⟨B, 9, none⟩ = some (.int .i64 R.quiet) ∧ W.cell? ⟨B, 10, none⟩ = some (.int .i64 R.rept) ∧ W.cell? ⟨C, 0, none⟩ = some (.slice (some ⟨cb, co, none⟩) P.cells.length cc) ∧ W.cell? ⟨C, 1, none⟩ = some (.slice aA n ac) ∧ W.cell? ⟨C, 2, none⟩ = some (.slice bA n bc) ∧ W.cell? ⟨C, 3, none⟩ = some (.int .i64 P.turn) ∧ W.cell? ⟨C, 4, none⟩ = some (.int .i64 P.quiet) ∧ Ext wr W) (fun _ => True) [] (by kernel_rfl) ?_
      have hT0 := keepK.out _ yy
      refine anyK_take 0 (oi := ?oo19) ?ho19 (by kernel_rfl) (by kernel_rfl) (by kernel_rfl) (by kernel_rfl) ?hq19 ?hw19 hT0 (fun _ => trivial) (v := ?vv19) ?hy19 ?hk19
      case ho19 => (simp only [List.getElem?_toArray, List.getElem?_cons_succ, List.getElem?_cons_zero]; rfl)
      case hq19 => exact fun _ _ _ h => h
      case hw19 => rfl
      case hy19 =>
        intro W hW
        go_simp
        first | done | with_reducible rfl
      case hk19 =>
      try simp only [Act.put, List.setIfInBounds_toArray, List.set_cons_zero, List.set_cons_succ]
      refine anyK_take 3 (oi := ?oo20) ?ho20 (by kernel_rfl) (by kernel_rfl) (by kernel_rfl) (by kernel_rfl) ?hq20 ?hw20 hT0 (fun _ => trivial) (v := ?vv20) ?hy20 ?hk20
      case ho20 => (simp only [List.getElem?_toArray, List.getElem?_cons_succ, List.getElem?_cons_zero]; rfl)
      case hq20 => exact fun _ _ _ h => h
      case hw20 => rfl
      case hy20 =>
        intro W hW
        obtain ⟨z0, z1, z2, z3, z4, z5, z6, z7, z8, z9, z10, z11, z12, z13, z14, z15, z16⟩ := hW
        go_simp
        first | done | with_reducible rfl
      case hk20 =>
      try simp only [Act.put, List.setIfInBounds_toArray, List.set_cons_zero, List.set_cons_succ]
      refine anyK_take 4 (oi := ?oo21) ?ho21 (by kernel_rfl) (by kernel_rfl) (by kernel_rfl) (by kernel_rfl) ?hq21 ?hw21 hT0 (fun _ => trivial) (v := ?vv21) ?hy21 ?hk21
      case ho21 => (simp only [List.getElem?_toArray, List.getElem?_cons_succ, List.getElem?_cons_zero]; rfl)
      case hq21 => exact fun _ _ _ h => h
      case hw21 => rfl
      case hy21 =>
        intro W hW
        go_simp
        first | done | with_reducible rfl
      case hk21 =>
      try simp only [Act.put, List.setIfInBounds_toArray, List.set_cons_zero, List.set_cons_succ]
      refine anyK_take 5 (oi := ?oo22) ?ho22 (by kernel_rfl) (by kernel_rfl) (by kernel_rfl) (by kernel_rfl) ?hq22 ?hw22 hT0 (fun _ => trivial) (v := ?vv22) ?hy22 ?hk22
      case ho22 => (simp only [List.getElem?_toArray, List.getElem?_cons_succ, List.getElem?_cons_zero]; rfl)
      case hq22 => exact fun _ _ _ h => h
      case hw22 => rfl
      case hy22 =>
        intro W hW
        go_simp
        first | done | with_reducible rfl
      case hk22 =>
      try simp only [Act.put, List.setIfInBounds_toArray, List.set_cons_zero, List.set_cons_succ]
      refine anyK_take 6 (oi := ?oo23) ?ho23 (by kernel_rfl) (by kernel_rfl) (by kernel_rfl) (by kernel_rfl) ?hq23 ?hw23 hT0 (fun _ => trivial) (v := ?vv23) ?hy23 ?hk23
      case ho23 => (simp only [List.getElem?_toArray, List.getElem?_cons_succ, List.getElem?_cons_zero]; rfl)
      case hq23 => exact fun _ _ _ h => h
      case hw23 => rfl
      case hy23 =>
        intro W hW
        obtain ⟨z0, z1, z2, z3, z4, z5, z6, z7, z8, z9, z10, z11, z12, z13, z14, z15, z16⟩ := hW
        go_simp
        first | done | with_reducible rfl
      case hk23 =>
      try simp only [Act.put, List.setIfInBounds_toArray, List.set_cons_zero, List.set_cons_succ]
      refine anyK_take 10 (oi := ?oo24) ?ho24 (by kernel_rfl) (by kernel_rfl) (by kernel_rfl) (by kernel_rfl) ?hq24 ?hw24 hT0 (fun _ => trivial) (v := ?vv24) ?hy24 ?hk24
      case ho24 => (simp only [List.getElem?_toArray, List.getElem?_cons_succ, List.getElem?_cons_zero]; rfl)
      case hq24 => exact fun _ _ _ h => h
      case hw24 => rfl
      case hy24 =>
        intro W hW
        obtain ⟨z0, z1, z2, z3, z4, z5, z6, z7, z8, z9, z10, z11, z12, z13, z14, z15, z16⟩ := hW
        go_simp
        first | done | with_reducible rfl
      case hk24 =>
      try simp only [Act.put, List.setIfInBounds_toArray, List.set_cons_zero, List.set_cons_succ]
      refine anyK_take 11 (oi := ?oo25) ?ho25 (by kernel_rfl) (by kernel_rfl) (by kernel_rfl) (by kernel_rfl) ?hq25 ?hw25 hT0 (fun _ => trivial) (v := ?vv25) ?hy25 ?hk25
      case ho25 => (simp only [List.getElem?_toArray, List.getElem?_cons_succ, List.getElem?_cons_zero]; rfl)
      case hq25 => exact fun _ _ _ h => h
      case hw25 => rfl
      case hy25 =>
        intro W hW
        go_simp
        first | done | with_reducible rfl
      case hk25 =>
      try simp only [Act.put, List.setIfInBounds_toArray, List.set_cons_zero, List.set_cons_succ]
      refine anyK_take 12 (oi := ?oo26) ?ho26 (by kernel_rfl) (by kernel_rfl) (by kernel_rfl) (by kernel_rfl) ?hq26 ?hw26 hT0 (fun _ => trivial) (v := ?vv26) ?hy26 ?hk26
      case ho26 => (simp only [List.getElem?_toArray, List.getElem?_cons_succ, List.getElem?_cons_zero]; rfl)
      case hq26 => exact fun _ _ _ h => h
      case hw26 => rfl
      case hy26 =>
        intro W hW
        go_simp
        first | done | with_reducible rfl
      case hk26 =>
      try simp only [Act.put, List.setIfInBounds_toArray, List.set_cons_zero, List.set_cons_succ]
      refine anyK_take 13 (oi := ?oo27) ?ho27 (by kernel_rfl) (by kernel_rfl) (by kernel_rfl) (by kernel_rfl) ?hq27 ?hw27 hT0 (fun _ => trivial) (v := ?vv27) ?hy27 ?hk27
      case ho27 => (simp only [List.getElem?_toArray, List.getElem?_cons_succ, List.getElem?_cons_zero]; rfl)
      case hq27 => exact fun _ _ _ h => h
      case hw27 => rfl
      case hy27 =>
        intro W hW
        obtain ⟨z0, z1, z2, z3, z4, z5, z6, z7, z8, z9, z10, z11, z12, z13, z14, z15, z16⟩ := hW
        go_simp
        first | done | with_reducible rfl
      case hk27 =>
      try simp only [Act.put, List.setIfInBounds_toArray, List.set_cons_zero, List.set_cons_succ]
      refine anyK_take 17 (oi := ?oo28) ?ho28 (by kernel_rfl) (by kernel_rfl) (by kernel_rfl) (by kernel_rfl) ?hq28 ?hw28 hT0 (fun _ => trivial) (v := ?vv28) ?hy28 ?hk28
      case ho28 => (simp only [List.getElem?_toArray, List.getElem?_cons_succ, List.getElem?_cons_zero]; rfl)
      case hq28 => exact fun _ _ _ h => h
      case hw28 => rfl
      case hy28 =>
        intro W hW
        go_simp
        first | done | with_reducible rfl
      case hk28 =>
      try simp only [Act.put, List.setIfInBounds_toArray, List.set_cons_zero, List.set_cons_succ]
      refine anyK_take 18 (oi := ?oo29) ?ho29 (by kernel_rfl) (by kernel_rfl) (by kernel_rfl) (by kernel_rfl) ?hq29 ?hw29 hT0 (fun _ => trivial) (v := ?vv29) ?hy29 ?hk29
      case ho29 => (simp only [List.getElem?_toArray, List.getElem?_cons_succ, List.getElem?_cons_zero]; rfl)
      case hq29 => exact fun _ _ _ h => h
      case hw29 => rfl
      case hy29 =>
        intro W hW
        obtain ⟨z0, z1, z2, z3, z4, z5, z6, z7, z8, z9, z10, z11, z12, z13, z14, z15, z16⟩ := hW
        go_simp
        first | done | with_reducible rfl
      case hk29 =>
      try simp only [Act.put, List.setIfInBounds_toArray, List.set_cons_zero, List.set_cons_succ]
      refine anyK_take 19 (oi := ?oo30) ?ho30 (by kernel_rfl) (by kernel_rfl) (by kernel_rfl) (by kernel_rfl) ?hq30 ?hw30 hT0 (fun _ => trivial) (v := ?vv30) ?hy30 ?hk30
      case ho30 => (simp only [List.getElem?_toArray, List.getElem?_cons_succ, List.getElem?_cons_zero]; rfl)
      case hq30 => exact fun _ _ _ h => h
      case hw30 => rfl
      case hy30 =>
        intro W hW
        go_simp
        first | done | with_reducible rfl
      case hk30 =>
      try simp only [Act.put, List.setIfInBounds_toArray, List.set_cons_zero, List.set_cons_succ]
      refine anyK_take 23 (oi := ?oo31) ?ho31 (by kernel_rfl) (by kernel_rfl) (by kernel_rfl) (by kernel_rfl) ?hq31 ?hw31 hT0 (fun _ => trivial) (v := ?vv31) ?hy31 ?hk31
      case ho31 => (simp only [List.getElem?_toArray, List.getElem?_cons_succ, List.getElem?_cons_zero]; rfl)
      case hq31 => exact fun _ _ _ h => h
      case hw31 => rfl
      case hy31 =>
        intro W hW
        go_simp
        first | done | with_reducible rfl
      case hk31 =>
      try simp only [Act.put, List.setIfInBounds_toArray, List.set_cons_zero, List.set_cons_succ]
      refine anyK_take 24 (oi := ?oo32) ?ho32 (by kernel_rfl) (by kernel_rfl) (by kernel_rfl) (by kernel_rfl) ?hq32 ?hw32 hT0 (fun _ => trivial) (v := ?vv32) ?hy32 ?hk32
      case ho32 => (simp only [List.getElem?_toArray, List.getElem?_cons_succ, List.getElem?_cons_zero]; rfl)
      case hq32 => exact fun _ _ _ h => h
      case hw32 => rfl
      case hy32 =>
        intro W hW
        obtain ⟨z0, z1, z2, z3, z4, z5, z6, z7, z8, z9, z10, z11, z12, z13, z14, z15, z16⟩ := hW
        go_simp
        first | done | with_reducible rfl
      case hk32 =>
      try simp only [Act.put, List.setIfInBounds_toArray, List.set_cons_zero, List.set_cons_succ]
      refine anyK_on1 1 (by kernel_rfl) ?_
      refine anyK_one 1 (o := ?oo33) ?ho33 ?hk33
      case ho33 => (simp only [List.getElem?_toArray, List.getElem?_cons_succ, List.getElem?_cons_zero]; rfl)
      case hk33 =>
      intro K hK
      go_simp
      refine (HJN.out _ yy).mono ?_
      rintro e wi ⟨rfl, xx⟩
      try go_wp2_with fail
      replace yy := ext_trans yy xx
      have hT1 := keepK.out _ yy
      refine hK.out _ _ hT1 (fun _ => trivial) ?_
      clear hK K
      try simp only [Act.put, List.setIfInBounds_toArray, List.set_cons_zero, List.set_cons_succ]
      refine anyK_take 2 (oi := ?oo34) ?ho34 (by kernel_rfl) (by kernel_rfl) (by kernel_rfl) (by kernel_rfl) ?hq34 ?hw34 hT1 (fun _ => trivial) (v := ?vv34) ?hy34 ?hk34
      case ho34 => (simp only [List.getElem?_toArray, List.getElem?_cons_succ, List.getElem?_cons_zero]; rfl)
      case hq34 => exact fun _ _ _ h => h
      case hw34 => rfl
      case hy34 =>
        intro W hW
        go_simp
        first | done | with_reducible rfl
      case hk34 =>
      try simp only [Act.put, List.setIfInBounds_toArray, List.set_cons_zero, List.set_cons_succ]
      refine anyK_on1 7 (by kernel_rfl) ?_
      refine anyK_one 7 (o := ?oo35) ?ho35 ?hk35
      case ho35 => (simp only [List.getElem?_toArray, List.getElem?_cons_succ, List.getElem?_cons_zero]; rfl)
      case hk35 =>
      intro K hK
      go_simp
      refine (HH0.out _ yy).mono ?_
      rintro e wj ⟨rfl, xx⟩
      try go_wp2_with fail
      replace yy := ext_trans yy xx
      have hT2 := keepK.out _ yy
      refine hK.out _ _ hT2 (fun _ => trivial) ?_
      clear hK K
      try simp only [Act.put, List.setIfInBounds_toArray, List.set_cons_zero, List.set_cons_succ]
      refine anyK_take 8 (oi := ?oo36) ?ho36 (by kernel_rfl) (by kernel_rfl) (by kernel_rfl) (by kernel_rfl) ?hq36 ?hw36 hT2 (fun _ => trivial) (v := ?vv36) ?hy36 ?hk36
      case ho36 => (simp only [List.getElem?_toArray, List.getElem?_cons_succ, List.getElem?_cons_zero]; rfl)
      case hq36 => exact fun _ _ _ h => h
      case hw36 => rfl
      case hy36 =>
        intro W hW
        go_simp
        first | done | with_reducible rfl
      case hk36 =>
      try simp only [Act.put, List.setIfInBounds_toArray, List.set_cons_zero, List.set_cons_succ]
      refine anyK_take 9 (oi := ?oo37) ?ho37 (by kernel_rfl) (by kernel_rfl) (by kernel_rfl) (by kernel_rfl) ?hq37 ?hw37 hT2 (fun _ => trivial) (v := ?vv37) ?hy37 ?hk37
      case ho37 => (simp only [List.getElem?_toArray, List.getElem?_cons_succ, List.getElem?_cons_zero]; rfl)
      case hq37 => exact fun _ _ _ h => h
      case hw37 => rfl
      case hy37 =>
        intro W hW
        go_simp
        first | done | with_reducible rfl
      case hk37 =>
      try simp only [Act.put, List.setIfInBounds_toArray, List.set_cons_zero, List.set_cons_succ]
      refine anyK_on1 14 (by kernel_rfl) ?_
      refine anyK_one 14 (o := ?oo38) ?ho38 ?hk38
      case ho38 => (simp only [List.getElem?_toArray, List.getElem?_cons_succ, List.getElem?_cons_zero]; rfl)
      case hk38 =>
      intro K hK
      go_simp
      refine (HH1.out _ yy).mono ?_
      rintro e wk ⟨rfl, xx⟩
      try go_wp2_with fail
      replace yy := ext_trans yy xx
      have hT3 := keepK.out _ yy
      refine hK.out _ _ hT3 (fun _ => trivial) ?_
      clear hK K
      try simp only [Act.put, List.setIfInBounds_toArray, List.set_cons_zero, List.set_cons_succ]
      refine anyK_take 15 (oi := ?oo39) ?ho39 (by kernel_rfl) (by kernel_rfl) (by kernel_rfl) (by kernel_rfl) ?hq39 ?hw39 hT3 (fun _ => trivial) (v := ?vv39) ?hy39 ?hk39
      case ho39 => (simp only [List.getElem?_toArray, List.getElem?_cons_succ, List.getElem?_cons_zero]; rfl)
      case hq39 => exact fun _ _ _ h => h
      case hw39 => rfl
      case hy39 =>
        intro W hW
        go_simp
        first | done | with_reducible rfl
      case hk39 =>
      try simp only [Act.put, List.setIfInBounds_toArray, List.set_cons_zero, List.set_cons_succ]
      refine anyK_take 16 (oi := ?oo40) ?ho40 (by kernel_rfl) (by kernel_rfl) (by kernel_rfl) (by kernel_rfl) ?hq40 ?hw40 hT3 (fun _ => trivial) (v := ?vv40) ?hy40 ?hk40
      case ho40 => (simp only [List.getElem?_toArray, List.getElem?_cons_succ, List.getElem?_cons_zero]; rfl)
      case hq40 => exact fun _ _ _ h => h
      case hw40 => rfl
      case hy40 =>
        intro W hW
        go_simp
        first | done | with_reducible rfl
      case hk40 =>
      try simp only [Act.put, List.setIfInBounds_toArray, List.set_cons_zero, List.set_cons_succ]
      refine anyK_on1 20 (by kernel_rfl) ?_
      refine anyK_one 20 (o := ?oo41) ?ho41 ?hk41
      case ho41 => (simp only [List.getElem?_toArray, List.getElem?_cons_succ, List.getElem?_cons_zero]; rfl)
      case hk41 =>
      intro K hK
      go_simp
      refine (HI0.out _ yy).mono ?_
      rintro e wl ⟨rfl, xx⟩
      try go_wp2_with fail
      replace yy := ext_trans yy xx
      have hT4 := keepK.out _ yy
      refine hK.out _ _ hT4 (fun _ => trivial) ?_
      clear hK K
      try simp only [Act.put, List.setIfInBounds_toArray, List.set_cons_zero, List.set_cons_succ]
      refine anyK_take 21 (oi := ?oo42) ?ho42 (by kernel_rfl) (by kernel_rfl) (by kernel_rfl) (by kernel_rfl) ?hq42 ?hw42 hT4 (fun _ => trivial) (v := ?vv42) ?hy42 ?hk42
      case ho42 => (simp only [List.getElem?_toArray, List.getElem?_cons_succ, List.getElem?_cons_zero]; rfl)
      case hq42 => exact fun _ _ _ h => h
      case hw42 => rfl
      case hy42 =>
        intro W hW
        go_simp
        first | done | with_reducible rfl
      case hk42 =>
      try simp only [Act.put, List.setIfInBounds_toArray, List.set_cons_zero, List.set_cons_succ]
      refine anyK_take 22 (oi := ?oo43) ?ho43 (by kernel_rfl) (by kernel_rfl) (by kernel_rfl) (by kernel_rfl) ?hq43 ?hw43 hT4 (fun _ => trivial) (v := ?vv43) ?hy43 ?hk43
      case ho43 => (simp only [List.getElem?_toArray, List.getElem?_cons_succ, List.getElem?_cons_zero]; rfl)
      case hq43 => exact fun _ _ _ h => h
      case hw43 => rfl
      case hy43 =>
        intro W hW
        go_simp
        first | done | with_reducible rfl
      case hk43 =>
      try simp only [Act.put, List.setIfInBounds_toArray, List.set_cons_zero, List.set_cons_succ]
      refine anyK_on1 25 (by kernel_rfl) ?_
      refine anyK_one 25 (o := ?oo44) ?ho44 ?hk44
      case ho44 => (simp only [List.getElem?_toArray, List.getElem?_cons_succ, List.getElem?_cons_zero]; rfl)
      case hk44 =>
      intro K hK
      go_simp
      refine (HI1.out _ yy).mono ?_
      rintro e wm ⟨rfl, xx⟩
      try go_wp2_with fail
      replace yy := ext_trans yy xx
      have hT5 := keepK.out _ yy
      refine hK.out _ _ hT5 (fun _ => trivial) ?_
      clear hK K
      try simp only [Act.put, List.setIfInBounds_toArray, List.set_cons_zero, List.set_cons_succ]
      refine anyK_take 26 (oi := ?oo45) ?ho45 (by kernel_rfl) (by kernel_rfl) (by kernel_rfl) (by kernel_rfl) ?hq45 ?hw45 hT5 (fun _ => trivial) (v := ?vv45) ?hy45 ?hk45
      case ho45 => (simp only [List.getElem?_toArray, List.getElem?_cons_succ, List.getElem?_cons_zero]; rfl)
      case hq45 => exact fun _ _ _ h => h
      case hw45 => rfl
      case hy45 =>
        intro W hW
        go_simp
        first | done | with_reducible rfl
      case hk45 =>
      try simp only [Act.put, List.setIfInBounds_toArray, List.set_cons_zero, List.set_cons_succ]
      refine anyK_take 27 (oi := ?oo46) ?ho46 (by kernel_rfl) (by kernel_rfl) (by kernel_rfl) (by kernel_rfl) ?hq46 ?hw46 hT5 (fun _ => trivial) (v := ?vv46) ?hy46 ?hk46
      case ho46 => (simp only [List.getElem?_toArray, List.getElem?_cons_succ, List.getElem?_cons_zero]; rfl)
      case hq46 => exact fun _ _ _ h => h
      case hw46 => rfl
      case hy46 =>
        intro W hW
        go_simp
        first | done | with_reducible rfl
      case hk46 =>
      try simp only [Act.put, List.setIfInBounds_toArray, List.set_cons_zero, List.set_cons_succ]
      refine anyK_done (by kernel_rfl) ?_ _
      clear keepK hT0 hT1 hT2 hT3 hT4 hT5
      have XE := Lib.hid (ext_trans HXW.out yy)
      clear yy
      go_wp2
      go_ret
      rw [HF.out]
      exact ⟨rfl, XE.out⟩
end Go.Proofs.YtdoibgmmijhlfaaDoor
