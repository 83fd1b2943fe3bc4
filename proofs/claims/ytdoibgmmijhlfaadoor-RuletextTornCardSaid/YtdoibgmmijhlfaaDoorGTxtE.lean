/- append(row, make([]int, k)...) onto a row of the call's own. Plain lemmas. Walk: place.readHand. Walk: place.readHand. -/
import Derived.Test.YtdoibgmmijhlfaaDoorGTxtD
import Derived.Test.YtdoibgmmijhlfaaDoorGLibA
import Derived.Lib.AppendZeros
import Derived.Lib.AppendZerosOnto
import Derived.Test.YtdoibgmmijhlfaaDoorGTxtB
import Derived.Test.YtdoibgmmijhlfaaDoorGTxtA
import Derived.Laws.MakeOwn
namespace Go.Proofs.YtdoibgmmijhlfaaDoor
open Go.RowKit Go.Lib
set_option linter.unusedVariables false
theorem zeroCells_int (k : Nat) : Builtin.zeroCells (Value.cells (.int .i64 0)) k = (List.replicate k (Value.int .i64 0)).toArray := by
  apply Array.ext
  · simp [Builtin.zeroCells, Value.cells]
  · intro j h1 h2
    simp [Builtin.zeroCells, Value.cells, Nat.mod_one]
theorem run_zeros_own (w : World) (base n k : Nat) (v : Value) (xs : List Value) (ty : TypeId) (hown : w.ownsRow base 3 1 v n xs) (hk : n + k ≤ 1000000) (hbase : base ≤ w.heap.size) :
    ∃ v' w', (Builtin.append_ #[23, 3] ty #[v, .int .i64 (k : Int)]).run Tryd.prog w = .ok v' w' ∧ w'.ownsRow base 3 1 v' (n + k) (xs ++ List.replicate k (.int .i64 0)) ∧ w.grownBy w' v.ownBlock := by
  obtain ⟨i0, hi, hz, hs1, hb8⟩ := info_parts intInfo
  have ht := Tryd.underlying23
  have htn := Tryd.underlying3
  have hlen : (xs ++ List.replicate k (Value.int .i64 0)).length = (n + k) * 1 := by rw [List.length_append, hown.1, List.length_replicate]; omega
  have hw : IntKind.i64.wrap (k : Int) = k := by rw [IntKind.wrap_i64]; omega
  have hneg : ¬ ((k : Int) < 0) := by omega
  have h48i : ¬ (281474976710656 < (k : Int) * (i0.bytes : Int)) := by rw [hb8]; omega
  rcases hown.2 with ⟨rfl, rfl⟩ | ⟨g, cap, cur, rfl, hbg, hg, hnc, hcm, hcs, htake⟩
  · have hx : xs = [] := List.eq_nil_of_length_eq_zero (by simpa using hown.1)
    subst hx
    by_cases h0 : k = 0
    · subst h0
      refine ⟨.slice none 0 0, w, ?_, World.ownsRow_nil w base _ 1, ⟨rfl, rfl, rfl, Nat.le_refl _, fun _ _ _ => rfl⟩⟩
      simp [Builtin.append_, run_underlying ht, run_underlying htn, sizeOf, typeInfo, hi, asInt, asIntOf, IntKind.wrap_i64]
    · have hr := run_append_nil_zeros (P := Tryd.prog) w 23 3 ty 3 i0 (.int .i64 0) .i64 .i64 ht htn hi hz k (by omega) (by omega) (by omega) (by rw [hb8]; omega)
      have hge := grownCap_ge w k 0 3
      have hcm : grownCap w k 0 3 ≤ maxLen := grownCap_le_maxLen w k 0 _ (by simp only [maxLen]; omega)
      refine ⟨_, _, hr, ⟨hlen, .inr ⟨w.heap.size, _, _, by rw [Nat.zero_add], hbase, heap_alloc_new w.drew _, by omega, hcm, ?_, ?_⟩⟩, ⟨rfl, rfl, rfl, by simp, fun j hj _ => Below.heap_alloc w.drew _ _ hj⟩⟩
      · simp only [Array.size_append, size_zeroCells, Value.cells, List.size_toArray, List.length_singleton]
        simp
        omega
      · rw [zeroCells_int, Array.toList_append]
        simp
  · by_cases hroom : n + k ≤ cap
    · have hst := run_storeCells_at Tryd.prog g (n * 1) 3 (List.replicate k (Value.int .i64 0)) 0 cur w hg (by rw [List.length_replicate, hcs]; omega) (fun u hu => by rw [List.eq_of_mem_replicate hu]; rfl)
      simp only [Nat.add_zero] at hst
      have hr : (Builtin.append_ #[23, 3] ty #[.slice (some ⟨g, 0, none⟩) n cap, .int .i64 (k : Int)]).run Tryd.prog w = .ok (.slice (some ⟨g, 0, none⟩) (n + k) cap) (w.setRow g (cur.toList.take (n * 1) ++ List.replicate k (Value.int .i64 0) ++ cur.toList.drop (n * 1 + (List.replicate k (Value.int .i64 0)).length)).toArray) := by
        by_cases h0 : k = 0
        · subst h0
          simp only [List.replicate_zero] at hst
          simp [Builtin.append_, run_underlying ht, run_underlying htn, sizeOf, typeInfo, hi, hs1, asInt, asIntOf, IntKind.wrap_i64, hnc, Addr.add_lit]
          have hst2 : Sem.run Tryd.prog (storeCells ⟨g, 0 + n * 1, none⟩ []) w = Result.ok () (w.setRow g cur) := by simpa using hst
          simp only [Nat.zero_add, Nat.mul_one] at hst2
          simp [hst2]
        · have hns : ¬ (k * i0.size = 0) := by rw [hs1]; omega
          rw [hs1] at hns
          simp [Builtin.append_, run_underlying ht, run_underlying htn, sizeOf, typeInfo, zeroValue, hi, hz, hs1, asInt, asIntOf, hw, hneg, h48i, hroom, h0, zeroCells_int, Addr.add_lit]
          simp only [Nat.mul_one, List.length_replicate] at hst
          simp [hst]
      refine ⟨_, _, hr, ⟨hlen, .inr ⟨g, cap, _, rfl, hbg, setRow_heap w g cur _ _ _ hg, hroom, hcm, ?_, ?_⟩⟩, ⟨rfl, rfl, rfl, by simp, fun j hj hne => setRow_other w g j _ (fun e => hne (by simp [Value.ownBlock, e]))⟩⟩
      · simp only [List.size_toArray, List.length_append, List.length_take, List.length_drop, Array.length_toList, List.length_replicate]
        omega
      · rw [htake, ← hlen]
        exact List.take_left
    · have holds : ∀ j u, xs[j]? = some u → w.cell? ((⟨g, 0, none⟩ : Addr).add j) = some u := hown.cells (g := g) rfl
      have hf := run_firstCells_some (P := Tryd.prog) w.drew i0.size n ⟨g, 0, none⟩ n cap xs (by rw [hs1]; exact hown.1) holds
      have hr := run_append_grow_zeros (P := Tryd.prog) w 23 3 ty 3 i0 (.int .i64 0) .i64 .i64 ht htn hi hz (some ⟨g, 0, none⟩) n cap xs hf k (by omega) (by omega) (by omega) (by omega) (by rw [hb8]; omega) (by rw [hb8]; exact growslice_fits (by omega) (by omega))
      have hge := grownCap_ge w (n + k) cap 3
      have hcm : grownCap w (n + k) cap 3 ≤ maxLen := grownCap_le_maxLen w (n + k) cap _ (by simp only [maxLen]; omega)
      refine ⟨_, _, hr, ⟨hlen, .inr ⟨w.heap.size, _, _, rfl, hbase, heap_alloc_new w.drew _, hge, hcm, ?_, ?_⟩⟩, ⟨rfl, rfl, rfl, by simp, fun j hj _ => Below.heap_alloc w.drew _ _ hj⟩⟩
      · simp only [Array.size_append, size_zeroCells, Value.cells, List.size_toArray, hown.1]
        simp
        omega
      · rw [zeroCells_int, Array.toList_append, ← hlen, Array.toList_append]
        exact List.take_left
theorem wp_append_zeros {ops : Array Oper} {rest : List Oper} {o : Oper} {a : Act} {Q : Exit → Act → World → Prop} (s x : Operand) (hgd : o.guard = none)
    (ho : o.op = .call { callee := .builtin .append, args := #[s, x], argTypes := #[23, 3] }) (w0 w : World) (v : Value) (n k : Nat) (cs : List Value) (hs : a.eval s = v) (hown : OwnR 3 1 w0 w v n cs) (hx : a.eval x = .int .i64 (k : Int)) (hk : n + k ≤ 1000000) (hext : Ext w0 w)
    (h : ∀ v' w', OwnR 3 1 w0 w' v' (n + k) (cs ++ List.replicate k (.int .i64 0)) → Ext w0 w' → w.grownBy w' v.ownBlock → wpList Tryd.prog ops Q rest (a.put o.dst v') w') : wpList Tryd.prog ops Q (o :: rest) a w := by
  obtain ⟨A, c, rfl, hown⟩ := hown
  obtain ⟨v', w', hr, h2, h3⟩ := run_zeros_own w w0.heap.size n k _ cs o.type hown hk hext.size
  obtain ⟨A', c', rfl, _, _⟩ := own_shape h2
  exact Lib.wpList_append_run w hgd s x _ _ ho _ _ hs hx _ _ hr (h _ _ ⟨A', c', rfl, h2⟩ (ext_grown hext h3 (own_row hown)) h3)
end Go.Proofs.YtdoibgmmijhlfaaDoor
namespace Go.Proofs.YtdoibgmmijhlfaaDoor
open Go.RowKit
set_option linter.unusedVariables false
set_option linter.unusedSimpArgs false
theorem intInfoG : (Tryd.prog.info? 3).map (fun i => (i.zero, i.size, i.bytes)) = some (some (.int .i64 0), 1, 8) := by kernel_rfl
/-- make([]int, n). -/
theorem makeG (n : Nat) (h : n ≤ 1000) (w : World) : (Instr.makeSlice 23 (.int .i64 (n : Int)) (.int .i64 (n : Int))).run Tryd.prog w = .ok (.slice (some ⟨w.heap.size, 0, none⟩) n n) (w.alloc (.cells ((List.replicate n (0 : Int)).map (Value.int .i64)).toArray 3)) := by
  obtain ⟨i, hi, hz, hs, hb⟩ : ∃ i, Tryd.prog.info? 3 = some i ∧ i.zero = some (.int .i64 0) ∧ i.size = 1 ∧ i.bytes = 8 := by
    have h := intInfoG
    cases hi : Tryd.prog.info? 3 with
    | none => rw [hi] at h; cases h
    | some i =>
      rw [hi] at h
      simp only [Option.map_some, Option.some.injEq, Prod.mk.injEq] at h
      exact ⟨i, rfl, h.1, h.2.1, h.2.2⟩
  have hr := run_make (P := Tryd.prog) w 23 3 i (.int .i64 0) Tryd.underlying23 hi hz .i64 .i64 (n : Int) (n : Int) (by omega) (Int.le_refl _) (by rw [hb]; omega) (by omega)
  rw [hr, hs]
  have e : madeCells (Value.int .i64 0).cells (n * 1) = ((List.replicate n (0 : Int)).map (Value.int .i64)).toArray := by
    apply Array.ext
    · simp [madeCells]
    · intro j h1 h2
      simp [madeCells, Value.cells, Nat.mod_one]
  simp only [Int.toNat_natCast]
  rw [e]
theorem drop_len (s : BL) : (s.dropWhile digU).length ≤ s.length := (List.dropWhile_sublist digU).length_le
theorem numR_len (s : BL) : (numR s).2.length ≤ s.length := by
  unfold numR
  split
  · exact drop_len s
  · exact Nat.le_refl _
theorem numR_less {s : BL} (h : 0 ≤ (numR s).1) : (numR s).2.length < s.length := by
  cases s with
  | nil => exact absurd h (by decide)
  | cons b r =>
    by_cases hb : digU b = true
    · unfold numR
      split
      · rw [List.dropWhile_cons, if_pos hb]
        exact Nat.lt_succ_of_le (drop_len r)
      · rename_i hx
        exfalso
        unfold numR at h
        split at h
        · rename_i v hv
          exact hx v hv
        · exact absurd h (show ¬ (0 : Int) ≤ -1 by omega)
    · have hn : NoDig (b :: r) := fun c q e => by
        injection e with e _
        rw [← e]
        exact Bool.not_eq_true _ ▸ hb
      rw [numR_no hn] at h
      exact absurd h (show ¬ (0 : Int) ≤ -1 by omega)
theorem readHand_succ (ps : List PieceM) (f : Nat) (out : List Int) (s : BL) : readHandR ps (f + 1) out s = if s = [] ∨ s = [45] then out
    else match s with
      | [] => out
      | b :: r => if pieceK ps b < 0 ∨ (numR r).1 < 0 then [] else readHandR ps f (out.set (pieceK ps b).toNat (numR r).1) (numR r).2 := by cases s <;> rfl
theorem hand_fuel (ps : List PieceM) : ∀ (f g : Nat) (out : List Int) (s : BL), s.length + 1 ≤ f → s.length + 1 ≤ g → readHandR ps f out s = readHandR ps g out s
  | 0, _, _, _, h, _ => by omega
  | _, 0, _, _, _, h => by omega
  | f + 1, g + 1, out, s, hf, hg => by
    rw [readHand_succ, readHand_succ]
    split
    · rfl
    · cases s with
      | nil => rfl
      | cons b r =>
        have := numR_len r
        rw [List.length_cons] at hf hg
        exact congrArg (fun X => if pieceK ps b < 0 ∨ (numR r).1 < 0 then [] else X) (hand_fuel ps f g _ (numR r).2 (by omega) (by omega))
theorem row_fuel (ps : List PieceM) (W : Nat) : ∀ (f g : Nat) (out : List Int) (s : BL), s.length + 1 ≤ f → s.length + 1 ≤ g → readRowR ps W f out s = readRowR ps W g out s
  | 0, _, _, _, h, _ => by omega
  | _, 0, _, _, _, h => by omega
  | f + 1, g + 1, out, s, hf, hg => by
    rw [readRow_succ, readRow_succ]
    split
    · rfl
    · split
      · rename_i h
        have := numR_less h
        exact row_fuel ps W f g _ _ (by omega) (by omega)
      · cases s with
        | nil => rfl
        | cons b r =>
          rw [List.length_cons] at hf hg
          exact congrArg (fun X => if pieceK ps (if 97 ≤ b.toNat then b - 32 else b) < 0 then [] else X) (row_fuel ps W f g _ r (by omega) (by omega))
end Go.Proofs.YtdoibgmmijhlfaaDoor
namespace Go.Proofs.YtdoibgmmijhlfaaDoor
open Go.RowKit
set_option linter.unusedVariables false
set_option linter.unusedSimpArgs false
def strLen : Value → Nat
  | .string x => x.size
  | _ => 0
theorem empty_is : (strU []).toList.isEmpty = true := by rw [Lib.toList_data]; rfl
theorem empty_not (b : UInt8) (r : BL) : (strU (b :: r)).toList.isEmpty = false := by rw [Lib.toList_data, strU_data]; rfl
theorem str_is (s t : BL) : ((strU s).toList == t) = decide (s = t) := by
  rw [Lib.toList_data, strU_data]
  by_cases h : s = t
  · subst h; simp
  · rw [decide_eq_false h]; exact beq_eq_false_iff_ne.2 h
theorem IntsAt.blk {w : World} {g : Nat} {L : List Int} (h : Blk w g 3 (L.map (Value.int .i64)).toArray) : IntsAt w (some ⟨g, 0, none⟩) L := by
  intro i hi
  refine ⟨g, 0, rfl, ?_⟩
  rw [Nat.zero_add, h.cell]
  simp [hi, List.getD_eq_getElem?_getD]
theorem pieceK_rng (ps : List PieceM) (b : UInt8) : -1 ≤ pieceK ps b ∧ pieceK ps b < (ps.length : Int) := by
  unfold pieceK
  split
  · rename_i k hk
    have := (List.findIdx?_eq_some_iff_getElem.1 hk).1
    omega
  · omega
set_option maxHeartbeats 4000000 in
set_option maxRecDepth 100000 in
theorem readHand_any (R : RulesM) (v : Value) (s : BL) (w : World) (hR : RulesAt w v R) (h6 : R.pieces.length ≤ 6) (hs : s.length ≤ 8192) (hw : LibW w) :
    Calls Tryd.prog 27 #[v, .string (strU s)] w fun e w' => (∃ A c, e = .returned (.slice A (readHandR R.pieces (s.length + 1) (List.replicate R.pieces.length 0) s).length c) ∧ (readHandR R.pieces (s.length + 1) (List.replicate R.pieces.length 0) s).length ≤ c ∧ IntsAt w' A (readHandR R.pieces (s.length + 1) (List.replicate R.pieces.length 0) s) ∧ ∀ a, A = some a → w.heap.size ≤ a.block) ∧ Ext w w' := by
  have HPI := Lib.hid (fun W (x : Ext w W) (b : UInt8) => piece_any R v b W (hR.ext x) h6)
  have HNU := Lib.hid (fun W (x : Ext w W) (r : BL) (hr : r.length ≤ 8192) => number_any r hr W (hw.ext x))
  obtain ⟨pA, pc, sA, sc, eA, ec, rfl, hp, -⟩ := hR
  obtain ⟨ps, hps⟩ : ∃ ps, ps = R.pieces := ⟨_, rfl⟩
  rw [← hps] at HPI h6 ⊢
  obtain ⟨n, hn⟩ : ∃ n, ps.length = n := ⟨_, rfl⟩
  rw [hn] at HPI h6 ⊢
  have HN := Lib.hid hn
  have hmk := makeG n (by omega)
  generalize hRES : readHandR ps (s.length + 1) (List.replicate n 0) s = RES
  have HRES := Lib.hid hRES
  have HS := Lib.hid hs
  obtain ⟨xa, k1⟩ := blks1 w #[.string R.name, .int .i64 R.width, .int .i64 R.height, .slice pA n pc, .slice sA R.start.length sc, .bool R.falls, .bool R.keeps, .slice eA R.ends.length ec, .int .i64 R.blocked, .int .i64 R.quiet, .int .i64 R.rept] 26
  clear hRES hs hp hw hn hps
  go_enter Tryd.func27, Tryd.ntmps27
  go_upto_region 1 with fail
  generalize hwA : w.alloc _ = wA at *
  have hsz : wA.heap.size = w.heap.size + 1 := by rw [← hwA]; simp
  clear hwA
  obtain ⟨xb, k2⟩ := blks1 wA (Array.replicate n (Value.int .i64 0)) 3
  have hc3 := k1.cell 3
  simp only [List.getElem?_toArray, List.getElem?_cons_succ, List.getElem?_cons_zero] at hc3
  go_wp2_with fail
  clear hmk hc3
  rw [hsz] at k2
  have k0 := k1.ext xb
  have x3 : Ext w _ := ext_trans xa xb
  obtain ⟨B, hB⟩ : ∃ B, B = w.heap.size := ⟨_, rfl⟩
  have h0B : Below B w (wA.alloc (.cells (Array.replicate n (Value.int .i64 0)) 3)) := by rw [hB]; exact x3
  rw [← hB] at k0 k2 ⊢
  try rw [hsz, ← hB]
  obtain ⟨G, hG⟩ : ∃ G, G = B + 1 := ⟨_, rfl⟩
  rw [← hG] at k2 ⊢
  generalize wA.alloc (.cells (Array.replicate n (Value.int .i64 0)) 3) = w3 at *
  have HBW := Lib.hid hB
  have HBG := Lib.hid (show B + 1 ≤ G by omega)
  have K0 := Lib.hid k0
  have KG := Lib.hid k2
  have X3 := Lib.hid h0B
  clear hB hG k0 k2 h0B x3 xb xa k1 hsz
  go_loopw [1] (fun sv wr => ∃ (s' : BL) (L' : List Int), sv = .string (strU s') ∧ s'.length ≤ s.length ∧ L'.length = n ∧ readHandR ps (s'.length + 1) L' s' = RES ∧ Blk wr G 3 (L'.map (Value.int .i64)).toArray ∧ Below (B + 1) w3 wr) (fun sv _ => strLen sv)
  case atStart => exact ⟨s, List.replicate n 0, rfl, Nat.le_refl _, by simp, HRES.out, by rw [show ((List.replicate n (0 : Int)).map (Value.int .i64)).toArray = Array.replicate n (Value.int .i64 0) by simp]; exact KG.out, Below.refl _ _⟩
  case round =>
    obtain ⟨s', L', rfl, h1, h2, h3, kG, hx⟩ := hrel
    have HX := Lib.hid hx
    have HXW := Lib.hid (show Ext w wr by
      have h1 := X3.out
      rw [HBW.out] at h1 hx
      exact h1.trans ⟨hx.os, hx.tape, hx.output, hx.size, fun b hb => hx.block b (by omega)⟩)
    have HB0 := Lib.hid (show Blk wr B 26 _ from (hx.block B (by omega)).trans K0.out)
    have HGI := Lib.hid (IntsAt.blk kG)
    have HL2 := Lib.hid h2
    cases s' with
    | nil =>
      have e1 := empty_is
      have e2 : RES = L' := h3.symm
      clear h1 h3 kG hx h2
      go_wp2
      go_ret
      subst e2
      exact ⟨⟨_, n, by rw [HL2.out]; rfl, by rw [HL2.out]; exact Nat.le_refl _, HGI.out, fun a ha => by injection ha with ha; subst ha; have h1 := HBW.out; have h2 := HBG.out; simp only; omega⟩, HXW.out⟩
    | cons b r =>
      have e1 := empty_not b r
      have e3 := str_is (b :: r) [45]
      by_cases h45 : b :: r = [45]
      · rw [decide_eq_true h45] at e3
        rw [readHand_succ, if_pos (.inr h45)] at h3
        have e2 : RES = L' := h3.symm
        clear h1 h3 kG hx h2 h45
        go_wp2
        go_ret
        subst e2
        exact ⟨⟨_, n, by rw [HL2.out]; rfl, by rw [HL2.out]; exact Nat.le_refl _, HGI.out, fun a ha => by injection ha with ha; subst ha; have h1 := HBW.out; have h2 := HBG.out; simp only; omega⟩, HXW.out⟩
      · rw [decide_eq_false h45] at e3
        rw [readHand_succ, if_neg (fun h => h.elim (fun h => by cases h) h45)] at h3
        replace h3 : (if pieceK ps b < 0 ∨ (numR r).1 < 0 then [] else readHandR ps (r.length + 1) (L'.set (pieceK ps b).toNat (numR r).1) (numR r).2) = RES := h3
        have hsz := strU_size (b :: r)
        have hib : ∀ h : 0 < (strU (b :: r)).size, ((strU (b :: r))[0]'h).toNat = b.toNat := fun h => strU_get rfl h
        have hdr : (strU (b :: r)).extract 1 (strU (b :: r)).size = strU r := strU_drop (b :: r) 1
        rw [hsz] at hdr
        have H3 := Lib.hid h3
        have H1 := Lib.hid h1
        have KG2 := Lib.hid kG
        clear h3 h1 kG hx h2 h45 HGI
        have hlen1 : (0 : Int) < ((b :: r).length : Int) := by rw [List.length_cons]; omega
        go_upto_region 3 with fail
        clear e1 e3
        have HSZ2 := Lib.hid hsz
        have hm0 : (0 : Int) < ((strU (b :: r)).size : Int) := by rw [hsz]; exact hlen1
        have hm2 : (1 : Int) ≤ ((strU (b :: r)).size : Int) := by omega
        have hm3 : 0 < (strU (b :: r)).size := by omega
        have hm4 : 1 ≤ (strU (b :: r)).size := by omega
        rw [← hsz] at hdr
        clear hlen1 hsz
        generalize strU (b :: r) = S at *
        have keepK := hide (fun W (h : Ext wr W) => (show (fun W => W.cell? ⟨B, 0, none⟩ = some (.string R.name) ∧ W.cell? ⟨B, 1, none⟩ = some (.int .i64 R.width) ∧ W.cell? ⟨B, 2, none⟩ = some (.int .i64 R.height) ∧ W.cell? ⟨B, 3, none⟩ = some (.slice pA n pc) ∧ W.cell? ⟨B, 4, none⟩ = some (.slice sA R.start.length sc) ∧ W.cell? ⟨B, 5, none⟩ = some (.bool R.falls) ∧ W.cell? ⟨B, 6, none⟩ = some (.bool R.keeps) ∧ W.cell? ⟨B, 7, none⟩ = some (.slice eA R.ends.length ec) ∧ W.cell? ⟨B, 8, none⟩ = some (.int .i64 R.blocked) ∧ W.cell? ⟨B, 9, none⟩ = some (.int .i64 R.quiet) ∧ W.cell? ⟨B, 10, none⟩ = some (.int .i64 R.rept) ∧ Ext wr W) W from ⟨(HB0.out.ext h).cell 0, (HB0.out.ext h).cell 1, (HB0.out.ext h).cell 2, (HB0.out.ext h).cell 3, (HB0.out.ext h).cell 4, (HB0.out.ext h).cell 5, (HB0.out.ext h).cell 6, (HB0.out.ext h).cell 7, (HB0.out.ext h).cell 8, (HB0.out.ext h).cell 9, (HB0.out.ext h).cell 10, h⟩))
        have yy : Ext wr wr.drew := Below.drew (Below.refl _ _)
        refine region_K (fun W => W.cell? ⟨B, 0, none⟩ = some (.string R.name) ∧ W.cell? ⟨B, 1, none⟩ = some (.int .i64 R.width) ∧ W.cell? ⟨B, 2, none⟩ = some (.int .i64 R.height) ∧ W.cell? ⟨B, 3, none⟩ = some (.slice pA n pc) ∧ W.cell? ⟨B, 4, none⟩ = some (.slice sA R.start.length sc) ∧ W.cell? ⟨B, 5, none⟩ = some (.bool R.falls) ∧ W.cell? ⟨B, 6, none⟩ = some (.bool R.keeps) ∧ W.cell? ⟨B, 7, none⟩ = some (.slice eA R.ends.length ec) ∧ W.cell? ⟨B, 8, none⟩ = some (.int .i64 R.blocked) ∧ W.cell? ⟨B, 9, none⟩ = some (.int .i64 R.quiet) ∧ W.cell? ⟨B, 10, none⟩ = some (.int .i64 R.rept) ∧ Ext wr W) (fun _ => True) [] (by kernel_rfl) ?_
        have hT0 := keepK.out _ yy
        refine anyK_take 0 (oi := ?oo1) ?ho1 (by kernel_rfl) (by kernel_rfl) (by kernel_rfl) (by kernel_rfl) ?hq1 ?hw1 hT0 (fun _ => trivial) (v := ?vv1) ?hy1 ?hk1
        case ho1 => (simp only [List.getElem?_toArray, List.getElem?_cons_succ, List.getElem?_cons_zero]; rfl)
        case hq1 => exact fun _ _ _ h => h
        case hw1 => rfl
        case hy1 =>
          intro W hW
          obtain ⟨z0, z1, z2, z3, z4, z5, z6, z7, z8, z9, z10, z11⟩ := hW
          go_simp
          first | done | with_reducible rfl
        case hk1 =>
        try simp only [Act.put, List.setIfInBounds_toArray, List.set_cons_zero, List.set_cons_succ]
        refine anyK_take 1 (oi := ?oo2) ?ho2 (by kernel_rfl) (by kernel_rfl) (by kernel_rfl) (by kernel_rfl) ?hq2 ?hw2 hT0 (fun _ => trivial) (v := ?vv2) ?hy2 ?hk2
        case ho2 => (simp only [List.getElem?_toArray, List.getElem?_cons_succ, List.getElem?_cons_zero]; rfl)
        case hq2 => exact fun _ _ _ h => h
        case hw2 => rfl
        case hy2 =>
          intro W hW
          go_simp
          first | done | with_reducible rfl
        case hk2 =>
        try simp only [Act.put, List.setIfInBounds_toArray, List.set_cons_zero, List.set_cons_succ]
        refine anyK_take 2 (oi := ?oo3) ?ho3 (by kernel_rfl) (by kernel_rfl) (by kernel_rfl) (by kernel_rfl) ?hq3 ?hw3 hT0 (fun _ => trivial) (v := ?vv3) ?hy3 ?hk3
        case ho3 => (simp only [List.getElem?_toArray, List.getElem?_cons_succ, List.getElem?_cons_zero]; rfl)
        case hq3 => exact fun _ _ _ h => h
        case hw3 => rfl
        case hy3 =>
          intro W hW
          go_simp
          first | done | with_reducible rfl
        case hk3 =>
        try simp only [Act.put, List.setIfInBounds_toArray, List.set_cons_zero, List.set_cons_succ]
        refine anyK_on1 3 (by kernel_rfl) ?_
        refine anyK_one 3 (o := ?oo4) ?ho4 ?hk4
        case ho4 => (simp only [List.getElem?_toArray, List.getElem?_cons_succ, List.getElem?_cons_zero]; rfl)
        case hk4 =>
        intro K hK
        go_simp
        refine (HPI.out _ (ext_trans HXW.out yy) b).mono ?_
        rintro e wi ⟨rfl, xx⟩
        try go_wp2_with fail
        replace yy := ext_trans yy xx
        have hT1 := keepK.out _ yy
        refine hK.out _ _ hT1 (fun _ => trivial) ?_
        clear hK K
        try simp only [Act.put, List.setIfInBounds_toArray, List.set_cons_zero, List.set_cons_succ]
        refine anyK_take 4 (oi := ?oo5) ?ho5 (by kernel_rfl) (by kernel_rfl) (by kernel_rfl) (by kernel_rfl) ?hq5 ?hw5 hT1 (fun _ => trivial) (v := ?vv5) ?hy5 ?hk5
        case ho5 => (simp only [List.getElem?_toArray, List.getElem?_cons_succ, List.getElem?_cons_zero]; rfl)
        case hq5 => exact fun _ _ _ h => h
        case hw5 => rfl
        case hy5 =>
          intro W hW
          go_simp
          first | done | with_reducible rfl
        case hk5 =>
        try simp only [Act.put, List.setIfInBounds_toArray, List.set_cons_zero, List.set_cons_succ]
        refine anyK_done (by kernel_rfl) ?_ _
        clear keepK hT0 hT1
        have XI := Lib.hid (ext_trans HXW.out yy)
        have KGI := Lib.hid (KG2.out.ext yy)
        have HXI := Lib.hid (show Below (B + 1) w3 wi from HX.out.trans ⟨yy.os, yy.tape, yy.output, yy.size, fun b hb => yy.block b (by have := Blk.lt KG2.out; have := HBG.out; omega)⟩)
        clear yy xx HX HXW KG2 HB0 hib
        go_wp2_with fail
        try rw [hdr]
        refine (HNU.out _ XI.out r (by have h1 := H1.out; have h2 := HS.out; rw [List.length_cons] at h1; omega)).mono ?_
        rintro e w5 ⟨rfl, x5⟩
        have X5 := Lib.hid (ext_trans XI.out x5)
        have KG5 := Lib.hid (KGI.out.ext x5)
        have HX5 := Lib.hid (show Below (B + 1) w3 w5 from HXI.out.trans ⟨x5.os, x5.tape, x5.output, x5.size, fun b hb => x5.block b (by have := Blk.lt KGI.out; have := HBG.out; omega)⟩)
        clear x5 XI KGI HXI hdr
        have hrg := pieceK_rng ps b
        rw [HN.out] at hrg
        have HNL := Lib.hid (numR_len r)
        generalize pieceK ps b = K at *
        generalize hM : (numR r).1 = M at *
        generalize hT : (numR r).2 = T at *
        clear hM hT
        by_cases hK : K < 0
        · have t1 : decide (K < 0) = true := decide_eq_true hK
          have e2 : RES = [] := by have h := H3.out; rw [if_pos (.inl hK)] at h; exact h.symm
          clear hrg hK
          go_wp2
          go_ret
          subst e2
          exact ⟨⟨none, 0, rfl, Nat.le_refl _, fun i hi => by simp at hi, fun a ha => by cases ha⟩, X5.out⟩
        · have t1 : decide (K < 0) = false := decide_eq_false hK
          by_cases hM : M < 0
          · have t2 : decide (M < 0) = true := decide_eq_true hM
            have e2 : RES = [] := by have h := H3.out; rw [if_pos (.inr hM)] at h; exact h.symm
            clear hrg hK hM
            go_wp2
            go_ret
            subst e2
            exact ⟨⟨none, 0, rfl, Nat.le_refl _, fun i hi => by simp at hi, fun a ha => by cases ha⟩, X5.out⟩
          · have t2 : decide (M < 0) = false := decide_eq_false hM
            have H4 := Lib.hid (show readHandR ps (r.length + 1) (L'.set K.toNat M) T = RES by have h := H3.out; rw [if_neg (by omega)] at h; exact h)
            obtain ⟨q, rfl⟩ := Int.eq_ofNat_of_zero_le (show 0 ≤ K by omega)
            rw [Int.toNat_natCast] at H4
            have i1 : (q : Int) < (n : Int) := hrg.2
            have hq : q < n := by omega
            have hfG := KG5.out.frozen q
            have hcG : w5.cell? ⟨G, q, none⟩ = some (.int .i64 (L'.getD q 0)) := by
              have := HL2.out
              rw [KG5.out.cell]
              simp [show q < L'.length by omega, List.getD_eq_getElem?_getD]
            generalize L'.getD q 0 = old at hcG
            have R1 := Lib.hid (KG5.out.set_ q (.int .i64 M))
            have R2 := Lib.hid (Below.setCell HX5.out (p := ⟨G, q, none⟩) HBG.out (.int .i64 M))
            clear hrg hK hM
            go_wp2
            go_roundw
            case rel => exact ⟨T, L'.set q M, rfl, by have := H1.out; have := HNL.out; rw [List.length_cons] at *; omega, by rw [List.length_set]; exact HL2.out, by rw [hand_fuel ps _ (r.length + 1) _ _ (Nat.le_refl _) (by have := HNL.out; omega)]; exact H4.out, by have h := R1.out; simpa [List.map_set] using h, R2.out⟩
            case measure => have := HNL.out; have := HSZ2.out; simp only [strLen, strU_size, List.length_cons] at *; omega
end Go.Proofs.YtdoibgmmijhlfaaDoor
