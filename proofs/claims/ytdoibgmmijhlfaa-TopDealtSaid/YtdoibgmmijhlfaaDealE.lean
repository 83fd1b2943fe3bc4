/- Walk: cards.Deal of a deck to four players, five cards each. -/
import Derived.Test.YtdoibgmmijhlfaaDealD
import Derived.Test.YtdoibgmmijhlfaaDealC
import Derived.Test.YtdoibgmmijhlfaaConcatN
import Derived.Test.YtdoibgmmijhlfaaBlks
import Derived.Maps.AppendAt
import Derived.Test.YtdoibgmmijhlfaaRegionK
namespace Go.Proofs.Ytdoibgmmijhlfaa
open Go.ChangeShapes Go.WideShapes Go.ChangeAt Go.RowKit Go.Shelf
set_option linter.unusedVariables false
set_option linter.unusedSimpArgs false
/-- The slice v' lies where v lay, or in a new block. -/
def LiesZ (v v' : Value) (w : World) : Prop := ∀ b, b < w.heap.size → v.ownBlock ≠ some b → v'.ownBlock ≠ some b
/-- Two rows in different blocks. -/
def DistZ (v u : Value) : Prop := ∀ b, u.ownBlock = some b → v.ownBlock ≠ some b
theorem DistZ.symm {v u : Value} (h : DistZ v u) : DistZ u v := fun b hb hu => h b hu hb
theorem OwnZ.ltb {w0 w : World} {v : Value} {xs : List Int} (h : OwnZ w0 w v xs) {b : Nat} (hb : v.ownBlock = some b) : b < w.heap.size := by
  obtain ⟨A, c, rfl, o⟩ := h
  exact (o.lt b hb).2
theorem OwnZ.grownZ {w0 w W : World} {v u : Value} {xs : List Int} (h : OwnZ w0 w v xs) (g : w.grownBy W u.ownBlock) (hd : DistZ u v) : OwnZ w0 W v xs := by
  obtain ⟨A, c, rfl, o⟩ := h
  refine ⟨A, c, rfl, o.1, o.2.imp id fun ⟨b, cap, cur, e1, h2, h3, h4⟩ => ⟨b, cap, cur, e1, h2, ?_, h4⟩⟩
  refine (g.block b (Array.getElem?_eq_some_iff.1 h3).1 (fun e => hd b (by rw [e1]; rfl) e.symm)).trans h3
theorem OwnZ.setFar {w0 w : World} {v : Value} {xs : List Int} {g : Nat} {t : TypeId} {cs : Array Value} (h : OwnZ w0 w v xs) (hg : Blk w g t cs) (ht : 3 ≠ t) (i : Nat) (u : Value) : OwnZ w0 (w.setCell ⟨g, i, none⟩ u) v xs := by
  obtain ⟨A, c, rfl, o⟩ := h
  exact ⟨A, c, rfl, own_set o (own_blk_ne o hg ht) u⟩
set_option maxHeartbeats 1000000 in
theorem oper_append_z2 {o : Oper} {a : Act} {K : Act → World → Prop} {Q : Exit → Act → World → Prop} (s x : Operand)
    (ho : o.op = .call { callee := .builtin .append, args := #[s, x], argTypes := #[23, 23] }) (w0 w : World) (v : Value) (xs : List Int) (z : Int) (hs : a.eval s = v) (hown : OwnZ w0 w v xs) (hx : a.eval x = .slice (some ⟨w.heap.size, 0, none⟩) 1 1)
    (hext : Ext w0 w) (hlen : xs.length ≤ 1000000) (h : ∀ v' w', OwnZ w0 w' v' (xs ++ [z]) → Ext w0 w' → w.grownBy w' v.ownBlock → LiesZ v v' w → K (a.put o.dst v') w') :
    Oper.wp Try.prog o a (w.alloc (.cells #[.int .i64 z] 3)) K Q := by
  obtain ⟨A, c, rfl, hown⟩ := hown
  obtain ⟨i0, hi, hz0, hz1, hz2⟩ := info_parts intInfoZ
  have hsz := hext.size
  have hcells : ∀ j u, ([.int .i64 z] : List Value)[j]? = some u → (w.alloc (.cells #[.int .i64 z] 3)).cell? ((⟨w.heap.size, 0, none⟩ : Addr).add j) = some u := cell_one_new _ _ _
  obtain ⟨v', w', hrun, h2, h3, -, h5⟩ := run_append_own_at (P := Try.prog) _ w0.heap.size 23 o.type 3 i0 (.int .i64 0) 1 8 Try.underlying23 hi hz0 hz1 hz2 rfl (by decide) _ xs.length (xs.map (Value.int .i64)) (own_ext hown (ext_alloc (Below.refl _ _) _)) ⟨w.heap.size, 0, none⟩ 1 1 [.int .i64 z] rfl hcells (by simp [Value.oneCell']) (by simp only [maxLen]; omega) (by omega) (by simp; omega)
  unfold Oper.wp execOp
  simp only [ho, resolve, invoke, builtin, Sem.run_bind, Sem.run_pure, Result.andThen_ok, List.map_toArray, List.map_cons, List.map_nil, hs, hx, hrun]
  have hli : LiesZ (.slice A xs.length c) v' w := fun b hb hn => by
    rcases h5 with h5 | h5
    · rw [h5]; exact hn
    · rw [h5]; simp; omega
  have hg : w.grownBy w' (Value.slice A xs.length c).ownBlock := ⟨h3.os, h3.tape, h3.output, by have := h3.size; simp at this; omega, fun b hb hn => by
    rw [h3.block b (by simp; omega) hn]
    exact Below.heap_alloc w _ b hb⟩
  obtain ⟨A', c', rfl, _, _⟩ := own_shape h2
  exact h _ w' ⟨A', c', by simp, by simpa using h2⟩ (ext_grown (ext_alloc hext _) h3 (own_row hown)) hg hli
theorem rowInfoD : (Try.prog.info? 23).map (fun i => (i.zero, i.size, i.bytes)) = some (some (.slice none 0 0), 1, 24) := by kernel_rfl
/-- make([][]int, n). -/
theorem makeR (n : Nat) (h : n ≤ 1000) (w : World) : (Instr.makeSlice 52 (.int .i64 (n : Int)) (.int .i64 (n : Int))).run Try.prog w = .ok (.slice (some ⟨w.heap.size, 0, none⟩) n n) (w.alloc (.cells (Array.replicate n (Value.slice none 0 0)) 23)) := by
  obtain ⟨i, hi, hz, hs, hb⟩ := info_parts rowInfoD
  have hr := run_make (P := Try.prog) w 52 23 i (.slice none 0 0) Try.underlying52 hi hz .i64 .i64 (n : Int) (n : Int) (by omega) (Int.le_refl _) (by rw [hb]; omega) (by omega)
  rw [hr, hs]
  have e : madeCells (Value.slice none 0 0).cells (n * 1) = Array.replicate n (Value.slice none 0 0) := by
    apply Array.ext
    · simp [madeCells]
    · intro j h1 h2
      simp [madeCells, Value.cells, Nat.mod_one]
  simp only [Int.toNat_natCast]
  rw [e]
/-- Four hands in memory: the first t cards are given. -/
def HandsAt (w W : World) (h : Nat) (zs : List Int) (t : Nat) (vs : List Value) : Prop :=
  Blk W h 23 vs.toArray ∧ vs.length = 4 ∧ (∀ j, j < 4 → OwnZ w W (vs.getD j .nilIface) (dealt zs t j)) ∧ (∀ j k, j < 4 → k < 4 → j ≠ k → DistZ (vs.getD j .nilIface) (vs.getD k .nilIface)) ∧ Ext w W ∧ w.heap.size ≤ h
theorem hands_step {w W W' : World} {h : Nat} {zs : List Int} {t i : Nat} {vs : List Value} {v' : Value} {z : Int} (H : HandsAt w W h zs t vs) (hi : i = t % 4) (hz : zs.getD t 0 = z)
    (ho : OwnZ w W' v' (dealt zs t i ++ [z])) (hx : Ext w W') (hg : W.grownBy W' (vs.getD i .nilIface).ownBlock) (hl : LiesZ (vs.getD i .nilIface) v' W) : HandsAt w (W'.setCell ⟨h, i, none⟩ v') h zs (t + 1) (vs.set i v') := by
  obtain ⟨hb, h4, hO, hD, -, hlow⟩ := H
  have hi4 : i < 4 := by omega
  have hbh : some h ≠ (vs.getD i .nilIface).ownBlock := by
    obtain ⟨A, c, e, o⟩ := hO i hi4
    rw [e]
    exact (own_blk_ne o hb (by decide)).symm
  have hb' : Blk W' h 23 vs.toArray := hb.grown hg hbh
  have hgd : ∀ j, j < 4 → (vs.set i v').getD j .nilIface = if j = i then v' else vs.getD j .nilIface := fun j hj => by
    rw [List.getD_eq_getElem?_getD, List.getElem?_set]
    by_cases e : j = i
    · subst e
      rw [if_pos rfl, if_pos rfl, if_pos (by omega)]
      rfl
    · rw [if_neg (fun k => e k.symm), if_neg e, List.getD_eq_getElem?_getD]
  refine ⟨?_, by simpa using h4, fun j hj => ?_, fun j k hj hk hjk => ?_, ext_set hx (p := ⟨h, i, none⟩) hlow v', hlow⟩
  · have := hb'.set_ i v'
    rwa [List.setIfInBounds_toArray] at this
  · rw [hgd j hj, dealt_succ]
    by_cases e : j = i
    · rw [if_pos e, if_pos (by omega), e, hz]
      exact ho.setFar hb' (by decide) i v'
    · rw [if_neg e, if_neg (by omega), List.append_nil]
      exact ((hO j hj).grownZ hg (hD i j hi4 hj (fun k => e k.symm))).setFar hb' (by decide) i v'
  · rw [hgd j hj, hgd k hk]
    have key : ∀ q, q < 4 → q ≠ i → DistZ v' (vs.getD q .nilIface) := fun q hq hqi b hbq => hl b ((hO q hq).ltb hbq) (hD i q hi4 hq (fun e => hqi e.symm) b hbq)
    by_cases e1 : j = i
    · rw [if_pos e1, if_neg (fun e2 => hjk (e1.trans e2.symm))]
      exact key k hk (fun e2 => hjk (e1.trans e2.symm))
    · by_cases e2 : k = i
      · rw [if_neg e1, if_pos e2]
        exact (key j hj e1).symm
      · rw [if_neg e1, if_neg e2]
        exact hD j k hj hk hjk
theorem ite_yesZ {c : Prop} [Decidable c] {A B : Prop} (hc : c) (h : A) : if c then A else B := by rw [if_pos hc]; exact h
set_option maxHeartbeats 4000000 in
set_option maxRecDepth 100000 in
theorem Deal_any (A : Option Addr) (c : Nat) (zs : List Int) (w : World) (hl : zs.length = 52) (hnc : 52 ≤ c) (hcm : c ≤ maxLen) (hz : IntsAt w A zs) (hok : OkD zs) :
    Calls Try.prog 28 #[.slice A 52 c, .int .i64 4, .int .i64 5] w fun e w' => ∃ h vs A' c', e = .returned (.tuple #[.slice (some ⟨h, 0, none⟩) 4 4, .slice A' 32 c', .int .i64 0]) ∧ HandsAt w w' h zs 20 vs ∧ IntsAt w' A' (zs.drop 20) := by
  have HCK := hide (Check_ok A 52 c zs w hl hnc hcm hz hok)
  obtain ⟨b, o, rfl, -⟩ := hz 0 (by omega)
  have hz2 : IntsAt w (some ⟨b, o + 20, none⟩) (zs.drop 20) := fun i hi => by
    have hi' : i < 32 := by rw [List.length_drop] at hi; omega
    obtain ⟨b', o', e, hc⟩ := hz (i + 20) (by omega)
    simp only [Option.some.injEq, Addr.mk.injEq, and_true] at e
    obtain ⟨rfl, rfl⟩ := e
    refine ⟨b, o + 20, rfl, ?_⟩
    rw [show o + 20 + i = o + (i + 20) by omega, hc]
    simp [List.getD_eq_getElem?_getD, Nat.add_comm]
  have HZ2 := hide hz2
  have HZ := hide hz
  have HL := hide hl
  have hmk : ∀ W : World, (Instr.makeSlice 52 (.int .i64 4) (.int .i64 4)).run Try.prog W = .ok (.slice (some ⟨W.heap.size, 0, none⟩) 4 4) (W.alloc (.cells (Array.replicate 4 (Value.slice none 0 0)) 23)) := makeR 4 (by omega)
  have hc52 : (52 : Int) ≤ (c : Int) := by omega
  have hc20 : (20 : Int) ≤ (c : Int) := by omega
  have hcm' : c ≤ 9223372036854775807 := by simp only [maxLen] at hcm; omega
  have hc20n : 20 ≤ c := by omega
  clear hz hz2 hok hl hcm
  go_enter Try.func28, Try.ntmps28
  go_wp2_with fail
  refine HCK.out.mono ?_
  rintro e w1 ⟨rfl, rfl⟩
  have HKN := hide (Blk.new w1 23 (Array.replicate 4 (Value.slice none 0 0)))
  have HXN := hide (ext_alloc (Below.refl w1.heap.size w1) (.cells (Array.replicate 4 (Value.slice none 0 0)) 23))
  go_upto_region 10 with fail
  generalize w1.alloc _ = w2 at *
  obtain ⟨hb, hhb⟩ : ∃ hb, hb = w1.heap.size := ⟨_, rfl⟩
  rw [← hhb] at HKN ⊢
  have HH0 : Hid (HandsAt w1 w2 hb zs 0 (List.replicate 4 (.slice none 0 0))) := hide ⟨HKN.out, rfl, fun j hj => by
    rcases (by omega : j = 0 ∨ j = 1 ∨ j = 2 ∨ j = 3) with rfl | rfl | rfl | rfl <;> exact OwnZ.nil w1 w2, fun j k hj hk _ => by
    rcases (by omega : j = 0 ∨ j = 1 ∨ j = 2 ∨ j = 3) with rfl | rfl | rfl | rfl <;> exact fun b hb => (fun e => by cases e), HXN.out, Nat.le_of_eq hhb.symm⟩
  clear hhb HKN HXN HCK hmk
  go_wp2
  go_loopw [12, 13, 46] (fun _ _ i wr => ∃ (t : Nat) (vs : List Value), t ≤ 20 ∧ i = .int .i64 t ∧ HandsAt w1 wr hb zs t vs) (fun _ _ i _ => 20 - (intOf i).toNat)
  case atStart => exact ⟨0, _, by omega, rfl, HH0.out⟩
  case round =>
    obtain ⟨t, vs, ht, rfl, hH⟩ := hrel
    have HH := hide hH
    by_cases hlt : t < 20
    · obtain ⟨b', o', e, hc⟩ := (HZ.out.ext hH.2.2.2.2.1) t (by have := HL.out; omega)
      simp only [Option.some.injEq, Addr.mk.injEq, and_true] at e
      obtain ⟨rfl, rfl⟩ := e
      obtain ⟨z, hz⟩ : ∃ z, zs.getD t 0 = z := ⟨_, rfl⟩
      rw [hz] at hc
      have HZZ := hide hz
      obtain ⟨i, hi⟩ : ∃ i : Nat, i = t % 4 := ⟨_, rfl⟩
      have hi4 : i < 4 := by omega
      have htm : (t : Int).tmod 4 = (i : Int) := by rw [Int.tmod_eq_emod_of_nonneg (by omega)]; omega
      have i0 : (0 : Int) ≤ (i : Int) := by omega
      have i4 : (i : Int) < 4 := by omega
      have t0 : (0 : Int) ≤ (t : Int) := by omega
      have t20 : (t : Int) < 20 := by omega
      have HI := hide hi
      have HI4 := hide hi4
      have HT20 := hide hlt
      have HXR := hide hH.2.2.2.2.1
      obtain ⟨vi, hvi⟩ : ∃ vi, vs.getD i .nilIface = vi := ⟨_, rfl⟩
      have HOI : Hid (OwnZ w1 wr vi (dealt zs t i)) := hide (by rw [← hvi]; exact hH.2.2.1 i hi4)
      have HVI := hide hvi
      have HNH : Hid (some hb ≠ vi.ownBlock) := hide (by
        obtain ⟨A, c, e, o⟩ := HOI.out
        rw [e]
        exact (own_blk_ne o hH.1 (by decide)).symm)
      have HSI : Hid (vs.toArray[i]? = some vi) := hide (by
        rw [← hvi]
        have : i < vs.length := by rw [hH.2.1]; exact hi4
        simp [List.getD_eq_getElem?_getD, this])
      have HSC : Hid (wr.drew.cell? ⟨hb, i, none⟩ = some vi) := hide (((hH.1 : Blk wr hb _ _).drew.cell i).trans HSI.out)
      clear hH hz hi hi4 hlt ht hvi
      go_upto_region 13 with fail
      have ss := HSC.out
      have keepK := hide (fun W (h : Ext w1 W) => (show (fun W => Ext w1 W) W from h))
      have yy := ext_trans HXR.out (Below.drew (Below.refl _ _))
      refine region_K (fun W => Ext w1 W) (fun W => W.cell? ⟨hb, i, none⟩ = some (vi)) [14] (by kernel_rfl) ?_
      have hS0 := ss
      have hT0 := keepK.out _ yy
      refine anyK_take 0 (oi := ?oo1) ?ho1 (by kernel_rfl) (by kernel_rfl) (by kernel_rfl) (by kernel_rfl) ?hq1 ?hw1 hT0 (fun _ => hS0) (v := ?vv1) ?hy1 ?hk1
      case ho1 => (simp only [List.getElem?_toArray, List.getElem?_cons_succ, List.getElem?_cons_zero]; rfl)
      case hq1 => exact fun _ _ _ h => h
      case hw1 => rfl
      case hy1 =>
        intro W hW
        go_simp
        first | done | with_reducible rfl
      case hk1 =>
      try simp only [Act.put, List.setIfInBounds_toArray, List.set_cons_zero, List.set_cons_succ]
      refine anyK_take 1 (oi := ?oo2) ?ho2 (by kernel_rfl) (by kernel_rfl) (by kernel_rfl) (by kernel_rfl) ?hq2 ?hw2 hT0 (fun _ => hS0) (v := ?vv2) ?hy2 ?hk2
      case ho2 => (simp only [List.getElem?_toArray, List.getElem?_cons_succ, List.getElem?_cons_zero]; rfl)
      case hq2 => exact fun _ _ _ h => h
      case hw2 => rfl
      case hy2 =>
        intro W hW
        go_simp
        first | done | with_reducible rfl
      case hk2 =>
      try simp only [Act.put, List.setIfInBounds_toArray, List.set_cons_zero, List.set_cons_succ]
      refine anyK_take 2 (oi := ?oo3) ?ho3 (by kernel_rfl) (by kernel_rfl) (by kernel_rfl) (by kernel_rfl) ?hq3 ?hw3 hT0 (fun _ => hS0) (v := ?vv3) ?hy3 ?hk3
      case ho3 => (simp only [List.getElem?_toArray, List.getElem?_cons_succ, List.getElem?_cons_zero]; rfl)
      case hq3 => exact fun _ _ _ h => h
      case hw3 => rfl
      case hy3 =>
        intro W hW
        go_simp
        first | done | with_reducible rfl
      case hk3 =>
      try simp only [Act.put, List.setIfInBounds_toArray, List.set_cons_zero, List.set_cons_succ]
      refine anyK_take 3 (oi := ?oo4) ?ho4 (by kernel_rfl) (by kernel_rfl) (by kernel_rfl) (by kernel_rfl) ?hq4 ?hw4 hT0 (fun _ => hS0) (v := ?vv4) ?hy4 ?hk4
      case ho4 => (simp only [List.getElem?_toArray, List.getElem?_cons_succ, List.getElem?_cons_zero]; rfl)
      case hq4 => exact fun _ _ _ h => h
      case hw4 => rfl
      case hy4 =>
        intro W hW
        go_simp
        first | done | with_reducible rfl
      case hk4 =>
      try simp only [Act.put, List.setIfInBounds_toArray, List.set_cons_zero, List.set_cons_succ]
      refine anyK_take 4 (oi := ?oo5) ?ho5 (by kernel_rfl) (by kernel_rfl) (by kernel_rfl) (by kernel_rfl) ?hq5 ?hw5 hT0 (fun _ => hS0) (v := ?vv5) ?hy5 ?hk5
      case ho5 => (simp only [List.getElem?_toArray, List.getElem?_cons_succ, List.getElem?_cons_zero]; rfl)
      case hq5 => exact fun _ _ _ h => h
      case hw5 => rfl
      case hy5 =>
        intro W hW
        go_simp
        first | done | with_reducible rfl
      case hk5 =>
      try simp only [Act.put, List.setIfInBounds_toArray, List.set_cons_zero, List.set_cons_succ]
      refine anyK_take 5 (oi := ?oo6) ?ho6 (by kernel_rfl) (by kernel_rfl) (by kernel_rfl) (by kernel_rfl) ?hq6 ?hw6 hT0 (fun _ => hS0) (v := ?vv6) ?hy6 ?hk6
      case ho6 => (simp only [List.getElem?_toArray, List.getElem?_cons_succ, List.getElem?_cons_zero]; rfl)
      case hq6 => exact fun _ _ _ h => h
      case hw6 => rfl
      case hy6 =>
        intro W hW
        go_simp
        first | done | with_reducible rfl
      case hk6 =>
      try simp only [Act.put, List.setIfInBounds_toArray, List.set_cons_zero, List.set_cons_succ]
      refine anyK_take 6 (oi := ?oo7) ?ho7 (by kernel_rfl) (by kernel_rfl) (by kernel_rfl) (by kernel_rfl) ?hq7 ?hw7 hT0 (fun _ => hS0) (v := ?vv7) ?hy7 ?hk7
      case ho7 => (simp only [List.getElem?_toArray, List.getElem?_cons_succ, List.getElem?_cons_zero]; rfl)
      case hq7 => exact fun _ _ _ h => h
      case hw7 => rfl
      case hy7 =>
        intro W hW
        go_simp
        first | done | with_reducible rfl
      case hk7 =>
      try simp only [Act.put, List.setIfInBounds_toArray, List.set_cons_zero, List.set_cons_succ]
      refine anyK_take 7 (oi := ?oo8) ?ho8 (by kernel_rfl) (by kernel_rfl) (by kernel_rfl) (by kernel_rfl) ?hq8 ?hw8 hT0 (fun _ => hS0) (v := ?vv8) ?hy8 ?hk8
      case ho8 => (simp only [List.getElem?_toArray, List.getElem?_cons_succ, List.getElem?_cons_zero]; rfl)
      case hq8 => exact fun _ _ _ h => h
      case hw8 => rfl
      case hy8 =>
        intro W hW
        go_simp
        first | done | with_reducible rfl
      case hk8 =>
      try simp only [Act.put, List.setIfInBounds_toArray, List.set_cons_zero, List.set_cons_succ]
      refine anyK_take 8 (oi := ?oo9) ?ho9 (by kernel_rfl) (by kernel_rfl) (by kernel_rfl) (by kernel_rfl) ?hq9 ?hw9 hT0 (fun _ => hS0) (v := ?vv9) ?hy9 ?hk9
      case ho9 => (simp only [List.getElem?_toArray, List.getElem?_cons_succ, List.getElem?_cons_zero]; rfl)
      case hq9 => exact fun _ _ _ h => h
      case hw9 => rfl
      case hy9 =>
        intro W hW
        go_simp
        first | done | with_reducible rfl
      case hk9 =>
      try simp only [Act.put, List.setIfInBounds_toArray, List.set_cons_zero, List.set_cons_succ]
      refine anyK_load 9 (oi := ?oo10) ?ho10 (by kernel_rfl) (by kernel_rfl) (by kernel_rfl) (by kernel_rfl) (by kernel_rfl) (by kernel_rfl) ?hq10 ?hw10 hT0 hS0 (v := ?vv10) ?hy10 ?hk10
      case ho10 => (simp only [List.getElem?_toArray, List.getElem?_cons_succ, List.getElem?_cons_zero]; rfl)
      case hq10 => exact fun _ _ _ h => h
      case hw10 => rfl
      case hy10 =>
        intro W hW1 hW
        go_simp
        first | done | with_reducible rfl
      case hk10 =>
      try simp only [Act.put, List.setIfInBounds_toArray, List.set_cons_zero, List.set_cons_succ]
      refine anyK_take 10 (oi := ?oo11) ?ho11 (by kernel_rfl) (by kernel_rfl) (by kernel_rfl) (by kernel_rfl) ?hq11 ?hw11 hT0 (fun _ => hS0) (v := ?vv11) ?hy11 ?hk11
      case ho11 => (simp only [List.getElem?_toArray, List.getElem?_cons_succ, List.getElem?_cons_zero]; rfl)
      case hq11 => exact fun _ _ _ h => h
      case hw11 => rfl
      case hy11 =>
        intro W hW
        go_simp
        first | done | with_reducible rfl
      case hk11 =>
      try simp only [Act.put, List.setIfInBounds_toArray, List.set_cons_zero, List.set_cons_succ]
      refine anyK_on1 11 (by kernel_rfl) ?_
      refine anyK_one 11 (o := ?oo12) ?ho12 ?hk12
      case ho12 => (simp only [List.getElem?_toArray, List.getElem?_cons_succ, List.getElem?_cons_zero]; rfl)
      case hk12 =>
      intro K hK
      go_simp
      replace yy := ext_alloc yy (.cells #[.int .i64 z] 3)
      have ss := Ext.cell (ext_alloc (Below.refl _ _) (.cells #[.int .i64 z] 3)) ss
      have hT1 := keepK.out _ yy
      have hS1 := ss
      refine hK.out _ _ hT1 (fun _ => hS1) ?_
      clear hK K
      try simp only [Act.put, List.setIfInBounds_toArray, List.set_cons_zero, List.set_cons_succ]
      refine anyK_on1 12 (by kernel_rfl) ?_
      refine anyK_one 12 (o := ?oo13) ?ho13 ?hk13
      case ho13 => (simp only [List.getElem?_toArray, List.getElem?_cons_succ, List.getElem?_cons_zero]; rfl)
      case hk13 =>
      intro K hK
      refine ite_yesZ rfl ?_
      refine oper_append_z2 (.tmp 60) (.tmp 62) rfl w1 wr.drew vi (dealt zs t i) z rfl (HOI.out.ext (Below.drew (Below.refl _ _))) rfl (ext_trans HXR.out (Below.drew (Below.refl _ _))) (by have := @dealt_len zs t i; have := HT20.out; omega) ?_
      intro v9 w9 own9 x9 g9 l9
      have HG9 : Hid (wr.grownBy w9 vi.ownBlock) := hide ⟨g9.os, g9.tape, g9.output, g9.size, g9.block⟩
      have KH9 := hide (HH.out.1.drew.grown g9 HNH.out)
      have OWN9 := hide own9
      have L9 : Hid (LiesZ vi v9 wr) := hide (fun b hb => l9 b hb)
      have X9 := hide x9
      obtain ⟨A9, n9, c9, rfl⟩ : ∃ A n c, v9 = .slice A n c := by obtain ⟨A, c, e, -⟩ := own9; exact ⟨_, _, _, e⟩
      replace yy := x9
      have ss := (KH9.out.cell i).trans HSI.out
      clear own9 l9 x9 g9
      have hT2 := keepK.out _ yy
      have hS2 := ss
      refine hK.out _ _ hT2 (fun _ => hS2) ?_
      clear hK K
      try simp only [Act.put, List.setIfInBounds_toArray, List.set_cons_zero, List.set_cons_succ]
      refine anyK_take 13 (oi := ?oo14) ?ho14 (by kernel_rfl) (by kernel_rfl) (by kernel_rfl) (by kernel_rfl) ?hq14 ?hw14 hT2 (fun _ => hS2) (v := ?vv14) ?hy14 ?hk14
      case ho14 => (simp only [List.getElem?_toArray, List.getElem?_cons_succ, List.getElem?_cons_zero]; rfl)
      case hq14 => exact fun _ _ _ h => h
      case hw14 => rfl
      case hy14 =>
        intro W hW
        go_simp
        first | done | with_reducible rfl
      case hk14 =>
      try simp only [Act.put, List.setIfInBounds_toArray, List.set_cons_zero, List.set_cons_succ]
      refine anyK_on1 14 (by kernel_rfl) ?_
      refine anyK_one 14 (o := ?oo15) ?ho15 ?hk15
      case ho15 => (simp only [List.getElem?_toArray, List.getElem?_cons_succ, List.getElem?_cons_zero]; rfl)
      case hk15 =>
      intro K hK
      have q5 := ss
      have z5 := KH9.out.frozen
      have X10 := hide (ext_set X9.out (p := ⟨hb, i, none⟩) HH.out.2.2.2.2.2 (.slice A9 n9 c9))
      replace yy := X10.out
      go_simp
      clear q5 z5
      have hT3 := keepK.out _ yy
      refine hK.out _ _ hT3 (fun h => by cases h) ?_
      clear hK K
      try simp only [Act.put, List.setIfInBounds_toArray, List.set_cons_zero, List.set_cons_succ]
      refine anyK_done (by kernel_rfl) ?_ _
      clear keepK hT0 hT1 hT2 hT3
      try clear keepS hS0 hS1 hS2
      have HST := hide (hands_step (v' := .slice A9 n9 c9) (z := z) HH.out HI.out HZZ.out OWN9.out X9.out (by rw [HVI.out]; exact HG9.out) (by rw [HVI.out]; exact L9.out))
      clear HH HXR HOI HVI HNH HSC HG9 KH9 OWN9 L9 X9 X10
      generalize w9.setCell ⟨hb, i, none⟩ (.slice A9 n9 c9) = w10 at *
      go_wp2
      go_roundw
      case rel => exact ⟨t + 1, _, HT20.out, by go_num, HST.out⟩
      case measure => have := HT20.out; simp only [intOf, wrap64]; omega
    · obtain rfl : t = 20 := by omega
      have HCL := hide (cloneInts_any (some ⟨b, o + 20, none⟩) 32 (c - 20) (zs.drop 20) wr (by rw [List.length_drop, HL.out]) (by omega) (fun e => by cases e) (HZ2.out.ext hH.2.2.2.2.1))
      clear hH ht hlt
      trace "MARKTRACE"
      go_wp2_with fail
      refine HCL.out.mono ?_
      rintro e w5 ⟨A5, c5, rfl, o5, x5⟩
      have HI5 := hide (cells_ints (own_cells o5).1)
      have hl32 : (zs.drop 20).length = 32 := by rw [List.length_drop, HL.out]
      rw [hl32]
      have HH5 : Hid (HandsAt w1 w5 hb zs 20 vs) := hide ⟨HH.out.1.ext x5, HH.out.2.1, fun j hj => (HH.out.2.2.1 j hj).ext x5, HH.out.2.2.2.1, ext_trans HH.out.2.2.2.2.1 x5, HH.out.2.2.2.2.2⟩
      clear o5 x5 HCL
      go_wp2
      go_ret3
      exact ⟨hb, vs, _, _, rfl, HH5.out, HI5.out⟩
end Go.Proofs.Ytdoibgmmijhlfaa
