/- Walk: the value of a state, over sums of two heaps. -/
import Derived.Test.YthgbdonjheengaaNimQ
import Derived.StillTailTactics
import Derived.Test.YthgbdonjheengaaRegionK
import Derived.Deep.Cut
namespace Go.Proofs.Ythgbdonjheengaa
open Go.RowKit Go.Maps
set_option linter.unusedVariables false
set_option linter.unusedSimpArgs false
def OkP (p : Nat × Nat) : Prop := p.1 ≤ 1000 ∧ p.2 ≤ 1000
theorem okP_key {p : Nat × Nat} (h : OkP p) : keyP.ok p := ⟨Nat.le_trans h.1 (by decide), Nat.le_trans h.2 (by decide)⟩
theorem grP_le (m n : Int) {p : Nat × Nat} (h : OkP p) : grP m n p ≤ 2000 := Nat.le_trans (gr_le (falls_pair m n) _ p (Nat.le_refl _)) (by
  have h1 := h.1
  have h2 := h.2
  show p.1 + p.2 ≤ 2000
  omega)
theorem nxP_len (m n : Int) {p : Nat × Nat} (h : OkP p) : (nxP m n p).length ≤ 2000 := by
  have h1 := h.1
  have h2 := h.2
  have e1 : (nxH m p.1).length ≤ p.1 := by rw [nxH_take]; simp [cntH]; split <;> omega
  have e2 : (nxH n p.2).length ≤ p.2 := by rw [nxH_take]; simp [cntH]; split <;> omega
  show ((nxH m p.1).map (·, p.2) ++ (nxH n p.2).map (p.1, ·)).length ≤ 2000
  rw [List.length_append, List.length_map, List.length_map]
  omega
/-- The state of a call before its loop. -/
structure BaseP (m n : Int) (most bv B SP : Nat) (s : Nat × Nat) (U F : List (Nat × Nat)) (w w2 : World) : Prop where
  g : w.grownBy w2 (some B)
  c0 : w2.cell? ⟨bv, 0, none⟩ = some (bothG m n)
  c1 : w2.cell? ⟨bv, 1, none⟩ = some (.int .i64 (most : Int))
  c2 : w2.cell? ⟨bv, 2, none⟩ = some (.map (some B))
  s0 : w2.cell? ⟨SP, 0, none⟩ = some (.int .i64 (s.1 : Int))
  s1 : w2.cell? ⟨SP, 1, none⟩ = some (.int .i64 (s.2 : Int))
  mp : MapN keyP (grP m n) w2 B U F
theorem BaseP.drewN {m n : Int} {most bv B SP : Nat} {s : Nat × Nat} {U F : List (Nat × Nat)} {w w2 : World} (h : BaseP m n most bv B SP s U F w w2) (k : Nat) : BaseP m n most bv B SP s U F w (w2.drewN k) :=
  ⟨⟨h.g.os, h.g.tape, h.g.output, h.g.size, h.g.block⟩, h.c0, h.c1, h.c2, h.s0, h.s1, h.mp⟩
/-- The state of a call whose state is under way. -/
structure BaseQ (m n : Int) (most bv B SP : Nat) (s : Nat × Nat) (U F : List (Nat × Nat)) (w w2 : World) : Prop where
  g : w.grownBy w2 (some B)
  c0 : w2.cell? ⟨bv, 0, none⟩ = some (bothG m n)
  c1 : w2.cell? ⟨bv, 1, none⟩ = some (.int .i64 (most : Int))
  c2 : w2.cell? ⟨bv, 2, none⟩ = some (.map (some B))
  s0 : w2.cell? ⟨SP, 0, none⟩ = some (.int .i64 (s.1 : Int))
  s1 : w2.cell? ⟨SP, 1, none⟩ = some (.int .i64 (s.2 : Int))
  mp : MapN keyP (grP m n) w2 B (s :: U) F
theorem BaseQ.drewN {m n : Int} {most bv B SP : Nat} {s : Nat × Nat} {U F : List (Nat × Nat)} {w w2 : World} (h : BaseQ m n most bv B SP s U F w w2) (k : Nat) : BaseQ m n most bv B SP s U F w (w2.drewN k) :=
  ⟨⟨h.g.os, h.g.tape, h.g.output, h.g.size, h.g.block⟩, h.c0, h.c1, h.c2, h.s0, h.s1, h.mp⟩
theorem BaseQ.ext {m n : Int} {most bv B SP : Nat} {s : Nat × Nat} {U F : List (Nat × Nat)} {w w2 w3 : World} (h : BaseQ m n most bv B SP s U F w w2) (x : Ext w2 w3) : BaseQ m n most bv B SP s U F w w3 :=
  ⟨grown_ext h.g x, x.cell h.c0, x.cell h.c1, x.cell h.c2, x.cell h.s0, x.cell h.s1, h.mp.ext x⟩
theorem le_of_len {a b c : Nat} (h : a + b ≤ c) : a + b ≤ c := h
theorem flatP : ∀ (L : List (Nat × Nat)) (k : Nat) (x : Nat × Nat), L[k]? = some x → (cellsP L)[k * 2]? = some (.int .i64 (x.1 : Int)) ∧ (cellsP L)[k * 2 + 1]? = some (.int .i64 (x.2 : Int))
  | [], k, x, h => by simp at h
  | y :: L, 0, x, h => by
    obtain rfl : y = x := by simpa using h
    exact ⟨rfl, rfl⟩
  | y :: L, k + 1, x, h => by
    obtain ⟨h1, h2⟩ := flatP L k x (by simpa using h)
    rw [show (k + 1) * 2 = k * 2 + 1 + 1 by omega]
    exact ⟨h1, h2⟩
theorem pair_get {w : World} {A : Option Addr} {L : List (Nat × Nat)} (h : CellsAt w A (cellsP L)) {k : Nat} {x : Nat × Nat} (hk : L[k]? = some x) :
    ∃ b o, A = some ⟨b, o, none⟩ ∧ w.cell? ⟨b, o + k * 2, none⟩ = some (.int .i64 (x.1 : Int)) ∧ w.cell? ⟨b, o + k * 2 + 1, none⟩ = some (.int .i64 (x.2 : Int)) := by
  obtain ⟨h1, h2⟩ := flatP L k x hk
  obtain ⟨b, o, rfl, c1⟩ := h _ _ h1
  obtain ⟨b', o', e, c2⟩ := h _ _ h2
  simp only [Option.some.injEq, Addr.mk.injEq, and_true] at e
  obtain ⟨rfl, rfl⟩ := e
  exact ⟨b, o, rfl, c1, c2⟩
/-- The loop over the moves of s: k of them are done. -/
structure VLoopP (m n : Int) (most : Nat) (P : Nat × Nat → Prop) (w : World) (bv B S SP : Nat) (s : Nat × Nat) (U F : List (Nat × Nat)) (A : Option Addr) (k : Nat) (wr : World) : Prop where
  c0 : wr.cell? ⟨bv, 0, none⟩ = some (bothG m n)
  c1 : wr.cell? ⟨bv, 1, none⟩ = some (.int .i64 (most : Int))
  c2 : wr.cell? ⟨bv, 2, none⟩ = some (.map (some B))
  s0 : wr.cell? ⟨SP, 0, none⟩ = some (.int .i64 (s.1 : Int))
  s1 : wr.cell? ⟨SP, 1, none⟩ = some (.int .i64 (s.2 : Int))
  found : ∃ F', FoundN keyP (grP m n) (nxP m n) P wr B (s :: U) F F' most ∧ ∀ t ∈ (nxP m n s).take k, t ∈ F'
  seen : SeenN wr S (((nxP m n s).take k).map (grP m n))
  grown : w.grownBy wr (some B)
  cells : CellsAt wr A (cellsP (nxP m n s))
theorem seen_ext {w w' : World} {S : Nat} {L : List Nat} (h : SeenN w S L) (x : Ext w w') : SeenN w' S L := by
  obtain ⟨D, h1, h2⟩ := h
  obtain ⟨es, cl, hb, r⟩ := h1
  exact ⟨D, ⟨es, cl, (x.block S (Array.getElem?_eq_some_iff.1 hb).1).trans hb, r⟩, h2⟩
theorem VLoopP.drewN {m n : Int} {most : Nat} {P : Nat × Nat → Prop} {w : World} {bv B S SP : Nat} {s : Nat × Nat} {U F : List (Nat × Nat)} {A : Option Addr} {k : Nat} {wr : World} (h : VLoopP m n most P w bv B S SP s U F A k wr) (q : Nat) : VLoopP m n most P w bv B S SP s U F A k (wr.drewN q) :=
  ⟨h.c0, h.c1, h.c2, h.s0, h.s1, h.found, h.seen, ⟨h.grown.os, h.grown.tape, h.grown.output, h.grown.size, h.grown.block⟩, h.cells⟩
theorem VLoopP.ext {m n : Int} {most : Nat} {P : Nat × Nat → Prop} {w : World} {bv B S SP : Nat} {s : Nat × Nat} {U F : List (Nat × Nat)} {A : Option Addr} {k : Nat} {wr w2 : World} (h : VLoopP m n most P w bv B S SP s U F A k wr) (x : Ext wr w2) : VLoopP m n most P w bv B S SP s U F A k w2 := by
  obtain ⟨F', h1, h2⟩ := h.found
  exact ⟨x.cell h.c0, x.cell h.c1, x.cell h.c2, x.cell h.s0, x.cell h.s1, ⟨F', ⟨h1.1.ext x, h1.2⟩, h2⟩, seen_ext h.seen x, grown_ext h.grown x, h.cells.ext x⟩
set_option maxHeartbeats 4000000 in
set_option maxRecDepth 100000 in
theorem valueP_any (m n : Int) (most : Nat) (hmost : most ≤ 20000) (P : Nat × Nat → Prop) (hP : ∀ x, P x → OkP x ∧ ∀ t ∈ nxP m n x, P t) : ∀ (N : Nat) (s : Nat × Nat), rkP s < N → ∀ (w : World) (bv B : Nat) (U F : List (Nat × Nat)),
    w.cell? ⟨bv, 0, none⟩ = some (bothG m n) → w.cell? ⟨bv, 1, none⟩ = some (.int .i64 (most : Int)) → w.cell? ⟨bv, 2, none⟩ = some (.map (some B)) → bv ≠ B →
    FoundN keyP (grP m n) (nxP m n) P w B U [] F most → (∀ u ∈ U, rkP s < rkP u) → P s →
    Calls Try.prog 31 #[.pointer (some ⟨bv, 0, none⟩), pairV s] w (ValPost keyP (grP m n) (nxP m n) P w B U F most s) := by
  intro NN
  induction NN with
  | zero => exact fun s h => absurd h (Nat.not_lt_zero _)
  | succ NN ih =>
    intro s hs w bv B U F c0 c1 c2 hne hF hU hPs
    obtain ⟨hM, -, hcl, hPF, hlen⟩ := id hF
    have hs2 := (hP s hPs).1
    have HPS := Lib.hid hPs
    have HS2 := Lib.hid hs2
    have hlt := hM.lt
    have hbv := lt_of_cell c0
    have k1 := Blk.new w 26 #[.int .i64 (s.1 : Int), .int .i64 (s.2 : Int)]
    have g0 := World.grownBy_alloc w (.cells #[.int .i64 (s.1 : Int), .int .i64 (s.2 : Int)] 26) (some B)
    have q0 : some bv ≠ some B := by simpa using hne
    have hB : BaseP m n most bv B w.heap.size s U F w (w.alloc (.cells #[.int .i64 (s.1 : Int), .int .i64 (s.2 : Int)] 26)) := ⟨g0, g0.cell c0 q0, g0.cell c1 q0, g0.cell c2 q0, k1.cell 0, k1.cell 1, hM.kept (World.grownBy_alloc w _ none) (by simp)⟩
    have HB := Lib.hid hB
    have HREST := Lib.hid (And.intro hcl (And.intro hPF hlen))
    have HU := Lib.hid hU
    have IH := Lib.hid ih
    have HS := Lib.hid hs
    have HP := Lib.hid hP
    have HM0 := Lib.hid hmost
    have HNE := Lib.hid hne
    have HLT := Lib.hid hlt
    have HBV := Lib.hid hbv
    have hUF := hM.nodup
    have hsub : s ∉ U := fun h => absurd (hU s h) (Nat.lt_irrefl _)
    have HMS := Lib.hid (le_of_len hlen)
    clear c0 c1 c2 hF hM hcl hPF hs2 hlt hbv k1 g0 q0 hU ih hs hP hne hPs
    go_enter Try.func31, Try.ntmps31
    go_upto_region 1 with fail
    generalize w.alloc (.cells #[.int .i64 (s.1 : Int), .int .i64 (s.2 : Int)] 26) = w1 at *
    have HSP := Lib.hid (Nat.le_refl w.heap.size)
    generalize hSP : w.heap.size = SP at HSP HB ⊢
    have HSPE := Lib.hid hSP
    clear hSP hB
    by_cases hsF : s ∈ F
    · have r1 := fun k => MapN.look_some (w := w1.drewN k) keyP_good HB.out.mp Try.underlying78 hsF
      have t1 : decide ((grP m n s : Int) < 0) = false := decide_eq_false (by omega)
      have HSF := Lib.hid hsF
      simp only [show keyP.kv s = pairV s from rfl] at r1
      obtain ⟨-, c0, c1, c2, s0, s1, -⟩ := HB.out
      clear hsF hUF hsub hlen
      generalize hg : grP m n s = gs at *
      have HG := Lib.hid hg
      clear hg
      go_wp2_with fail
      go_quiet (fail)
      have HB2 := Lib.hid (HB.out.drewN nq)
      clear r1 c0 c1 c2 s0 s1 HB
      generalize w1.drewN nq = w2 at *
      go_wp2
      go_ret2
      exact ⟨HB2.out.g, .inl ⟨F, by rw [HG.out]; rfl, ⟨HB2.out.mp, fun x h => h, HREST.out⟩, HSF.out⟩⟩
    · have hsU : s ∉ U ++ F := fun h => (List.mem_append.1 h).elim hsub hsF
      have HSU := Lib.hid hsU
      have r1 := fun k => MapN.look_none (w := w1.drewN k) keyP_good HB.out.mp Try.underlying78 (okP_key HS2.out) hsU
      simp only [show keyP.kv s = pairV s from rfl] at r1
      obtain ⟨-, c0, c1, c2, s0, s1, -⟩ := HB.out
      by_cases hl : U.length + F.length = most
      · have HO := Lib.hid (show OverN P most from ⟨s :: (U ++ F), List.nodup_cons.2 ⟨hsU, hUF⟩, by rw [List.length_cons, List.length_append, hl], fun x hx => by
          rcases List.mem_cons.1 hx with rfl | hx
          · exact HPS.out
          · exact HREST.out.2.1 x hx⟩)
        have t1 : ((most : Int) == (most : Int)) = true := beq_self_eq_true _
        have HL := Lib.hid hl
        clear hsF hUF hsub hlen hsU hl
        go_wp2_with fail
        go_quiet (fail)
        have HB2 := Lib.hid (HB.out.drewN nq)
        clear r1 c0 c1 c2 s0 s1 HB
        generalize w1.drewN nq = w2 at *
        have r2 := fun k => MapN.len (w := w2.drewN k) HB2.out.mp Try.underlying78 3
        simp only [HL.out] at r2
        obtain ⟨-, c0, c1, c2, s0, s1, -⟩ := HB2.out
        go_wp2_with fail
        go_quiet (fail)
        have HB3 := Lib.hid (HB2.out.drewN nq)
        clear r2 c0 c1 c2 s0 s1 HB2
        generalize w2.drewN nq = w3 at *
        go_wp2
        go_ret2
        exact ⟨HB3.out.g, .inr ⟨rfl, HO.out⟩⟩
      · have t1 : (((U.length + F.length : Nat) : Int) == (most : Int)) = false := beq_eq_false_iff_ne.2 (by omega)
        have HL := Lib.hid (show U.length + F.length < most by omega)
        clear hsF hUF hsub hlen hsU hl
        generalize hLn : U.length + F.length = ln at *
        have HLN := Lib.hid hLn
        clear hLn
        go_wp2_with fail
        go_quiet (fail)
        have HB2 := Lib.hid (HB.out.drewN nq)
        clear r1 c0 c1 c2 s0 s1 HB
        generalize w1.drewN nq = w2 at *
        have r2 := fun k => MapN.len (w := w2.drewN k) HB2.out.mp Try.underlying78 3
        simp only [HLN.out] at r2
        obtain ⟨-, c0, c1, c2, s0, s1, -⟩ := HB2.out
        go_wp2_with fail
        go_quiet (fail)
        have HB3 := Lib.hid (HB2.out.drewN nq)
        clear r2 c0 c1 c2 s0 s1 HB2
        generalize w2.drewN nq = w3 at *
        go_upto_region 8 with fail
        obtain ⟨-, c0, c1, c2, s0, s1, -⟩ := HB3.out
        go_still_tail 5, (by kernel_rfl)
        have HB4 := Lib.hid (HB3.out.drewN 1)
        change wpList _ _ _ _ _ (w3.drewN 1)
        clear HB3 c0 c1 c2 s0 s1
        generalize w3.drewN 1 = w4 at *
        obtain ⟨w5, r5, m5, g5⟩ := MapN.push (t := 78) (s := s) keyP_good HB4.out.mp Try.underlying78 (by have := HLN.out; have := HL.out; have := HM0.out; unfold maxLen; omega) (okP_key HS2.out) HSU.out
        rw [show keyP.kv s = pairV s from rfl] at r5
        have q0 : some bv ≠ some B := by simpa using HNE.out
        have q1 : some SP ≠ some B := by
          have h1 := HLT.out
          have h2 := HSPE.out
          exact fun e => by injection e with e; omega
        have hB5 : BaseQ m n most bv B SP s U F w w5 := ⟨grown_trans HB4.out.g g5, g5.cell HB4.out.c0 q0, g5.cell HB4.out.c1 q0, g5.cell HB4.out.c2 q0, g5.cell HB4.out.s0 q1, g5.cell HB4.out.s1 q1, m5⟩
        have HB5 := Lib.hid hB5
        clear hB5 g5 m5 HB4 q0 q1
        have hmm := @run_makeMap Try.prog
        have hS := seenN_made w5
        have hB6 := HB5.out.ext (ext_alloc (Below.refl _ _) (.map #[] 0))
        have HSB := Lib.hid HB5.out.g.size
        have HS6 := Lib.hid hS
        have HSPS := Lib.hid (show SP < w5.heap.size from lt_of_cell HB5.out.s0)
        have HB6 := Lib.hid hB6
        have HSL := Lib.hid hS.lt
        clear hS hB6 HB5
        go_upto_region 10 with fail
        generalize w5.alloc (.map #[] 0) = w6 at *
        generalize w5.heap.size = S at *
        clear hmm r5
        have C0 := Lib.hid HB6.out.c0
        have C1 := Lib.hid HB6.out.s0
        have C2 := Lib.hid HB6.out.s1
        have HBN := Lib.hid (fun W => both_next m n s.1 s.2 (Nat.le_trans HS2.out.1 (by decide)) (Nat.le_trans HS2.out.2 (by decide)) W)
        have keepK := hide (fun W (h : Ext w6 W) => (show (fun W => W.cell? ⟨bv, 0, none⟩ = some (bothG m n) ∧ W.cell? ⟨SP, 0, none⟩ = some (.int .i64 (s.1 : Int)) ∧ W.cell? ⟨SP, 1, none⟩ = some (.int .i64 (s.2 : Int)) ∧ Ext w6 W) W from ⟨h.cell C0.out, h.cell C1.out, h.cell C2.out, h⟩))
        have yy : Ext w6 w6.drew := Below.drew (Below.refl _ _)
        refine region_K (fun W => W.cell? ⟨bv, 0, none⟩ = some (bothG m n) ∧ W.cell? ⟨SP, 0, none⟩ = some (.int .i64 (s.1 : Int)) ∧ W.cell? ⟨SP, 1, none⟩ = some (.int .i64 (s.2 : Int)) ∧ Ext w6 W) (fun _ => True) [] (by kernel_rfl) ?_
        have hT0 := keepK.out _ yy
        refine anyK_take 0 (oi := ?oo1) ?ho1 (by kernel_rfl) (by kernel_rfl) (by kernel_rfl) (by kernel_rfl) ?hq1 ?hw1 hT0 (fun _ => trivial) (v := ?vv1) ?hy1 ?hk1
        case ho1 => (simp only [List.getElem?_toArray, List.getElem?_cons_succ, List.getElem?_cons_zero]; rfl)
        case hq1 => exact fun _ _ _ h => h
        case hw1 => rfl
        case hy1 =>
          intro W hW
          go_simp
          first | done | with_reducible rfl
        case hk1 =>
        try simp only [Act.put, List.setIfInBounds_toArray, List.set_cons_zero, List.set_cons_succ]
        refine anyK_take 1 (oi := ?oo2) ?ho2 (by kernel_rfl) (by kernel_rfl) (by kernel_rfl) (by kernel_rfl) ?hq2 ?hw2 hT0 (fun _ => trivial) (v := ?vv2) ?hy2 ?hk2
        case ho2 => (simp only [List.getElem?_toArray, List.getElem?_cons_succ, List.getElem?_cons_zero]; rfl)
        case hq2 => exact fun _ _ _ h => h
        case hw2 => rfl
        case hy2 =>
          intro W hW
          go_simp
          first | done | with_reducible rfl
        case hk2 =>
        try simp only [Act.put, List.setIfInBounds_toArray, List.set_cons_zero, List.set_cons_succ]
        refine anyK_take 2 (oi := ?oo3) ?ho3 (by kernel_rfl) (by kernel_rfl) (by kernel_rfl) (by kernel_rfl) ?hq3 ?hw3 hT0 (fun _ => trivial) (v := ?vv3) ?hy3 ?hk3
        case ho3 => (simp only [List.getElem?_toArray, List.getElem?_cons_succ, List.getElem?_cons_zero]; rfl)
        case hq3 => exact fun _ _ _ h => h
        case hw3 => rfl
        case hy3 =>
          intro W hW
          go_simp
          first | done | with_reducible rfl
        case hk3 =>
        try simp only [Act.put, List.setIfInBounds_toArray, List.set_cons_zero, List.set_cons_succ]
        refine anyK_take 3 (oi := ?oo4) ?ho4 (by kernel_rfl) (by kernel_rfl) (by kernel_rfl) (by kernel_rfl) ?hq4 ?hw4 hT0 (fun _ => trivial) (v := ?vv4) ?hy4 ?hk4
        case ho4 => (simp only [List.getElem?_toArray, List.getElem?_cons_succ, List.getElem?_cons_zero]; rfl)
        case hq4 => exact fun _ _ _ h => h
        case hw4 => rfl
        case hy4 =>
          intro W hW
          obtain ⟨z0, z1, z2, z3⟩ := hW
          go_simp
          first | done | with_reducible rfl
        case hk4 =>
        try simp only [Act.put, List.setIfInBounds_toArray, List.set_cons_zero, List.set_cons_succ]
        refine anyK_take 4 (oi := ?oo5) ?ho5 (by kernel_rfl) (by kernel_rfl) (by kernel_rfl) (by kernel_rfl) ?hq5 ?hw5 hT0 (fun _ => trivial) (v := ?vv5) ?hy5 ?hk5
        case ho5 => (simp only [List.getElem?_toArray, List.getElem?_cons_succ, List.getElem?_cons_zero]; rfl)
        case hq5 => exact fun _ _ _ h => h
        case hw5 => rfl
        case hy5 =>
          intro W hW
          obtain ⟨z0, z1, z2, z3⟩ := hW
          go_simp
          first | done | with_reducible rfl
        case hk5 =>
        try simp only [Act.put, List.setIfInBounds_toArray, List.set_cons_zero, List.set_cons_succ]
        refine anyK_take 7 (oi := ?oo6) ?ho6 (by kernel_rfl) (by kernel_rfl) (by kernel_rfl) (by kernel_rfl) ?hq6 ?hw6 hT0 (fun _ => trivial) (v := ?vv6) ?hy6 ?hk6
        case ho6 => (simp only [List.getElem?_toArray, List.getElem?_cons_succ, List.getElem?_cons_zero]; rfl)
        case hq6 => exact fun _ _ _ h => h
        case hw6 => rfl
        case hy6 =>
          intro W hW
          go_simp
          first | done | with_reducible rfl
        case hk6 =>
        try simp only [Act.put, List.setIfInBounds_toArray, List.set_cons_zero, List.set_cons_succ]
        refine anyK_on1 5 (by kernel_rfl) ?_
        refine anyK_one 5 (o := ?oo7) ?ho7 ?hk7
        case ho7 => (simp only [List.getElem?_toArray, List.getElem?_cons_succ, List.getElem?_cons_zero]; rfl)
        case hk7 =>
        intro K hK
        go_simp
        refine (HBN.out _).mono ?_
        rintro e w8 ⟨v8, rfl, own8, xx⟩
        try go_wp2_with fail
        replace yy := ext_trans yy xx
        obtain ⟨A3, c3, rfl, k3, kc, kn, kb0⟩ := own8.cells
        clear own8
        have hT1 := keepK.out _ yy
        refine hK.out _ _ hT1 (fun _ => trivial) ?_
        clear hK K
        try simp only [Act.put, List.setIfInBounds_toArray, List.set_cons_zero, List.set_cons_succ]
        refine anyK_take 6 (oi := ?oo8) ?ho8 (by kernel_rfl) (by kernel_rfl) (by kernel_rfl) (by kernel_rfl) ?hq8 ?hw8 hT1 (fun _ => trivial) (v := ?vv8) ?hy8 ?hk8
        case ho8 => (simp only [List.getElem?_toArray, List.getElem?_cons_succ, List.getElem?_cons_zero]; rfl)
        case hq8 => exact fun _ _ _ h => h
        case hw8 => rfl
        case hy8 =>
          intro W hW
          go_simp
          first | done | with_reducible rfl
        case hk8 =>
        try simp only [Act.put, List.setIfInBounds_toArray, List.set_cons_zero, List.set_cons_succ]
        refine anyK_done (by kernel_rfl) ?_ _
        clear keepK hT0 hT1
        have x8 := yy
        have kb : ∀ a, A3 = some a → w6.heap.size ≤ a.block := kb0
        have HB8 := HB6.out.ext x8
        have L0 := Lib.hid (show VLoopP m n most P w bv B S SP s U F A3 0 w8 from ⟨HB8.c0, HB8.c1, HB8.c2, HB8.s0, HB8.s1,
          ⟨F, ⟨HB8.mp, fun x h => h, HREST.out.1, fun x hx => by
            rcases List.mem_cons.1 hx with rfl | hx
            · exact HPS.out
            · exact HREST.out.2.1 x hx, by have := HLN.out; have := HL.out; simp; omega⟩, fun t ht => absurd ht (by simp)⟩,
          seen_ext HS6.out x8, HB8.g, k3⟩)
        have KB := Lib.hid kb
        have hNs : (nxP m n s).length ≤ 2000 := nxP_len m n HS2.out
        have HNS := Lib.hid hNs
        obtain ⟨N, hN⟩ : ∃ N, N = (nxP m n s).length := ⟨_, rfl⟩
        rw [← hN] at HNS ⊢
        have HN := Lib.hid hN
        have HSL7 := Lib.hid (show S < w6.heap.size from HSL.out)
        clear x8 yy xx k3 kc kn kb kb0 hN hNs HB6 HB8 HS6 C0 C1 C2 HBN HSL
        go_wp2_with fail
        go_loopw [50] (fun i wr => ∃ k : Nat, k ≤ N ∧ i = .int .i64 (k : Int) ∧ VLoopP m n most P w bv B S SP s U F A3 k wr) (fun i wr => N - (intOf i).toNat)
        case atStart => exact ⟨0, Nat.zero_le _, rfl, L0.out⟩
        case round =>
          obtain ⟨k, hk, rfl, hV⟩ := hrel
          by_cases hkN : k < N
          · obtain ⟨x, hx⟩ : ∃ x, (nxP m n s)[k]? = some x := ⟨_, List.getElem?_eq_getElem (by rw [← HN.out]; exact hkN)⟩
            have hxm : x ∈ nxP m n s := List.mem_of_getElem? hx
            have hxs : rkP x < rkP s := falls_pair m n s x hxm
            obtain ⟨b, o, rfl, hc1, hc2⟩ := pair_get hV.cells hx
            have hPx := (HP.out s HPS.out).2 x hxm
            have hxl := grP_le m n ((HP.out x hPx).1)
            have HXL := Lib.hid (show grP m n x ≤ 1000000 by omega)
            have HPX := Lib.hid hPx
            have HXS := Lib.hid hxs
            have HX := Lib.hid hx
            have HK := Lib.hid hkN
            have t0 : decide ((k : Int) < (N : Int)) = true := decide_eq_true (by omega)
            have t0n : decide (k < N) = true := decide_eq_true hkN
            have j0 : (k : Int) < (N : Int) := by omega
            have b0 : (k : Int) ≤ 20000 := by have := HNS.out; omega
            have HKB := Lib.hid (KB.out _ rfl)
            have HSB3 : Hid (some S ≠ some b) := by
              have h1 := HKB.out
              have h2 := HSL7.out
              exact hide fun e => by injection e with e; simp only at h1; omega
            have HBB3 : Hid (some B ≠ some b) := by
              have h1 := HKB.out
              have h2 := HLT.out
              have h3 := HSB.out
              have h4 := HSL7.out
              exact hide fun e => by injection e with e; simp only at h1; omega
            have HSBn : Hid (S ≠ B) := by
              have h1 := HSB.out
              have h2 := HLT.out
              exact hide (by omega)
            have hk1 := Blk.new wr 26 #[.int .i64 (x.1 : Int), .int .i64 (x.2 : Int)]
            have hV1 := hV.ext (ext_alloc (Below.refl _ _) (.cells #[.int .i64 (x.1 : Int), .int .i64 (x.2 : Int)] 26))
            have HK1 := Lib.hid hk1
            have HV := Lib.hid hV1
            clear hV hx hxm hxs hk hkN hPx hxl KB HKB hk1 hV1
            go_upto_region 13 with fail
            generalize wr.alloc (.cells #[.int .i64 (x.1 : Int), .int .i64 (x.2 : Int)] 26) = w9 at *
            have f1 := HK1.out.cell
            obtain ⟨F', hF', hT'⟩ := HV.out.found
            have HCALL := Lib.hid (IH.out x (by have h1 := HS.out; have h2 := HXS.out; omega) w9 bv B (s :: U) F' HV.out.c0 HV.out.c1 HV.out.c2 HNE.out ⟨hF'.1, fun x h => absurd h List.not_mem_nil, hF'.2.2⟩ (fun u hu => by
              rcases List.mem_cons.1 hu with rfl | hu
              · exact HXS.out
              · exact Nat.lt_trans HXS.out (HU.out u hu)) HPX.out)
            have HF' := Lib.hid hF'
            have HT' := Lib.hid hT'
            clear hF' hT' hc1 hc2
            generalize wr.heap.size = BX at *
            generalize hgx : grP m n x = gx at *
            have HGX := Lib.hid hgx
            clear hgx
            go_wp2_with fail
            refine HCALL.out.mono ?_
            rintro e w10 ⟨g5, hpost⟩
            have hcell5 := cells_grown HV.out.cells g5 (fun a ha => by injection ha with ha; subst ha; exact HBB3.out)
            rcases hpost with ⟨F2, rfl, hF2, hxF2⟩ | ⟨rfl, hover⟩
            · have hs5 := HV.out.seen.kept g5 (by have := HSBn.out; simpa using this)
              rw [HGX.out]
              obtain ⟨w11, r6, s6, g6⟩ := hs5.put (t := 102) Try.underlying102 (by have := HNS.out; have := HK.out; rw [List.length_map, List.length_take]; unfold maxLen; omega) HXL.out
              have q5 : some bv ≠ some B := by simpa using HNE.out
              have q6 : some bv ≠ some S := by
                have h1 := HSB.out
                have h2 := HBV.out
                exact fun e => by injection e with e; omega
              have q7 : some SP ≠ some B := by
                have h1 := HLT.out
                have h2 := HSPE.out
                exact fun e => by injection e with e; omega
              have q8 : some SP ≠ some S := by
                have h1 := HSPS.out
                exact fun e => by injection e with e; omega
              have htk : (nxP m n s).take (k + 1) = (nxP m n s).take k ++ [x] := by rw [List.take_add_one, HX.out]; rfl
              have H6 := Lib.hid (show VLoopP m n most P w bv B S SP s U F (some ⟨b, o, none⟩) (k + 1) w11 from ⟨
                g6.cell (g5.cell HV.out.c0 q5) q6, g6.cell (g5.cell HV.out.c1 q5) q6, g6.cell (g5.cell HV.out.c2 q5) q6, g6.cell (g5.cell HV.out.s0 q7) q8, g6.cell (g5.cell HV.out.s1 q7) q8,
                ⟨F2, ⟨hF2.1.kept g6 (fun e => HSBn.out (by injection e with e; exact e.symm)), fun y hy => hF2.2.1 y (HF'.out.2.1 y hy), hF2.2.2⟩, fun y hy => by
                  rw [htk] at hy
                  rcases List.mem_append.1 hy with hy | hy
                  · exact hF2.2.1 y (HT'.out y hy)
                  · obtain rfl := List.mem_singleton.1 hy
                    exact hxF2⟩,
                by rw [htk, List.map_append, List.map_cons, List.map_nil, HGX.out]; exact s6,
                grown_new (grown_trans HV.out.grown g5) g6 HSB.out,
                cells_grown hcell5 g6 (fun a ha => by injection ha with ha; subst ha; exact HSB3.out)⟩)
              clear hcell5 hs5 s6 g6 q5 q6 q7 q8 htk hF2 hxF2 g5 HV HF' HT' f1 HCALL
              go_wp2
              go_roundw
              case rel => exact ⟨k + 1, HK.out, by go_num, H6.out⟩
              case measure => have := HK.out; simp [intOf]; omega
            · have HO := Lib.hid hover
              have HG5 := Lib.hid (grown_trans HV.out.grown g5)
              clear hover g5 hcell5 HV HF' HT' f1 HCALL
              go_wp2
              go_ret2
              exact ⟨HG5.out, .inr ⟨rfl, HO.out⟩⟩
          · obtain rfl : k = N := by omega
            obtain ⟨F', hF', hT'⟩ := hV.found
            have hs := hV.seen
            rw [HN.out, List.take_length] at hs hT'
            have hG := gr_is (falls_pair m n) s
            have hgl : gr (nxP m n) rkP s ≤ 2000 := grP_le m n HS2.out
            have HG := Lib.hid hG
            have HLK := Lib.hid (fun q (hq : q ≤ 2000) => hs.look (t := 102) Try.underlying102 (k := q) (by omega))
            have HV := Lib.hid hV
            have HF' := Lib.hid hF'
            have HT' := Lib.hid hT'
            have HGL := Lib.hid hgl
            have t0 : decide ((k : Int) < (k : Int)) = false := decide_eq_false (by omega)
            have t0n : decide (k < k) = false := decide_eq_false (by omega)
            clear hG hgl hs hV hF' hT' hk hkN
            obtain ⟨G, hGe⟩ : ∃ G, G = grP m n s := ⟨_, rfl⟩
            have HGE := Lib.hid hGe
            rw [show gr (nxP m n) rkP s = G from hGe.symm] at HG HGL
            clear hGe
            go_wp2_with fail
            go_loop [13] (fun i => ∃ q : Nat, q ≤ G ∧ i = .int .i64 (q : Int)) (fun i => G - (intOf i).toNat)
            case atStart => exact ⟨0, Nat.zero_le _, rfl⟩
            case round =>
              obtain ⟨q, hq, rfl⟩ := hrel
              have hqs : q ≤ 2000 := by have := HGL.out; omega
              have r1 := HLK.out q hqs
              have b0 : (q : Int) ≤ 20000 := by omega
              by_cases hqG : q < G
              · have hmem : decide (q ∈ (nxP m n s).map (grP m n)) = true := decide_eq_true (HG.out.2 q hqG)
                rw [hmem] at r1
                have HQ := Lib.hid hqG
                clear hmem hq hqs hqG
                go_wp2
                go_round
                case rel => exact ⟨q + 1, HQ.out, by simp⟩
                case measure => have := HQ.out; simp [intOf]; omega
              · obtain rfl : q = G := by omega
                have hmem : decide (q ∈ (nxP m n s).map (grP m n)) = false := decide_eq_false HG.out.1
                rw [hmem] at r1
                clear hmem hq hqs hqG
                go_upto_region 21 with fail
                have c2 := HV.out.c2
                have s0 := HV.out.s0
                have s1 := HV.out.s1
                go_still_tail 6, (by kernel_rfl)
                have HVD := Lib.hid (HV.out.drewN 1)
                have HFD := Lib.hid (show FoundN keyP (grP m n) (nxP m n) P (wr.drewN 1) B (s :: U) F F' most from HF'.out)
                change wpList _ _ _ _ _ (wr.drewN 1)
                clear c2 s0 s1 HV HF' r1 HLK
                generalize wr.drewN 1 = w12 at *
                obtain ⟨w13, r6, M6, g6⟩ := HFD.out.1.done keyP_good Try.underlying78 (by have h1 := HFD.out.2.2.2.2; have h2 := HM0.out; simp only [List.length_cons] at h1; unfold maxLen; omega) (by rw [← HGE.out]; have := HGL.out; omega)
                rw [show keyP.kv s = pairV s from rfl, ← HGE.out] at r6
                have hmx := HFD.out
                have hR : ValPost keyP (grP m n) (nxP m n) P w B U F most s (.returned (.tuple #[.int .i64 (q : Int), .int .i64 0])) w13 :=
                  ⟨grown_trans HVD.out.grown g6, .inl ⟨s :: F', by rw [HGE.out], ⟨M6, fun y hy => List.mem_cons_of_mem _ (hmx.2.1 y hy), fun y hy t ht => by
                    rcases List.mem_cons.1 hy with rfl | hy
                    · exact List.mem_cons_of_mem _ (HT'.out t ht)
                    · exact List.mem_cons_of_mem _ (hmx.2.2.1 y hy t ht), fun y hy => by
                      refine hmx.2.2.2.1 y ?_
                      rcases List.mem_append.1 hy with hy | hy
                      · exact List.mem_append.2 (.inl (List.mem_cons_of_mem _ hy))
                      · rcases List.mem_cons.1 hy with rfl | hy
                        · exact List.mem_append.2 (.inl (List.mem_cons_self ..))
                        · exact List.mem_append.2 (.inr hy), by have := hmx.2.2.2.2; simp only [List.length_cons] at this ⊢; omega⟩, List.mem_cons_self ..⟩⟩
                have HR := Lib.hid hR
                clear hR hmx M6 g6 HVD HFD
                go_wp2
                go_ret2
                exact HR.out
end Go.Proofs.Ythgbdonjheengaa
