/- Walk: Run. Walk: Best. What the rows of sampled games have. No walk. Walk: walked. -/
import Derived.Test.YtdoibgmmijhlfaaGWalkB
import Derived.Laws.ResultCell
import Derived.Test.YtdoibgmmijhlfaaGSmall
import Derived.Test.YtdoibgmmijhlfaaGSamples
import Derived.Test.YtdoibgmmijhlfaaGPlays
namespace Go.Proofs.Ytdoibgmmijhlfaa
open Go.ChangeShapes Go.WideShapes Go.ChangeAt Go.RowKit Go.Shelf
set_option linter.unusedVariables false
set_option linter.unusedSimpArgs false
/-- A move with its visits and points. -/
structure WMov where
  m : MoveM
  v : Int
  p : Int
def WMov.vals (x : WMov) : List Value := [.int .i64 x.m.src, .int .i64 x.m.dst, .int .i64 x.m.piece, .int .i64 x.v, .int .i64 x.p]
/-- A slice value that owns a row of moves with visits and points. -/
def OwnW (w0 w : World) (v : Value) (L : List WMov) : Prop := ∃ A c, v = .slice A L.length c ∧ w.ownsRow w0.heap.size 39 5 (.slice A L.length c) L.length (L.flatMap WMov.vals)
theorem OwnW.ext {w0 w W : World} {v : Value} {L : List WMov} (h : OwnW w0 w v L) (x : Ext w W) : OwnW w0 W v L := by
  obtain ⟨A, c, e, o⟩ := h
  exact ⟨A, c, e, own_ext o x⟩
theorem wmInfo : (Try.prog.info? 39).map (fun i => (i.zero, i.size, i.bytes)) = some (some (.agg #[.int .i64 0, .int .i64 0, .int .i64 0, .int .i64 0, .int .i64 0]), 5, 40) := by kernel_rfl
set_option maxHeartbeats 1000000 in
theorem oper_append_wm {o : Oper} {a : Act} {K : Act → World → Prop} {Q : Exit → Act → World → Prop} (s x : Operand)
    (ho : o.op = .call { callee := .builtin .append, args := #[s, x], argTypes := #[30, 30] }) (w0 w : World) (v : Value) (xs : List WMov) (m : WMov) (hs : a.eval s = v) (hown : OwnW w0 w v xs) (hx : a.eval x = .slice (some ⟨w.heap.size, 0, none⟩) 1 1)
    (hext : Ext w0 w) (hlen : xs.length ≤ 1000000) (h : ∀ v' w', OwnW w0 w' v' (xs ++ [m]) → Ext w0 w' → w.grownBy w' v.ownBlock → TFr [39] w w' → K (a.put o.dst v') w') :
    Oper.wp Try.prog o a (w.alloc (.cells #[.int .i64 m.m.src, .int .i64 m.m.dst, .int .i64 m.m.piece, .int .i64 m.v, .int .i64 m.p] 39)) K Q := by
  obtain ⟨A, c, rfl, hown⟩ := hown
  obtain ⟨i0, hi, hz0, hz1, hz2⟩ := info_parts wmInfo
  have hsz := hext.size
  obtain ⟨v', w', hrun, h2, h3⟩ := run_append_cells (P := Try.prog) _ w0.heap.size 30 o.type 39 i0 (.agg #[.int .i64 0, .int .i64 0, .int .i64 0, .int .i64 0, .int .i64 0]) 5 40 Try.underlying30 hi hz0 hz1 hz2 rfl (by decide) _ xs.length (xs.flatMap WMov.vals) (own_ext hown (ext_alloc (Below.refl _ _) _)) (some ⟨w.heap.size, 0, none⟩) 1 1 m.vals rfl (cellsAt_new w 39 m.vals) (by simp [WMov.vals, Value.oneCell']) (by simp only [maxLen]; omega) (by omega) (by simp; omega) (by simp)
  unfold Oper.wp execOp
  simp only [ho, resolve, invoke, builtin, Sem.run_bind, Sem.run_pure, Result.andThen_ok, List.map_toArray, List.map_cons, List.map_nil, hs, hx, hrun, show #[Value.int .i64 m.m.src, .int .i64 m.m.dst, .int .i64 m.m.piece, .int .i64 m.v, .int .i64 m.p] = m.vals.toArray from rfl]
  obtain ⟨A', c', rfl, _, _⟩ := own_shape h2
  have f : TFr [39] w w' := (TFr.of_ext (ext_alloc (Below.refl _ _) _)).trans (TFr.grown (own_ext hown (ext_alloc (Below.refl _ _) _)) (List.mem_singleton.2 rfl) h3)
  refine h _ w' ⟨A', c', by simp, by simpa using h2⟩ (ext_grown (ext_alloc hext _) h3 (own_row hown)) ?_ f
  exact ⟨h3.os, h3.tape, h3.output, by have := h3.size; simp at this; omega, fun b hb hn => by
    rw [h3.block b (by simp; omega) hn]
    exact Below.heap_alloc w _ b hb⟩
/-- What walk.Run answers. -/
def runE (R : RulesM) (P : PosM) (s n : Int) : Int := if checkE R P ≠ 0 then checkE R P else if srcE s ≠ 0 then 4 else if n < 0 ∨ 2000 < n then 1 else if resultM R P ≠ 0 then 14 else 0
def walkM (R : RulesM) (s : Int) (P : PosM) (n : Nat) : List WMov := (List.range (listM R P).length).map fun i => ⟨(listM R P).getD i ⟨0, 0, 0⟩, ((runW R s P n).1.kids.getD i NT.nil).a, ((runW R s P n).1.kids.getD i NT.nil).b⟩
theorem walkM_len (R : RulesM) (s : Int) (P : PosM) (n : Nat) : (walkM R s P n).length = (listM R P).length := by unfold walkM; simp
theorem runE_zero {R : RulesM} {P : PosM} {s n : Int} (h : runE R P s n = 0) : checkE R P = 0 ∧ srcE s = 0 ∧ 0 ≤ n ∧ n ≤ 2000 ∧ resultM R P = 0 := by
  unfold runE at h
  by_cases h1 : checkE R P = 0
  · rw [if_neg (by simpa using h1)] at h
    by_cases h2 : srcE s = 0
    · rw [if_neg (by simpa using h2)] at h
      by_cases h3 : n < 0 ∨ 2000 < n
      · rw [if_pos h3] at h; omega
      · rw [if_neg h3] at h
        by_cases h4 : resultM R P = 0
        · exact ⟨h1, h2, by omega, by omega, h4⟩
        · rw [if_pos h4] at h; omega
    · rw [if_pos h2] at h; omega
  · rw [if_pos h1] at h; exact absurd h h1
theorem srcE_zero {s : Int} (h : srcE s = 0) : 0 ≤ s ∧ s ≤ 100000000 := by
  unfold srcE at h
  by_cases h1 : s < 0 ∨ 100000000 < s
  · rw [if_pos h1] at h; omega
  · omega
theorem runW_draws (R : RulesM) (s : Int) (P : PosM) : ∀ i, (runW R s P i).2 ≤ 200 * i
  | 0 => Nat.le_refl _
  | i + 1 => by
    have h1 := runW_draws R s P i
    have h2 := (stepW_draws R s 20000 true (runW R s P i).1 (runW R s P i).2).2
    show (stepW R s 20000 true (runW R s P i).1 (runW R s P i).2).2.1 ≤ _
    omega
/-- A row of moves that ends with the k-th. -/
def wrowM (L : List MoveM) (ks : List NT) (k : Nat) : List WMov := (List.range k).map fun i => ⟨L.getD i ⟨0, 0, 0⟩, (ks.getD i NT.nil).a, (ks.getD i NT.nil).b⟩
theorem wrow_len (L : List MoveM) (ks : List NT) (k : Nat) : (wrowM L ks k).length = k := by unfold wrowM; simp
theorem wrow_succ {L : List MoveM} {ks : List NT} {k : Nat} {mv : MoveM} {q : NT} (h1 : L[k]? = some mv) (h2 : ks[k]? = some q) : wrowM L ks (k + 1) = wrowM L ks k ++ [⟨mv, q.a, q.b⟩] := by
  unfold wrowM
  rw [List.range_succ, List.map_append]
  simp only [List.map_cons, List.map_nil, List.getD_eq_getElem?_getD, h1, h2, Option.getD_some]
def RunPost (w : World) (L : List WMov) (e : Ending) (w' : World) : Prop := ∃ v, e = .returned (.tuple #[v, .int .i64 0]) ∧ OwnW w w' v L ∧ Ext w w'
/-- A step from the root or from a node below. -/
theorem step_any {w0 : World} {BX BS : Nat} {R : RulesM} {s : Int} {k : Nat} (hV : Valid R) (hb : w0.heap.size ≤ BS) (s0 : 0 ≤ s) (s1 : s ≤ 100000000) (k1 : k ≤ 90000000) : ∀ (n m : Nat) (w : World) (B : Nat) (t : NT) (S : Nat → Prop) (V : Int) (first : Bool), n + 1 ≤ m → Ext w0 w → SamplerAt w0 w BX BS R → SourceAt w BS s k → TreeW w0 n w B t S → WInv R V t → V ≤ 4000 →
    Calls Try.prog 37 #[.pointer (some ⟨BX, 0, none⟩), .pointer (some ⟨B, 0, none⟩), .bool first] w (StepPost w0 w BS s B (n + 1) S (stepW R s m first t k)) := by
  intro n
  induction n with
  | zero => intro m w B t S V first _ _ _ _ h; exact h.elim
  | succ n ih =>
    intro m w B t S V first hm x0 hX hSo hT hI hVm
    obtain ⟨m, rfl⟩ : ∃ q, m = q + 1 := ⟨m - 1, by omega⟩
    have up : ∀ {N : Nat} {r : NT × Nat × Int} {e : Ending} {w' : World}, N ≤ n + 1 + 1 → StepPost w0 w BS s B N S r e w' → StepPost w0 w BS s B (n + 1 + 1) S r e w' := fun hN h => by
      obtain ⟨h1, S', h2, h3⟩ := h
      exact ⟨h1, S', h2.monoN hN, h3⟩
    cases t with
    | node P a b ex ks =>
      rcases step_cases R first (.node P a b ex ks) with hr | ⟨hr, hf, ha⟩ | ⟨hr, ho⟩
      · exact (step_over hV x0 hX hSo hb s0 s1 k1 hT hI hVm hr).mono (fun e w' h => up (by omega) h)
      · exact (step_fresh hV x0 hX hSo hb s0 s1 k1 hT hI hVm hr hf ha).mono (fun e w' h => up (by omega) h)
      · have hSo' : Sound R P := hI.sound
        have hgI := hI.grow hV (by have := hI.bd; omega) hr
        have hlt := choose_lt (growW_kids (t := .node P a b ex ks) hI.sound hr)
        have hall : ∀ (N N' : Nat) (hN : N ≤ N') (hN2 : N' + 1 ≤ n + 1 + 1) (hgr : ∀ (W : World), Ext w W → Calls Try.prog 36 #[.pointer (some ⟨BX, 0, none⟩), .pointer (some ⟨B, 0, none⟩)] W (GrowPost w0 W B (N + 1) S (growW R (.node P a b ex ks))))
            (ihk : ∀ (W : World) (bk : Nat) (T : Nat → Prop), Ext w0 W → SamplerAt w0 W BX BS R → SourceAt W BS s k → TreeW w0 N W bk ((growW R (.node P a b ex ks)).kids.getD (chooseW (growW R (.node P a b ex ks))) NT.nil) T →
              Calls Try.prog 37 #[.pointer (some ⟨BX, 0, none⟩), .pointer (some ⟨bk, 0, none⟩), .bool false] W (StepPost w0 W BS s bk N' T (stepW R s m false ((growW R (.node P a b ex ks)).kids.getD (chooseW (growW R (.node P a b ex ks))) NT.nil) k))),
            Calls Try.prog 37 #[.pointer (some ⟨BX, 0, none⟩), .pointer (some ⟨B, 0, none⟩), .bool first] w (StepPost w0 w BS s B (n + 1 + 1) S (stepW R s (m + 1) first (.node P a b ex ks) k)) := fun N N' hN hN2 hgr ihk => by
          cases first
          · exact (step_open_false hV x0 hX hSo hb s0 s1 k1 hT hI hVm hr (ho.resolve_left (by decide)) hN hgr ihk).mono (fun e w' h => up hN2 h)
          · exact (step_open_true hV x0 hX hSo hb s0 s1 k1 hT hI hVm hr hN hgr ihk).mono (fun e w' h => up hN2 h)
        by_cases hk : ks = []
        · subst hk
          refine hall 1 1 (Nat.le_refl _) (by omega) (fun W x => grow_yes hV (ext_trans x0 x) (hX.ext x) (hT.ext pwn_ne int_ne_twn x) hSo') (fun W bk T xW hXW hSW hTW => ?_)
          have hkid := hgI.kid _ _ (getD_get' hlt)
          obtain ⟨mv, hmv, e⟩ : ∃ mv, (listM R P)[chooseW (growW R (.node P a b ex []))]? = some mv ∧ (growW R (.node P a b ex [])).kids.getD (chooseW (growW R (.node P a b ex []))) NT.nil = freshW (makeM R P mv) := by
            have h := getD_get' hlt
            have hg : (growW R (.node P a b ex [])).kids = kidsW R P := by unfold growW; rw [if_pos (show (NT.node P a b ex []).kids = [] from rfl)]; rfl
            have h' : (kidsW R P)[chooseW (growW R (.node P a b ex []))]? = some ((growW R (.node P a b ex [])).kids.getD (chooseW (growW R (.node P a b ex []))) NT.nil) := by rw [← hg]; exact h
            exact kidsW_get h'
          generalize (growW R (.node P a b ex [])).kids.getD (chooseW (growW R (.node P a b ex []))) NT.nil = kd at *
          subst e
          obtain ⟨m, rfl⟩ : ∃ q, m = q + 1 := ⟨m - 1, by omega⟩
          by_cases hr2 : resultM R (makeM R P mv) ≠ 0
          · exact step_over (n := 0) hV xW hXW hSW hb s0 s1 k1 hTW hkid hVm hr2
          · exact step_fresh (n := 0) hV xW hXW hSW hb s0 s1 k1 hTW hkid hVm (by omega) rfl rfl
        · have hg : growW R (.node P a b ex ks) = .node P a b ex ks := if_neg hk
          refine hall n (n + 1) (by omega) (by omega) (fun W x => grow_no (ext_trans x0 x) (hT.ext pwn_ne int_ne_twn x) hk) (fun W bk T xW hXW hSW hTW => ?_)
          exact ih m W bk _ T V false (by omega) xW hXW hSW hTW (hgI.kid _ _ (getD_get' hlt)) hVm

set_option maxHeartbeats 4000000 in
set_option maxRecDepth 100000 in
theorem Run_no (R : RulesM) (P : PosM) (v u : Value) (s n : Int) (w : World) (hR : RulesAt w v R) (hP : PosAt w u P) (h : runE R P s n ≠ 0) :
    Calls Try.prog 5 #[v, u, .int .i64 s, .int .i64 n] w fun e w' => e = .returned (.tuple #[.slice none 0 0, .int .i64 (runE R P s n)]) ∧ Ext w w' := by
  have HC := hide (fun W (hW : Ext w W) => PCheck_any R P v u W (hR.ext hW) (hP.ext hW))
  have HE := hide (show runE R P s n = if checkE R P ≠ 0 then checkE R P else if srcE s ≠ 0 then 4 else if n < 0 ∨ 2000 < n then 1 else if resultM R P ≠ 0 then 14 else 0 from rfl)
  have HRS := hide (fun (hc : checkE R P = 0) W (hW : Ext w W) => Result_any R P v u W (hR.ext hW) (hP.ext hW) (check_iff.1 hc).1 (check_iff.1 hc).2)
  obtain ⟨pA, pc, sA, sc, eA, ec, rfl, -⟩ := hR
  obtain ⟨cA, cc, aA, ac, bA, bc, rfl, -⟩ := hP
  obtain ⟨x1, k1, k2⟩ := blks2 w #[.string R.name, .int .i64 R.width, .int .i64 R.height, .slice pA R.pieces.length pc, .slice sA R.start.length sc, .bool R.falls, .bool R.keeps, .slice eA R.ends.length ec, .int .i64 R.blocked, .int .i64 R.quiet, .int .i64 R.rept] 26 #[.slice cA P.cells.length cc, .slice aA P.hand0.length ac, .slice bA P.hand1.length bc, .int .i64 P.turn, .int .i64 P.quiet] 29
  have HX := hide x1
  have K1 := hide k1
  have K2 := hide k2
  have f1 := k1.cell
  have f2 := k2.cell
  have HNE := hide h
  clear x1 k1 k2 h
  generalize runE R P s n = F at *
  generalize checkE R P = E at *
  generalize resultM R P = rr at *
  by_cases hE : E = 0
  · subst hE
    have HE2 := hide (HE.out.trans (if_neg (by decide)))
    clear HE
    go_enter Try.func5, Try.ntmps5
    go_wp2_with fail
    refine (HC.out _ HX.out).mono ?_
    rintro e w2 ⟨rfl, x2⟩
    have X2 := hide (ext_trans HX.out x2)
    have K12 := hide (K1.out.ext x2)
    have K22 := hide (K2.out.ext x2)
    clear f1 f2 x2 HX HC K1 K2
    have f1 := K12.out.cell
    have f2 := K22.out.cell
    by_cases hs : srcE s = 0
    · have HE3 := hide (HE2.out.trans (if_neg (by simpa using hs)))
      have HNS := hide (fun W => NewSource_yes s W hs)
      clear HE2 hs
      go_wp2_with fail
      refine (HNS.out _).mono ?_
      rintro e w3 ⟨BS, rfl, -, -, x3⟩
      have X3 := hide (ext_trans X2.out x3)
      have K13 := hide (K12.out.ext x3)
      have K23 := hide (K22.out.ext x3)
      clear f1 f2 x3 X2 HNS K12 K22
      have f1 := K13.out.cell
      have f2 := K23.out.cell
      by_cases hd : n < 0
      · obtain rfl : F = 1 := HE3.out.trans (if_pos (.inl hd))
        have t0 : decide (n < 0) = true := decide_eq_true hd
        clear hd HE3 HNE HRS
        go_wp2
        go_ret2
        exact ⟨rfl, X3.out⟩
      · have t0 : decide (n < 0) = false := decide_eq_false hd
        by_cases hd2 : 2000 < n
        · obtain rfl : F = 1 := HE3.out.trans (if_pos (.inr hd2))
          have t1 : decide (2000 < n) = true := decide_eq_true hd2
          clear hd hd2 HE3 HNE HRS
          go_wp2
          go_ret2
          exact ⟨rfl, X3.out⟩
        · have t1 : decide (2000 < n) = false := decide_eq_false hd2
          have HE4 := hide (HE3.out.trans (if_neg (by omega)))
          have hrr : rr ≠ 0 := fun e => HNE.out (HE4.out.trans (if_neg (by simpa using e)))
          obtain rfl : F = 14 := HE4.out.trans (if_pos hrr)
          have t2 : (rr != 0) = true := by simpa using hrr
          clear hd hd2 HE3 HE4 HNE hrr
          go_wp2_with fail
          refine (HRS.out (by trivial) _ X3.out).mono ?_
          rintro e w4 ⟨rfl, x4⟩
          have X4 := hide (ext_trans X3.out x4)
          clear f1 f2 x4 X3
          go_wp2
          go_ret2
          exact ⟨rfl, X4.out⟩
    · obtain rfl : F = 4 := HE2.out.trans (if_pos hs)
      have HNS := hide (fun W => NewSource_no s W hs)
      clear HE2 HNE HRS hs
      go_wp2_with fail
      refine (HNS.out _).mono ?_
      rintro e w3 ⟨rfl, x3⟩
      have X3 := hide (ext_trans X2.out x3)
      clear f1 f2 x3 X2 HNS
      go_wp2
      go_ret2
      exact ⟨rfl, X3.out⟩
  · obtain rfl : F = E := by rw [HE.out, if_pos hE]
    have t0 : (F != 0) = true := by simpa using hE
    clear hE HE HNE HRS
    go_enter Try.func5, Try.ntmps5
    go_wp2_with fail
    refine (HC.out _ HX.out).mono ?_
    rintro e w2 ⟨rfl, x2⟩
    have X2 := hide (ext_trans HX.out x2)
    clear f1 f2 x2 HX HC
    go_wp2
    go_ret2
    exact ⟨rfl, X2.out⟩
set_option maxHeartbeats 8000000 in
set_option maxRecDepth 100000 in
theorem Run_yes (R : RulesM) (P : PosM) (v u : Value) (s D : Int) (w : World) (hR : RulesAt w v R) (hP : PosAt w u P) (h : runE R P s D = 0) :
    Calls Try.prog 5 #[v, u, .int .i64 s, .int .i64 D] w (RunPost w (walkM R s P D.toNat)) := by
  obtain ⟨hc, hs, d0, d1, hr⟩ := runE_zero h
  obtain ⟨hV, hS⟩ := check_iff.1 hc
  obtain ⟨s0, s1⟩ := srcE_zero hs
  have HC := hide (fun W (hW : Ext w W) => PCheck_any R P v u W (hR.ext hW) (hP.ext hW))
  rw [hc] at HC
  have HRS := hide (fun W (hW : Ext w W) => Result_any R P v u W (hR.ext hW) (hP.ext hW) hV hS)
  rw [hr] at HRS
  have HLI := hide (fun W (hW : Ext w W) => List_any R P v u W (hR.ext hW) (hP.ext hW) hV hS)
  have HNS := hide (fun W => NewSource_yes s W hs)
  have HV := hide hV
  have HLL := hide (listM_len hV hS)
  have HS := hide hS
  have HGR := hide (fun (W : World) (BX BS B : Nat) (S : Nat → Prop) (x0 : Ext w W) (hX : SamplerAt w W BX BS R) (hT : TreeW w 1 W B (.node P 1 0 false []) S) => grow_yes (m := 0) hV x0 hX hT hS)
  have HST := hide (fun (n : Nat) (W : World) (BX BS B k : Nat) (t : NT) (S : Nat → Prop) (V : Int) (hn : n + 1 ≤ 20000) (hb : w.heap.size ≤ BS) (k1 : k ≤ 90000000) (x : Ext w W) (hX : SamplerAt w W BX BS R) (hSo : SourceAt W BS s k) (hT : TreeW w n W B t S) (hI : WInv R V t) (hVm : V ≤ 4000) => step_any hV hb s0 s1 k1 n 20000 W B t S V true hn x hX hSo hT hI hVm)
  have HIN := hide (fun i => run_inv (s := s) hV hS hr i)
  have HDR := hide (fun i => runW_draws R s P i)
  have HSU := hide (fun i => (show runW R s P (i + 1) = ((stepW R s 20000 true (runW R s P i).1 (runW R s P i).2).1, (stepW R s 20000 true (runW R s P i).1 (runW R s P i).2).2.1) from rfl))
  obtain ⟨b, hb⟩ := Int.eq_ofNat_of_zero_le d0
  have hb' : D = (b : Int) := hb
  subst hb'
  have HWM := hide (show walkM R s P b = wrowM (listM R P) (runW R s P b).1.kids (listM R P).length from rfl)
  have HW0 := hide (show runW R s P 0 = (growW R (.node P 1 0 false []), 0) from rfl)
  rw [Int.toNat_natCast]
  have hb5 : b ≤ 2000 := by omega
  unfold RunPost
  generalize walkM R s P b = T at *
  generalize runW R s P = rw0 at *
  have HR := hide hR
  have HP := hide hP
  obtain ⟨pA, pc, sA, sc, eA, ec, rfl, -⟩ := hR
  obtain ⟨cA, cc, aA, ac, bA, bc, rfl, -⟩ := hP
  obtain ⟨x1, k1, k2⟩ := blks2 w #[.string R.name, .int .i64 R.width, .int .i64 R.height, .slice pA R.pieces.length pc, .slice sA R.start.length sc, .bool R.falls, .bool R.keeps, .slice eA R.ends.length ec, .int .i64 R.blocked, .int .i64 R.quiet, .int .i64 R.rept] 26 #[.slice cA P.cells.length cc, .slice aA P.hand0.length ac, .slice bA P.hand1.length bc, .int .i64 P.turn, .int .i64 P.quiet] 29
  have HX1 := hide x1
  have K1 := hide k1
  have K2 := hide k2
  have f1 := k1.cell
  have f2 := k2.cell
  have t0 : decide ((b : Int) < 0) = false := decide_eq_false (by omega)
  have t1 : decide ((2000 : Int) < (b : Int)) = false := decide_eq_false (by omega)
  clear x1 k1 k2 hV hS h hc d0 d1 hb hs hr
  go_enter Try.func5, Try.ntmps5
  go_wp2_with fail
  refine (HC.out _ HX1.out).mono ?_
  rintro e w4 ⟨rfl, x2⟩
  have K14 := hide (K1.out.ext x2)
  have K24 := hide (K2.out.ext x2)
  have X4 := hide (ext_trans HX1.out x2)
  clear f1 f2 x2 HX1 HC K1 K2
  have f1 := K14.out.cell
  have f2 := K24.out.cell
  go_wp2_with fail
  refine (HNS.out _).mono ?_
  rintro e w5 ⟨BS, rfl, hbs, hso, x3⟩
  have HBS : Hid (w.heap.size ≤ BS) := hide (Nat.le_trans X4.out.size hbs)
  have HSO := hide hso
  have K15 := hide (K14.out.ext x3)
  have K25 := hide (K24.out.ext x3)
  have X5 := hide (ext_trans X4.out x3)
  clear f1 f2 x3 X4 HNS K14 K24 hbs hso
  have f1 := K15.out.cell
  have f2 := K25.out.cell
  go_wp2_with fail
  refine (HRS.out _ X5.out).mono ?_
  rintro e w6 ⟨rfl, x4⟩
  have HSO6 : Hid (SourceAt w6 BS s (0 : Nat)) := hide (Blk.ext HSO.out x4)
  have K16 := hide (K15.out.ext x4)
  have K26 := hide (K25.out.ext x4)
  have X6 := hide (ext_trans X5.out x4)
  clear f1 f2 x4 X5 HRS K15 K25 HSO
  have f1 := K16.out.cell
  have f2 := K26.out.cell
  go_upto_region 12 with fail
  obtain ⟨x7, kX⟩ := blks1 w6 #[.string R.name, .int .i64 R.width, .int .i64 R.height, .slice pA R.pieces.length pc, .slice sA R.start.length sc, .bool R.falls, .bool R.keeps, .slice eA R.ends.length ec, .int .i64 R.blocked, .int .i64 R.quiet, .int .i64 R.rept, .pointer (some ⟨BS, 0, none⟩)] 82
  have HSO7 : Hid (SourceAt (w6.alloc (.cells #[.string R.name, .int .i64 R.width, .int .i64 R.height, .slice pA R.pieces.length pc, .slice sA R.start.length sc, .bool R.falls, .bool R.keeps, .slice eA R.ends.length ec, .int .i64 R.blocked, .int .i64 R.quiet, .int .i64 R.rept, .pointer (some ⟨BS, 0, none⟩)] 82)) BS s (0 : Nat)) := hide (Blk.ext HSO6.out x7)
  have K17 := hide (K16.out.ext x7)
  have K27 := hide (K26.out.ext x7)
  have X7 := hide (ext_trans X6.out x7)
  have HKX := hide kX
  clear f1 f2 x7 kX X6 K16 K26 HSO6 t0 t1
  generalize w6.alloc (.cells #[.string R.name, .int .i64 R.width, .int .i64 R.height, .slice pA R.pieces.length pc, .slice sA R.start.length sc, .bool R.falls, .bool R.keeps, .slice eA R.ends.length ec, .int .i64 R.blocked, .int .i64 R.quiet, .int .i64 R.rept, .pointer (some ⟨BS, 0, none⟩)] 82) = w7 at *
  generalize w6.heap.size = BX at *
  have f1 := K17.out.cell
  have f2 := K27.out.cell
  go_upto_region 13 with fail
  obtain ⟨x8, kN⟩ := blks1 w7 #[.slice cA P.cells.length cc, .slice aA P.hand0.length ac, .slice bA P.hand1.length bc, .int .i64 P.turn, .int .i64 P.quiet, .int .i64 1, .int .i64 0, .slice none 0 0] 86
  have HSO8' : Hid (SourceAt (w7.alloc (.cells #[.slice cA P.cells.length cc, .slice aA P.hand0.length ac, .slice bA P.hand1.length bc, .int .i64 P.turn, .int .i64 P.quiet, .int .i64 1, .int .i64 0, .slice none 0 0] 86)) BS s (0 : Nat)) := hide (Blk.ext HSO7.out x8)
  have K18' := hide (K17.out.ext x8)
  have K28' := hide (K27.out.ext x8)
  have X8' := hide (ext_trans X7.out x8)
  have HKX8 := hide (HKX.out.ext x8)
  have HKN := hide kN
  have HBN : Hid (w.heap.size ≤ w7.heap.size) := hide X7.out.size
  clear f1 f2 x8 kN X7 K17 K27 HSO7 HKX
  generalize w7.alloc (.cells #[.slice cA P.cells.length cc, .slice aA P.hand0.length ac, .slice bA P.hand1.length bc, .int .i64 P.turn, .int .i64 P.quiet, .int .i64 1, .int .i64 0, .slice none 0 0] 86) = w7' at *
  generalize w7.heap.size = BN at *
  have HSO7 := HSO8'
  have K17 := K18'
  have K27 := K28'
  have X7 := X8'
  have HKX := HKX8
  clear HSO8' K18' K28' X8' HKX8
  have HSX : Hid (SamplerAt w w7' BX BS R) := hide ⟨_, _, _, _, _, _, HKX.out, HR.out⟩
  have hT7 : TreeW w 1 w7' BN (.node P 1 0 false []) (fun q => q = BN) := ⟨_, _, _, _, _, none, 0, [], fun _ _ => False, HKN.out, .inl HP.out, World.ownsRow_nil _ _ _ _, fun _ => ⟨rfl, rfl⟩, HBN.out, rfl, fun i k b hi => by simp [NT.kids] at hi, fun i hi => by simp [NT.kids] at hi, fun i j hi => by simp [NT.kids] at hi, fun q => ⟨.inl, fun h => h.elim id (fun ⟨i, hi, _⟩ => by simp [NT.kids] at hi)⟩⟩
  have HG7 := hide (HGR.out w7' BX BS BN _ X7.out HSX.out hT7)
  clear hT7 HGR HKX HKN HP
  go_wp2_with fail
  refine HG7.out.mono ?_
  rintro e w8 ⟨rfl, S8, hT8, hS8, hM8, hx8, hz8⟩
  have HT8 := hide hT8
  have HSX8 := hide (HSX.out.wfr (WFr.of_mfr hM8))
  have HSO8 : Hid (SourceAt w8 BS s (0 : Nat)) := hide (hM8 _ _ _ HSO7.out (fun e => absurd e (by decide)))
  have K18 := hide (hM8 _ _ _ K17.out (fun e => absurd e (by decide)))
  have K28 := hide (hM8 _ _ _ K27.out (fun e => absurd e (by decide)))
  have X8 := hide hx8
  clear hT8 hS8 hM8 hx8 hz8 HG7 HSX HSO7 K17 K27 X7
  go_wp2
  go_loopw [56] (fun i wr => ∃ (k : Nat) (S : Nat → Prop), k ≤ b ∧ i = .int .i64 k ∧ TreeW w (k + 2) wr BN (rw0 k).1 S ∧ SamplerAt w wr BX BS R ∧ SourceAt wr BS s (rw0 k).2 ∧ Ext w wr ∧ Blk wr w.heap.size 26 #[.string R.name, .int .i64 R.width, .int .i64 R.height, .slice pA R.pieces.length pc, .slice sA R.start.length sc, .bool R.falls, .bool R.keeps, .slice eA R.ends.length ec, .int .i64 R.blocked, .int .i64 R.quiet, .int .i64 R.rept] ∧ Blk wr (w.heap.size + 1) 29 #[.slice cA P.cells.length cc, .slice aA P.hand0.length ac, .slice bA P.hand1.length bc, .int .i64 P.turn, .int .i64 P.quiet]) (fun i _ => b - (intOf i).toNat)
  case atStart => exact ⟨0, S8, Nat.zero_le _, rfl, by rw [HW0.out]; exact HT8.out, HSX8.out, by rw [HW0.out]; exact HSO8.out, X8.out, K18.out, K28.out⟩
  case round =>
    obtain ⟨k, S, hk, rfl, hT, hX, hSo, hx, hk1, hk2⟩ := hrel
    have HTr := hide hT
    have HXr := hide hX
    have HSOr := hide hSo
    have XR := hide hx
    have K1r := hide hk1
    have K2r := hide hk2
    clear hT hX hSo hx hk1 hk2 HT8 HSX8 HSO8 X8 K18 K28
    by_cases hlt : k < b
    · have t4 : decide ((k : Int) < (b : Int)) = true := by simpa using hlt
      have HS1 := hide (HST.out (k + 2) _ BX BS BN _ _ S _ (by omega) HBS.out (by have := HDR.out k; omega) XR.out HXr.out HSOr.out HTr.out (HIN.out k).1 (by omega))
      have HUP := hide (HSU.out k)
      generalize stepW R s 20000 true (rw0 k).1 (rw0 k).2 = r at *
      obtain ⟨t', k', x⟩ := r
      go_wp2_with fail
      refine HS1.out.mono ?_
      rintro e w9 ⟨rfl, S', hT9, -, hM9, hs9, hx9, -⟩
      have HT9 := hide hT9
      have HX9 := hide (HXr.out.wfr hM9)
      have HS9 := hide hs9
      have X9 := hide hx9
      have K19 := hide (hM9 _ _ _ K1r.out (fun e => absurd e (by decide)) (by decide))
      have K29 := hide (hM9 _ _ _ K2r.out (fun e => absurd e (by decide)) (by decide))
      clear hT9 hM9 hs9 hx9 HS1
      go_wp2
      go_roundw
      case rel => exact ⟨k + 1, S', by omega, by go_num, by rw [HUP.out]; exact HT9.out, HX9.out, by rw [HUP.out]; exact HS9.out, X9.out, K19.out, K29.out⟩
      case measure => simp [intOf]; omega
    · obtain rfl : k = b := by omega
      have t4 : decide ((k : Int) < (k : Int)) = false := by simp
      have HKL := hide ((HIN.out k).2.2)
      clear HST HIN HDR HSU HW0 hlt hk
      generalize rw0 k = tn at *
      obtain ⟨t, kd⟩ := tn
      obtain ⟨L, hL⟩ : ∃ L, listM R P = L := ⟨_, rfl⟩
      rw [hL] at HLL HLI HWM HKL
      clear hL
      cases t with
      | node P9 a9 b9 ex9 ks =>
      replace HWM : Hid (T = wrowM L ks L.length) := HWM
      replace HKL : Hid (ks.length = L.length) := HKL
      obtain ⟨c0, c1, c2, c3, c4, A9, cc9, bs, Ss, h1, h2, h3, h4, h5, h6, h7, h8, h9, h10⟩ := HTr.out
      replace h1 : Blk wr BN 86 #[c0, c1, c2, c3, c4, .int .i64 a9, .int .i64 b9, .slice A9 ks.length cc9] := h1
      replace h6 : bs.length = ks.length := h6
      have HCELL := hide (fun (i : Nat) (k : NT) (b : Nat) (e1 : ks[i]? = some k) (e2 : bs[i]? = some b) => (h7 i k b e1 e2).numsW)
      have HROW := hide (own_cells h3).1
      have H1 := hide h1
      have H6 := hide h6
      have f1 := K1r.out.cell
      have f2 := K2r.out.cell
      clear h1 h2 h3 h4 h5 h6 h7 h8 h9 h10 HTr HXr HSOr
      go_wp2_with fail
      refine (HLI.out _ XR.out).mono ?_
      rintro e wl ⟨vl, rfl, hl, x9⟩
      have HLO := hide hl.at_
      obtain ⟨lA, lc, rfl, -⟩ := hl
      have XL := hide (ext_trans XR.out x9)
      have H1L := hide (H1.out.ext x9)
      have HCELLL := hide (fun (i : Nat) (k : NT) (b : Nat) (e1 : ks[i]? = some k) (e2 : bs[i]? = some b) => (⟨x9.cell (HCELL.out i k b e1 e2).1, x9.cell (HCELL.out i k b e1 e2).2⟩ : wl.cell? ⟨b, 5, none⟩ = some (.int .i64 k.a) ∧ wl.cell? ⟨b, 6, none⟩ = some (.int .i64 k.b)))
      have HROWL := hide (HROW.out.ext x9)
      clear f1 f2 x9 XR H1 HCELL HROW HLI K1r K2r
      go_wp2
      go_loopw [15, 66] (fun o i wr => ∃ k : Nat, k ≤ L.length ∧ i = .int .i64 k ∧ OwnW wl wr o (wrowM L ks k) ∧ Ext wl wr) (fun _ i _ => L.length - (intOf i).toNat)
      case atStart => exact ⟨0, Nat.zero_le _, rfl, ⟨none, 0, rfl, World.ownsRow_nil _ _ _ _⟩, Below.refl _ _⟩
      case round =>
        obtain ⟨i, hi, rfl, hO, hx⟩ := hrel
        have OO := hide hO
        have XX := hide hx
        obtain ⟨oA, oc, rfl, -⟩ := hO
        have hll := HLL.out
        have HLN := hide (wrow_len L ks i)
        clear hx
        by_cases hlt : i < L.length
        · obtain ⟨q, bk, hq, hbk⟩ := kid_of H6.out (show i < ks.length by rw [HKL.out]; exact hlt)
          obtain ⟨mv, hmv⟩ : ∃ mv, L[i]? = some mv := ⟨L[i], List.getElem?_eq_getElem _⟩
          have HSUC := hide (wrow_succ hmv hq)
          obtain ⟨n5, n6⟩ := HCELLL.out i q bk hq hbk
          obtain ⟨gA, go, rfl, hcell⟩ := HROWL.out i (ptrV bk) (by rw [List.getElem?_map, hbk]; rfl)
          obtain ⟨lA', lc', e', hc'⟩ := HLO.out.ext XX.out
          simp only [Value.slice.injEq, true_and] at e'
          obtain ⟨rfl, rfl⟩ := e'
          obtain ⟨b', o', rfl, m0, m1, m2⟩ := moves_get hc' hmv
          unfold ptrV at hcell
          have N5 := hide n5
          have N6 := hide n6
          have NC := hide hcell
          have i0 : (0 : Int) ≤ (i : Int) := by omega
          have i1 : (i : Int) < (L.length : Int) := by omega
          have i2 : (i : Int) < (ks.length : Int) := by have := HKL.out; omega
          clear hq hbk hmv n5 n6 hcell hc'
          generalize q.a = qa at *
          generalize q.b = qb at *
          generalize wrowM L ks i = row at *
          go_upto_region 22 with fail
          obtain ⟨x5, k5⟩ := blks1 wr #[.int .i64 mv.src, .int .i64 mv.dst, .int .i64 mv.piece] 37
          have KM5 := hide k5
          have X5 := hide (ext_trans XX.out x5)
          have O5 := hide (OO.out.ext x5)
          clear x5 k5 m0 m1 m2 XX OO
          generalize wr.alloc (.cells #[.int .i64 mv.src, .int .i64 mv.dst, .int .i64 mv.piece] 37) = w5 at *
          generalize wr.heap.size = BM at *
          have zz : Ext w5 w5.drew := Below.drew (Below.refl _ _)
          have keepK := hide (fun W (h : Ext wl W ∧ Blk W BM 37 #[.int .i64 mv.src, .int .i64 mv.dst, .int .i64 mv.piece]) => (show (fun W => W.cell? ⟨BM, 0, none⟩ = some (.int .i64 mv.src) ∧ W.cell? ⟨BM, 1, none⟩ = some (.int .i64 mv.dst) ∧ W.cell? ⟨BM, 2, none⟩ = some (.int .i64 mv.piece) ∧ W.cell? ⟨BN, 7, none⟩ = some (.slice (some ⟨gA, go, none⟩) ks.length cc9) ∧ W.cell? ⟨gA, go + i, none⟩ = some (.pointer (some ⟨bk, 0, none⟩)) ∧ W.cell? ⟨bk, 5, none⟩ = some (.int .i64 qa) ∧ W.cell? ⟨bk, 6, none⟩ = some (.int .i64 qb) ∧ Ext wl W ∧ Blk W BM 37 #[.int .i64 mv.src, .int .i64 mv.dst, .int .i64 mv.piece]) W from ⟨h.2.cell 0, h.2.cell 1, h.2.cell 2, (H1L.out.ext h.1).cell 7, h.1.cell NC.out, h.1.cell N5.out, h.1.cell N6.out, h⟩))
          have yy := (⟨ext_trans X5.out zz, KM5.out.ext zz⟩ : Ext wl w5.drew ∧ Blk w5.drew BM 37 #[.int .i64 mv.src, .int .i64 mv.dst, .int .i64 mv.piece])
          refine region_K (fun W => W.cell? ⟨BM, 0, none⟩ = some (.int .i64 mv.src) ∧ W.cell? ⟨BM, 1, none⟩ = some (.int .i64 mv.dst) ∧ W.cell? ⟨BM, 2, none⟩ = some (.int .i64 mv.piece) ∧ W.cell? ⟨BN, 7, none⟩ = some (.slice (some ⟨gA, go, none⟩) ks.length cc9) ∧ W.cell? ⟨gA, go + i, none⟩ = some (.pointer (some ⟨bk, 0, none⟩)) ∧ W.cell? ⟨bk, 5, none⟩ = some (.int .i64 qa) ∧ W.cell? ⟨bk, 6, none⟩ = some (.int .i64 qb) ∧ Ext wl W ∧ Blk W BM 37 #[.int .i64 mv.src, .int .i64 mv.dst, .int .i64 mv.piece]) (fun _ => True) [] (by kernel_rfl) ?_
          have hT0 := keepK.out _ yy
          refine anyK_take 0 (oi := ?oo1) ?ho1 (by kernel_rfl) (by kernel_rfl) (by kernel_rfl) (by kernel_rfl) ?hq1 ?hw1 hT0 (fun _ => trivial) (v := ?vv1) ?hy1 ?hk1
          case ho1 => (simp only [List.getElem?_toArray, List.getElem?_cons_succ, List.getElem?_cons_zero]; rfl)
          case hq1 => exact fun _ _ _ h => h
          case hw1 => rfl
          case hy1 =>
            intro W hW
            go_simp
            first | done | with_reducible rfl
          case hk1 =>
          try simp only [Act.put, List.setIfInBounds_toArray, List.set_cons_zero, List.set_cons_succ]
          refine anyK_take 1 (oi := ?oo2) ?ho2 (by kernel_rfl) (by kernel_rfl) (by kernel_rfl) (by kernel_rfl) ?hq2 ?hw2 hT0 (fun _ => trivial) (v := ?vv2) ?hy2 ?hk2
          case ho2 => (simp only [List.getElem?_toArray, List.getElem?_cons_succ, List.getElem?_cons_zero]; rfl)
          case hq2 => exact fun _ _ _ h => h
          case hw2 => rfl
          case hy2 =>
            intro W hW
            obtain ⟨z0, z1, z2, z3, z4, z5, z6, z7⟩ := hW
            go_simp
            first | done | with_reducible rfl
          case hk2 =>
          try simp only [Act.put, List.setIfInBounds_toArray, List.set_cons_zero, List.set_cons_succ]
          refine anyK_take 2 (oi := ?oo3) ?ho3 (by kernel_rfl) (by kernel_rfl) (by kernel_rfl) (by kernel_rfl) ?hq3 ?hw3 hT0 (fun _ => trivial) (v := ?vv3) ?hy3 ?hk3
          case ho3 => (simp only [List.getElem?_toArray, List.getElem?_cons_succ, List.getElem?_cons_zero]; rfl)
          case hq3 => exact fun _ _ _ h => h
          case hw3 => rfl
          case hy3 =>
            intro W hW
            go_simp
            first | done | with_reducible rfl
          case hk3 =>
          try simp only [Act.put, List.setIfInBounds_toArray, List.set_cons_zero, List.set_cons_succ]
          refine anyK_take 3 (oi := ?oo4) ?ho4 (by kernel_rfl) (by kernel_rfl) (by kernel_rfl) (by kernel_rfl) ?hq4 ?hw4 hT0 (fun _ => trivial) (v := ?vv4) ?hy4 ?hk4
          case ho4 => (simp only [List.getElem?_toArray, List.getElem?_cons_succ, List.getElem?_cons_zero]; rfl)
          case hq4 => exact fun _ _ _ h => h
          case hw4 => rfl
          case hy4 =>
            intro W hW
            go_simp
            first | done | with_reducible rfl
          case hk4 =>
          try simp only [Act.put, List.setIfInBounds_toArray, List.set_cons_zero, List.set_cons_succ]
          refine anyK_take 4 (oi := ?oo5) ?ho5 (by kernel_rfl) (by kernel_rfl) (by kernel_rfl) (by kernel_rfl) ?hq5 ?hw5 hT0 (fun _ => trivial) (v := ?vv5) ?hy5 ?hk5
          case ho5 => (simp only [List.getElem?_toArray, List.getElem?_cons_succ, List.getElem?_cons_zero]; rfl)
          case hq5 => exact fun _ _ _ h => h
          case hw5 => rfl
          case hy5 =>
            intro W hW
            go_simp
            first | done | with_reducible rfl
          case hk5 =>
          try simp only [Act.put, List.setIfInBounds_toArray, List.set_cons_zero, List.set_cons_succ]
          refine anyK_take 5 (oi := ?oo6) ?ho6 (by kernel_rfl) (by kernel_rfl) (by kernel_rfl) (by kernel_rfl) ?hq6 ?hw6 hT0 (fun _ => trivial) (v := ?vv6) ?hy6 ?hk6
          case ho6 => (simp only [List.getElem?_toArray, List.getElem?_cons_succ, List.getElem?_cons_zero]; rfl)
          case hq6 => exact fun _ _ _ h => h
          case hw6 => rfl
          case hy6 =>
            intro W hW
            obtain ⟨z0, z1, z2, z3, z4, z5, z6, z7⟩ := hW
            go_simp
            first | done | with_reducible rfl
          case hk6 =>
          try simp only [Act.put, List.setIfInBounds_toArray, List.set_cons_zero, List.set_cons_succ]
          refine anyK_take 6 (oi := ?oo7) ?ho7 (by kernel_rfl) (by kernel_rfl) (by kernel_rfl) (by kernel_rfl) ?hq7 ?hw7 hT0 (fun _ => trivial) (v := ?vv7) ?hy7 ?hk7
          case ho7 => (simp only [List.getElem?_toArray, List.getElem?_cons_succ, List.getElem?_cons_zero]; rfl)
          case hq7 => exact fun _ _ _ h => h
          case hw7 => rfl
          case hy7 =>
            intro W hW
            go_simp
            first | done | with_reducible rfl
          case hk7 =>
          try simp only [Act.put, List.setIfInBounds_toArray, List.set_cons_zero, List.set_cons_succ]
          refine anyK_take 7 (oi := ?oo8) ?ho8 (by kernel_rfl) (by kernel_rfl) (by kernel_rfl) (by kernel_rfl) ?hq8 ?hw8 hT0 (fun _ => trivial) (v := ?vv8) ?hy8 ?hk8
          case ho8 => (simp only [List.getElem?_toArray, List.getElem?_cons_succ, List.getElem?_cons_zero]; rfl)
          case hq8 => exact fun _ _ _ h => h
          case hw8 => rfl
          case hy8 =>
            intro W hW
            go_simp
            first | done | with_reducible rfl
          case hk8 =>
          try simp only [Act.put, List.setIfInBounds_toArray, List.set_cons_zero, List.set_cons_succ]
          refine anyK_take 8 (oi := ?oo9) ?ho9 (by kernel_rfl) (by kernel_rfl) (by kernel_rfl) (by kernel_rfl) ?hq9 ?hw9 hT0 (fun _ => trivial) (v := ?vv9) ?hy9 ?hk9
          case ho9 => (simp only [List.getElem?_toArray, List.getElem?_cons_succ, List.getElem?_cons_zero]; rfl)
          case hq9 => exact fun _ _ _ h => h
          case hw9 => rfl
          case hy9 =>
            intro W hW
            obtain ⟨z0, z1, z2, z3, z4, z5, z6, z7⟩ := hW
            go_simp
            first | done | with_reducible rfl
          case hk9 =>
          try simp only [Act.put, List.setIfInBounds_toArray, List.set_cons_zero, List.set_cons_succ]
          refine anyK_take 9 (oi := ?oo10) ?ho10 (by kernel_rfl) (by kernel_rfl) (by kernel_rfl) (by kernel_rfl) ?hq10 ?hw10 hT0 (fun _ => trivial) (v := ?vv10) ?hy10 ?hk10
          case ho10 => (simp only [List.getElem?_toArray, List.getElem?_cons_succ, List.getElem?_cons_zero]; rfl)
          case hq10 => exact fun _ _ _ h => h
          case hw10 => rfl
          case hy10 =>
            intro W hW
            go_simp
            first | done | with_reducible rfl
          case hk10 =>
          try simp only [Act.put, List.setIfInBounds_toArray, List.set_cons_zero, List.set_cons_succ]
          refine anyK_take 10 (oi := ?oo11) ?ho11 (by kernel_rfl) (by kernel_rfl) (by kernel_rfl) (by kernel_rfl) ?hq11 ?hw11 hT0 (fun _ => trivial) (v := ?vv11) ?hy11 ?hk11
          case ho11 => (simp only [List.getElem?_toArray, List.getElem?_cons_succ, List.getElem?_cons_zero]; rfl)
          case hq11 => exact fun _ _ _ h => h
          case hw11 => rfl
          case hy11 =>
            intro W hW
            go_simp
            first | done | with_reducible rfl
          case hk11 =>
          try simp only [Act.put, List.setIfInBounds_toArray, List.set_cons_zero, List.set_cons_succ]
          refine anyK_take 11 (oi := ?oo12) ?ho12 (by kernel_rfl) (by kernel_rfl) (by kernel_rfl) (by kernel_rfl) ?hq12 ?hw12 hT0 (fun _ => trivial) (v := ?vv12) ?hy12 ?hk12
          case ho12 => (simp only [List.getElem?_toArray, List.getElem?_cons_succ, List.getElem?_cons_zero]; rfl)
          case hq12 => exact fun _ _ _ h => h
          case hw12 => rfl
          case hy12 =>
            intro W hW
            obtain ⟨z0, z1, z2, z3, z4, z5, z6, z7⟩ := hW
            go_simp
            first | done | with_reducible rfl
          case hk12 =>
          try simp only [Act.put, List.setIfInBounds_toArray, List.set_cons_zero, List.set_cons_succ]
          refine anyK_take 12 (oi := ?oo13) ?ho13 (by kernel_rfl) (by kernel_rfl) (by kernel_rfl) (by kernel_rfl) ?hq13 ?hw13 hT0 (fun _ => trivial) (v := ?vv13) ?hy13 ?hk13
          case ho13 => (simp only [List.getElem?_toArray, List.getElem?_cons_succ, List.getElem?_cons_zero]; rfl)
          case hq13 => exact fun _ _ _ h => h
          case hw13 => rfl
          case hy13 =>
            intro W hW
            go_simp
            first | done | with_reducible rfl
          case hk13 =>
          try simp only [Act.put, List.setIfInBounds_toArray, List.set_cons_zero, List.set_cons_succ]
          refine anyK_take 13 (oi := ?oo14) ?ho14 (by kernel_rfl) (by kernel_rfl) (by kernel_rfl) (by kernel_rfl) ?hq14 ?hw14 hT0 (fun _ => trivial) (v := ?vv14) ?hy14 ?hk14
          case ho14 => (simp only [List.getElem?_toArray, List.getElem?_cons_succ, List.getElem?_cons_zero]; rfl)
          case hq14 => exact fun _ _ _ h => h
          case hw14 => rfl
          case hy14 =>
            intro W hW
            go_simp
            first | done | with_reducible rfl
          case hk14 =>
          try simp only [Act.put, List.setIfInBounds_toArray, List.set_cons_zero, List.set_cons_succ]
          refine anyK_take 14 (oi := ?oo15) ?ho15 (by kernel_rfl) (by kernel_rfl) (by kernel_rfl) (by kernel_rfl) ?hq15 ?hw15 hT0 (fun _ => trivial) (v := ?vv15) ?hy15 ?hk15
          case ho15 => (simp only [List.getElem?_toArray, List.getElem?_cons_succ, List.getElem?_cons_zero]; rfl)
          case hq15 => exact fun _ _ _ h => h
          case hw15 => rfl
          case hy15 =>
            intro W hW
            go_simp
            first | done | with_reducible rfl
          case hk15 =>
          try simp only [Act.put, List.setIfInBounds_toArray, List.set_cons_zero, List.set_cons_succ]
          refine anyK_take 15 (oi := ?oo16) ?ho16 (by kernel_rfl) (by kernel_rfl) (by kernel_rfl) (by kernel_rfl) ?hq16 ?hw16 hT0 (fun _ => trivial) (v := ?vv16) ?hy16 ?hk16
          case ho16 => (simp only [List.getElem?_toArray, List.getElem?_cons_succ, List.getElem?_cons_zero]; rfl)
          case hq16 => exact fun _ _ _ h => h
          case hw16 => rfl
          case hy16 =>
            intro W hW
            obtain ⟨z0, z1, z2, z3, z4, z5, z6, z7⟩ := hW
            go_simp
            first | done | with_reducible rfl
          case hk16 =>
          try simp only [Act.put, List.setIfInBounds_toArray, List.set_cons_zero, List.set_cons_succ]
          refine anyK_take 16 (oi := ?oo17) ?ho17 (by kernel_rfl) (by kernel_rfl) (by kernel_rfl) (by kernel_rfl) ?hq17 ?hw17 hT0 (fun _ => trivial) (v := ?vv17) ?hy17 ?hk17
          case ho17 => (simp only [List.getElem?_toArray, List.getElem?_cons_succ, List.getElem?_cons_zero]; rfl)
          case hq17 => exact fun _ _ _ h => h
          case hw17 => rfl
          case hy17 =>
            intro W hW
            go_simp
            first | done | with_reducible rfl
          case hk17 =>
          try simp only [Act.put, List.setIfInBounds_toArray, List.set_cons_zero, List.set_cons_succ]
          refine anyK_take 17 (oi := ?oo18) ?ho18 (by kernel_rfl) (by kernel_rfl) (by kernel_rfl) (by kernel_rfl) ?hq18 ?hw18 hT0 (fun _ => trivial) (v := ?vv18) ?hy18 ?hk18
          case ho18 => (simp only [List.getElem?_toArray, List.getElem?_cons_succ, List.getElem?_cons_zero]; rfl)
          case hq18 => exact fun _ _ _ h => h
          case hw18 => rfl
          case hy18 =>
            intro W hW
            go_simp
            first | done | with_reducible rfl
          case hk18 =>
          try simp only [Act.put, List.setIfInBounds_toArray, List.set_cons_zero, List.set_cons_succ]
          refine anyK_take 18 (oi := ?oo19) ?ho19 (by kernel_rfl) (by kernel_rfl) (by kernel_rfl) (by kernel_rfl) ?hq19 ?hw19 hT0 (fun _ => trivial) (v := ?vv19) ?hy19 ?hk19
          case ho19 => (simp only [List.getElem?_toArray, List.getElem?_cons_succ, List.getElem?_cons_zero]; rfl)
          case hq19 => exact fun _ _ _ h => h
          case hw19 => rfl
          case hy19 =>
            intro W hW
            obtain ⟨z0, z1, z2, z3, z4, z5, z6, z7⟩ := hW
            go_simp
            first | done | with_reducible rfl
          case hk19 =>
          try simp only [Act.put, List.setIfInBounds_toArray, List.set_cons_zero, List.set_cons_succ]
          refine anyK_take 19 (oi := ?oo20) ?ho20 (by kernel_rfl) (by kernel_rfl) (by kernel_rfl) (by kernel_rfl) ?hq20 ?hw20 hT0 (fun _ => trivial) (v := ?vv20) ?hy20 ?hk20
          case ho20 => (simp only [List.getElem?_toArray, List.getElem?_cons_succ, List.getElem?_cons_zero]; rfl)
          case hq20 => exact fun _ _ _ h => h
          case hw20 => rfl
          case hy20 =>
            intro W hW
            go_simp
            first | done | with_reducible rfl
          case hk20 =>
          try simp only [Act.put, List.setIfInBounds_toArray, List.set_cons_zero, List.set_cons_succ]
          refine anyK_take 20 (oi := ?oo21) ?ho21 (by kernel_rfl) (by kernel_rfl) (by kernel_rfl) (by kernel_rfl) ?hq21 ?hw21 hT0 (fun _ => trivial) (v := ?vv21) ?hy21 ?hk21
          case ho21 => (simp only [List.getElem?_toArray, List.getElem?_cons_succ, List.getElem?_cons_zero]; rfl)
          case hq21 => exact fun _ _ _ h => h
          case hw21 => rfl
          case hy21 =>
            intro W hW
            go_simp
            first | done | with_reducible rfl
          case hk21 =>
          try simp only [Act.put, List.setIfInBounds_toArray, List.set_cons_zero, List.set_cons_succ]
          refine anyK_take 21 (oi := ?oo22) ?ho22 (by kernel_rfl) (by kernel_rfl) (by kernel_rfl) (by kernel_rfl) ?hq22 ?hw22 hT0 (fun _ => trivial) (v := ?vv22) ?hy22 ?hk22
          case ho22 => (simp only [List.getElem?_toArray, List.getElem?_cons_succ, List.getElem?_cons_zero]; rfl)
          case hq22 => exact fun _ _ _ h => h
          case hw22 => rfl
          case hy22 =>
            intro W hW
            obtain ⟨z0, z1, z2, z3, z4, z5, z6, z7⟩ := hW
            go_simp
            first | done | with_reducible rfl
          case hk22 =>
          try simp only [Act.put, List.setIfInBounds_toArray, List.set_cons_zero, List.set_cons_succ]
          refine anyK_take 22 (oi := ?oo23) ?ho23 (by kernel_rfl) (by kernel_rfl) (by kernel_rfl) (by kernel_rfl) ?hq23 ?hw23 hT0 (fun _ => trivial) (v := ?vv23) ?hy23 ?hk23
          case ho23 => (simp only [List.getElem?_toArray, List.getElem?_cons_succ, List.getElem?_cons_zero]; rfl)
          case hq23 => exact fun _ _ _ h => h
          case hw23 => rfl
          case hy23 =>
            intro W hW
            go_simp
            first | done | with_reducible rfl
          case hk23 =>
          try simp only [Act.put, List.setIfInBounds_toArray, List.set_cons_zero, List.set_cons_succ]
          refine anyK_on1 23 (by kernel_rfl) ?_
          refine anyK_one 23 (o := ?oo24) ?ho24 ?hk24
          case ho24 => (simp only [List.getElem?_toArray, List.getElem?_cons_succ, List.getElem?_cons_zero]; rfl)
          case hk24 =>
          intro K hK
          go_simp
          replace yy := (⟨ext_trans X5.out (ext_alloc zz _), KM5.out.ext (ext_alloc zz _)⟩ : Ext wl (w5.drew.alloc (.cells #[.int .i64 mv.src, .int .i64 mv.dst, .int .i64 mv.piece, .int .i64 qa, .int .i64 qb] 39)) ∧ Blk (w5.drew.alloc (.cells #[.int .i64 mv.src, .int .i64 mv.dst, .int .i64 mv.piece, .int .i64 qa, .int .i64 qb] 39)) BM 37 #[.int .i64 mv.src, .int .i64 mv.dst, .int .i64 mv.piece])
          have hT1 := keepK.out _ yy
          refine hK.out _ _ hT1 (fun _ => trivial) ?_
          clear hK K
          try simp only [Act.put, List.setIfInBounds_toArray, List.set_cons_zero, List.set_cons_succ]
          refine anyK_on1 24 (by kernel_rfl) ?_
          refine anyK_one 24 (o := ?oo25) ?ho25 ?hk25
          case ho25 => (simp only [List.getElem?_toArray, List.getElem?_cons_succ, List.getElem?_cons_zero]; rfl)
          case hk25 =>
          intro K hK
          refine ite_yes' rfl ?_
          refine oper_append_wm (.tmp 71) (.tmp 94) rfl wl w5.drew (.slice oA row.length oc) row ⟨mv, qa, qb⟩ (by first | rfl | (simp; done)) (O5.out.ext zz) rfl (ext_trans X5.out zz) (by have := HLN.out; omega) ?_
          intro v9 w9 own9 x9 g9 f9
          replace yy := (⟨x9, f9 _ _ _ (KM5.out.ext zz) (by decide)⟩ : Ext wl w9 ∧ Blk w9 BM 37 #[.int .i64 mv.src, .int .i64 mv.dst, .int .i64 mv.piece])
          obtain ⟨A9', n9, c9, rfl⟩ : ∃ A n c, v9 = .slice A n c := by obtain ⟨A, c, e, -⟩ := own9; exact ⟨_, _, _, e⟩
          have OWN9 := hide own9
          clear own9 x9 g9 f9
          have hT2 := keepK.out _ yy
          refine hK.out _ _ hT2 (fun _ => trivial) ?_
          clear hK K
          try simp only [Act.put, List.setIfInBounds_toArray, List.set_cons_zero, List.set_cons_succ]
          refine anyK_take 25 (oi := ?oo26) ?ho26 (by kernel_rfl) (by kernel_rfl) (by kernel_rfl) (by kernel_rfl) ?hq26 ?hw26 hT2 (fun _ => trivial) (v := ?vv26) ?hy26 ?hk26
          case ho26 => (simp only [List.getElem?_toArray, List.getElem?_cons_succ, List.getElem?_cons_zero]; rfl)
          case hq26 => exact fun _ _ _ h => h
          case hw26 => rfl
          case hy26 =>
            intro W hW
            go_simp
            first | done | with_reducible rfl
          case hk26 =>
          try simp only [Act.put, List.setIfInBounds_toArray, List.set_cons_zero, List.set_cons_succ]
          refine anyK_done (by kernel_rfl) ?_ _
          clear keepK hT0 hT1 hT2
          have X9 := hide yy.1
          clear yy zz KM5 O5 X5 N5 N6 NC
          go_wp2
          go_roundw
          case rel => exact ⟨i + 1, by omega, by go_num, by rw [HSUC.out]; exact OWN9.out, X9.out⟩
          case measure => simp [intOf]; omega
        · obtain rfl : i = L.length := by omega
          clear HCELLL HROWL HLO H1L
          go_wp2
          go_ret2
          refine ⟨_, rfl, ?_, ext_trans XL.out XX.out⟩
          rw [HWM.out]
          obtain ⟨A, c, e, o⟩ := OO.out
          exact ⟨A, c, e, own_mono o XL.out.size⟩

end Go.Proofs.Ytdoibgmmijhlfaa
namespace Go.Proofs.Ytdoibgmmijhlfaa
open Go.ChangeShapes Go.WideShapes Go.ChangeAt Go.RowKit Go.Shelf
set_option linter.unusedVariables false
set_option linter.unusedSimpArgs false
theorem wm_get {w : World} {A : Option Addr} {L : List WMov} (h : CellsAt w A (L.flatMap WMov.vals)) {k : Nat} {x : WMov} (hk : L[k]? = some x) :
    ∃ b o, A = some ⟨b, o, none⟩ ∧ w.cell? ⟨b, o + k * 5, none⟩ = some (.int .i64 x.m.src) ∧ w.cell? ⟨b, o + k * 5 + 1, none⟩ = some (.int .i64 x.m.dst) ∧ w.cell? ⟨b, o + k * 5 + 2, none⟩ = some (.int .i64 x.m.piece) ∧ w.cell? ⟨b, o + k * 5 + 3, none⟩ = some (.int .i64 x.v) ∧ w.cell? ⟨b, o + k * 5 + 4, none⟩ = some (.int .i64 x.p) := by
  have g := fun j hj => flat_get WMov.vals 5 (fun _ => rfl) L k j x hk hj
  obtain ⟨b, o, rfl, h0⟩ := h (k * 5 + 0) _ (g 0 (by omega))
  obtain ⟨_, _, e1, h1⟩ := h (k * 5 + 1) _ (g 1 (by omega))
  obtain ⟨_, _, e2, h2⟩ := h (k * 5 + 2) _ (g 2 (by omega))
  obtain ⟨_, _, e3, h3⟩ := h (k * 5 + 3) _ (g 3 (by omega))
  obtain ⟨_, _, e4, h4⟩ := h (k * 5 + 4) _ (g 4 (by omega))
  simp only [Option.some.injEq, Addr.mk.injEq, and_true] at e1 e2 e3 e4
  obtain ⟨rfl, rfl⟩ := e1
  obtain ⟨rfl, rfl⟩ := e2
  obtain ⟨rfl, rfl⟩ := e3
  obtain ⟨rfl, rfl⟩ := e4
  exact ⟨b, o, rfl, h0, h1, h2, h3, h4⟩
def moreW (b x : WMov) : WMov := if b.v < x.v then x else b
/-- The first move with the most visits. -/
def bestWL (L : List WMov) : WMov := L.foldl moreW (L.getD 0 ⟨⟨0, 0, 0⟩, 0, 0⟩)
theorem bestW_take {L : List WMov} {a x : WMov} {k : Nat} (h : L[k]? = some x) : (L.take (k + 1)).foldl moreW a = moreW ((L.take k).foldl moreW a) x := by
  rw [List.take_add_one, h, List.foldl_append]
  rfl
set_option maxHeartbeats 4000000 in
set_option maxRecDepth 100000 in
theorem WBest_no (R : RulesM) (P : PosM) (v u : Value) (s n : Int) (w : World) (hR : RulesAt w v R) (hP : PosAt w u P) (h : runE R P s n ≠ 0) :
    Calls Try.prog 10 #[v, u, .int .i64 s, .int .i64 n] w fun e w' => e = .returned (.tuple #[.agg #[.int .i64 0, .int .i64 0, .int .i64 0], .int .i64 (runE R P s n)]) ∧ Ext w w' := by
  have HRN := hide (fun W (hW : Ext w W) => Run_no R P v u s n W (hR.ext hW) (hP.ext hW) h)
  have t0 : (runE R P s n != 0) = true := by simpa using h
  clear h
  generalize runE R P s n = E at *
  obtain ⟨pA, pc, sA, sc, eA, ec, rfl, -⟩ := hR
  obtain ⟨cA, cc, aA, ac, bA, bc, rfl, -⟩ := hP
  obtain ⟨x1, k1, k2, k3⟩ := blks3 w #[.string R.name, .int .i64 R.width, .int .i64 R.height, .slice pA R.pieces.length pc, .slice sA R.start.length sc, .bool R.falls, .bool R.keeps, .slice eA R.ends.length ec, .int .i64 R.blocked, .int .i64 R.quiet, .int .i64 R.rept] 26 #[.slice cA P.cells.length cc, .slice aA P.hand0.length ac, .slice bA P.hand1.length bc, .int .i64 P.turn, .int .i64 P.quiet] 29 #[.int .i64 0, .int .i64 0, .int .i64 0] 37
  have HX := hide x1
  have K3 := hide k3
  have f1 := k1.cell
  have f2 := k2.cell
  have HLT : Hid (w.heap.size ≤ w.heap.size + 1 + 1) := hide (by omega)
  clear x1 k1 k2 k3
  go_enter Try.func10, Try.ntmps10
  go_wp2_with fail
  refine (HRN.out _ HX.out).mono ?_
  rintro e w2 ⟨rfl, x2⟩
  have X2 := hide (ext_trans HX.out x2)
  have KO := hide (K3.out.ext x2)
  clear f1 f2 x2 HX HRN K3
  generalize w.heap.size + 1 + 1 = BO at *
  have gz := KO.out.frozen
  have gc := KO.out.cell
  go_wp2
  have K9 := blk_put (i := 2) (u := .int .i64 0) (blk_put (i := 1) (u := .int .i64 0) (blk_put (i := 0) (u := .int .i64 0) KO.out rfl) rfl) (cs' := #[.int .i64 0, .int .i64 0, .int .i64 0]) rfl
  have X9 := (ext_set (ext_set (ext_set X2.out (p := ⟨BO, 0, none⟩) HLT.out (.int .i64 0)) (p := ⟨BO, 1, none⟩) HLT.out (.int .i64 0)) (p := ⟨BO, 2, none⟩) HLT.out (.int .i64 0))
  generalize (((w2.setCell ⟨BO, 0, none⟩ (.int .i64 0)).setCell ⟨BO, 1, none⟩ (.int .i64 0)).setCell ⟨BO, 2, none⟩ (.int .i64 0)) = Wf at *
  clear gz gc
  have rr0 : Wf.cell? ⟨BO, 0, none⟩ = some (.int .i64 0) := K9.cell 0
  have rr1 : Wf.cell? ⟨BO, 1, none⟩ = some (.int .i64 0) := K9.cell 1
  have rr2 : Wf.cell? ⟨BO, 2, none⟩ = some (.int .i64 0) := K9.cell 2
  refine bodyPost_ret (v := .tuple #[.agg #[.int .i64 0, .int .i64 0, .int .i64 0], .int .i64 E]) ?_ rfl ?_
  · simp [results, Try.results10, go_sem, rr0, rr1, rr2]
  · exact ⟨rfl, X9⟩
set_option maxHeartbeats 4000000 in
set_option maxRecDepth 100000 in
theorem WBest_zero (R : RulesM) (P : PosM) (v u : Value) (s : Int) (w : World) (hR : RulesAt w v R) (hP : PosAt w u P) (h : runE R P s 0 = 0) :
    Calls Try.prog 10 #[v, u, .int .i64 s, .int .i64 0] w fun e w' => e = .returned (.tuple #[.agg #[.int .i64 0, .int .i64 0, .int .i64 0], .int .i64 1]) ∧ Ext w w' := by
  have HRN := hide (fun W (hW : Ext w W) => Run_yes R P v u s 0 W (hR.ext hW) (hP.ext hW) h)
  unfold RunPost at HRN
  clear h
  obtain ⟨pA, pc, sA, sc, eA, ec, rfl, -⟩ := hR
  obtain ⟨cA, cc, aA, ac, bA, bc, rfl, -⟩ := hP
  obtain ⟨x1, k1, k2, k3⟩ := blks3 w #[.string R.name, .int .i64 R.width, .int .i64 R.height, .slice pA R.pieces.length pc, .slice sA R.start.length sc, .bool R.falls, .bool R.keeps, .slice eA R.ends.length ec, .int .i64 R.blocked, .int .i64 R.quiet, .int .i64 R.rept] 26 #[.slice cA P.cells.length cc, .slice aA P.hand0.length ac, .slice bA P.hand1.length bc, .int .i64 P.turn, .int .i64 P.quiet] 29 #[.int .i64 0, .int .i64 0, .int .i64 0] 37
  have HX := hide x1
  have K3 := hide k3
  have f1 := k1.cell
  have f2 := k2.cell
  have HLT : Hid (w.heap.size ≤ w.heap.size + 1 + 1) := hide (by omega)
  clear x1 k1 k2 k3
  go_enter Try.func10, Try.ntmps10
  go_wp2_with fail
  refine (HRN.out _ HX.out).mono ?_
  rintro e w2 ⟨vv, rfl, -, x2⟩
  have X2 := hide (ext_trans HX.out x2)
  have KO := hide (K3.out.ext x2)
  clear f1 f2 x2 HX HRN K3
  generalize w.heap.size + 1 + 1 = BO at *
  have gz := KO.out.frozen
  have gc := KO.out.cell
  go_wp2
  have K9 := blk_put (i := 2) (u := .int .i64 0) (blk_put (i := 1) (u := .int .i64 0) (blk_put (i := 0) (u := .int .i64 0) KO.out rfl) rfl) (cs' := #[.int .i64 0, .int .i64 0, .int .i64 0]) rfl
  have X9 := (ext_set (ext_set (ext_set X2.out (p := ⟨BO, 0, none⟩) HLT.out (.int .i64 0)) (p := ⟨BO, 1, none⟩) HLT.out (.int .i64 0)) (p := ⟨BO, 2, none⟩) HLT.out (.int .i64 0))
  generalize (((w2.setCell ⟨BO, 0, none⟩ (.int .i64 0)).setCell ⟨BO, 1, none⟩ (.int .i64 0)).setCell ⟨BO, 2, none⟩ (.int .i64 0)) = Wf at *
  clear gz gc
  have rr0 : Wf.cell? ⟨BO, 0, none⟩ = some (.int .i64 0) := K9.cell 0
  have rr1 : Wf.cell? ⟨BO, 1, none⟩ = some (.int .i64 0) := K9.cell 1
  have rr2 : Wf.cell? ⟨BO, 2, none⟩ = some (.int .i64 0) := K9.cell 2
  refine bodyPost_ret (v := .tuple #[.agg #[.int .i64 0, .int .i64 0, .int .i64 0], .int .i64 1]) ?_ rfl ?_
  · simp [results, Try.results10, go_sem, rr0, rr1, rr2]
  · exact ⟨rfl, X9⟩
set_option maxHeartbeats 8000000 in
set_option maxRecDepth 100000 in
theorem WBest_yes (R : RulesM) (P : PosM) (v u : Value) (s n : Int) (w : World) (hR : RulesAt w v R) (hP : PosAt w u P) (h : runE R P s n = 0) (hn : n ≠ 0) :
    Calls Try.prog 10 #[v, u, .int .i64 s, .int .i64 n] w fun e w' => e = .returned (.tuple #[.agg #[.int .i64 (bestWL (walkM R s P n.toNat)).m.src, .int .i64 (bestWL (walkM R s P n.toNat)).m.dst, .int .i64 (bestWL (walkM R s P n.toNat)).m.piece], .int .i64 0]) ∧ Ext w w' := by
  obtain ⟨hc, -, -, -, hr⟩ := runE_zero h
  obtain ⟨hV, hS⟩ := check_iff.1 hc
  have HRN := hide (fun W (hW : Ext w W) => Run_yes R P v u s n W (hR.ext hW) (hP.ext hW) h)
  have hlen : (walkM R s P n.toNat).length ≤ 1000000 := by rw [walkM_len]; exact listM_len hV hS
  have hpos : 0 < (walkM R s P n.toNat).length := by rw [walkM_len]; exact List.length_pos_iff.2 (list_ne hS hr)
  unfold RunPost at HRN
  have HBW := hide (show bestWL (walkM R s P n.toNat) = (walkM R s P n.toNat).foldl moreW ((walkM R s P n.toNat).getD 0 ⟨⟨0, 0, 0⟩, 0, 0⟩) from rfl)
  generalize bestWL (walkM R s P n.toNat) = T at *
  generalize walkM R s P n.toNat = L at *
  have t0 : (n == 0) = false := by simpa using hn
  clear h hn hc hV hS hr
  obtain ⟨pA, pc, sA, sc, eA, ec, rfl, -⟩ := hR
  obtain ⟨cA, cc, aA, ac, bA, bc, rfl, -⟩ := hP
  obtain ⟨x1, k1, k2, k3⟩ := blks3 w #[.string R.name, .int .i64 R.width, .int .i64 R.height, .slice pA R.pieces.length pc, .slice sA R.start.length sc, .bool R.falls, .bool R.keeps, .slice eA R.ends.length ec, .int .i64 R.blocked, .int .i64 R.quiet, .int .i64 R.rept] 26 #[.slice cA P.cells.length cc, .slice aA P.hand0.length ac, .slice bA P.hand1.length bc, .int .i64 P.turn, .int .i64 P.quiet] 29 #[.int .i64 0, .int .i64 0, .int .i64 0] 37
  have HX := hide x1
  have K3 := hide k3
  have f1 := k1.cell
  have f2 := k2.cell
  have HLT : Hid (w.heap.size ≤ w.heap.size + 1 + 1) := hide (by omega)
  clear x1 k1 k2 k3
  go_enter Try.func10, Try.ntmps10
  go_wp2_with fail
  refine (HRN.out _ HX.out).mono ?_
  rintro e w2 ⟨vv, rfl, hO, x2⟩
  have X2 := hide (ext_trans HX.out x2)
  have KO := hide (K3.out.ext x2)
  clear f1 f2 x2 HX HRN K3
  generalize w.heap.size + 1 + 1 = BO at *
  obtain ⟨A, c, rfl, o⟩ := hO
  have HCL := hide (own_cells o).1
  obtain ⟨y, hy⟩ : ∃ y, L[0]? = some y := ⟨L[0], List.getElem?_eq_getElem hpos⟩
  have hgd : L.getD 0 ⟨⟨0, 0, 0⟩, 0, 0⟩ = y := by rw [List.getD_eq_getElem?_getD, hy]; rfl
  rw [hgd] at HBW
  obtain ⟨bq, oq, rfl, c0, c1, c2, c3, c4⟩ := wm_get HCL.out hy
  simp only [Nat.zero_mul, Nat.add_zero] at c0 c1 c2 c3 c4
  have j0 : (0 : Int) < (L.length : Int) := by omega
  clear o hy hgd
  go_upto_region 7 with fail
  obtain ⟨x3, k3⟩ := blks1 w2 #[.int .i64 y.m.src, .int .i64 y.m.dst, .int .i64 y.m.piece, .int .i64 y.v, .int .i64 y.p] 39
  have X3 := hide (ext_trans X2.out x3)
  have X23 := hide x3
  have KY := hide k3
  clear x3 k3 c0 c1 c2 c3 c4
  generalize w2.alloc (.cells #[.int .i64 y.m.src, .int .i64 y.m.dst, .int .i64 y.m.piece, .int .i64 y.v, .int .i64 y.p] 39) = w3 at *
  obtain ⟨BB, hBB⟩ : ∃ BB, w2.heap.size = BB := ⟨_, rfl⟩
  have HBB := hide (show w2.heap.size ≤ BB by omega)
  rw [hBB] at KY
  try rw [hBB]
  clear hBB
  go_wp2
  go_loopw [35] (fun i wr => ∃ (k : Nat) (x : WMov), k ≤ L.length ∧ i = .int .i64 k ∧ Blk wr BB 39 #[.int .i64 x.m.src, .int .i64 x.m.dst, .int .i64 x.m.piece, .int .i64 x.v, .int .i64 x.p] ∧ Hid (x = (L.take k).foldl moreW y) ∧ Ext w2 wr) (fun i _ => L.length - (intOf i).toNat)
  case atStart => exact ⟨0, y, Nat.zero_le _, rfl, KY.out, hide rfl, X23.out⟩
  case round =>
    obtain ⟨k, x, hk, rfl, hKX, HXF, hx⟩ := hrel
    have KX := hide hKX
    have XR := hide hx
    clear hKX hx KY X23 X3
    by_cases hlt : k < L.length
    · obtain ⟨z, hz⟩ : ∃ z, L[k]? = some z := ⟨L[k], List.getElem?_eq_getElem _⟩
      have HTK := hide (bestW_take (a := y) hz)
      rw [← HXF.out] at HTK
      have HTK2 := hide (show moreW x z = if x.v < z.v then z else x from rfl)
      obtain ⟨_, _, e', c0, c1, c2, c3, c4⟩ := wm_get (HCL.out.ext XR.out) hz
      simp only [Option.some.injEq, Addr.mk.injEq, and_true] at e'
      obtain ⟨rfl, rfl⟩ := e'
      have i0 : (0 : Int) ≤ (k : Int) := by omega
      have i1 : (k : Int) < (L.length : Int) := by omega
      clear hz
      go_upto_region 10 with fail
      obtain ⟨x5, k5⟩ := blks1 wr #[.int .i64 z.m.src, .int .i64 z.m.dst, .int .i64 z.m.piece, .int .i64 z.v, .int .i64 z.p] 39
      have KZ := hide k5
      have KX5 := hide (KX.out.ext x5)
      have X5 := hide (ext_trans XR.out x5)
      clear x5 k5 c0 c1 c2 c3 c4 KX XR
      generalize wr.alloc (.cells #[.int .i64 z.m.src, .int .i64 z.m.dst, .int .i64 z.m.piece, .int .i64 z.v, .int .i64 z.p] 39) = w5 at *
      generalize wr.heap.size = BZ at *
      have fz := KZ.out.cell
      have fx := KX5.out.cell
      have gx := KX5.out.frozen
      by_cases hc : x.v < z.v
      · have t1 : decide (x.v < z.v) = true := decide_eq_true hc
        have HT3 := hide (HTK.out.trans (HTK2.out.trans (if_pos hc)))
        clear hc HTK HTK2
        go_wp2
        have K6 := hide (blk_put (i := 4) (u := .int .i64 z.p) (blk_put (i := 3) (u := .int .i64 z.v) (blk_put (i := 2) (u := .int .i64 z.m.piece) (blk_put (i := 1) (u := .int .i64 z.m.dst) (blk_put (i := 0) (u := .int .i64 z.m.src) KX5.out rfl) rfl) rfl) rfl) (cs' := #[.int .i64 z.m.src, .int .i64 z.m.dst, .int .i64 z.m.piece, .int .i64 z.v, .int .i64 z.p]) rfl)
        have X6 := hide ((ext_set (ext_set (ext_set (ext_set (ext_set X5.out (p := ⟨BB, 0, none⟩) HBB.out (.int .i64 z.m.src)) (p := ⟨BB, 1, none⟩) HBB.out (.int .i64 z.m.dst)) (p := ⟨BB, 2, none⟩) HBB.out (.int .i64 z.m.piece)) (p := ⟨BB, 3, none⟩) HBB.out (.int .i64 z.v)) (p := ⟨BB, 4, none⟩) HBB.out (.int .i64 z.p)))
        go_roundw
        case rel => exact ⟨k + 1, z, by omega, by go_num, K6.out, hide HT3.out.symm, X6.out⟩
        case measure => simp [intOf]; omega
      · have t1 : decide (x.v < z.v) = false := decide_eq_false hc
        have HT3 := hide (HTK.out.trans (HTK2.out.trans (if_neg hc)))
        clear hc HTK HTK2
        go_wp2
        go_roundw
        case rel => exact ⟨k + 1, x, by omega, by go_num, KX5.out, hide HT3.out.symm, X5.out⟩
        case measure => simp [intOf]; omega
    · obtain rfl : k = L.length := by omega
      obtain rfl : T = x := by rw [HBW.out, HXF.out, List.take_length]
      have KO5 := hide (KO.out.ext XR.out)
      have X5 := hide (ext_trans X2.out XR.out)
      have fx := KX.out.cell
      clear HCL HXF HBW
      have gz := KO5.out.frozen
      have gc := KO5.out.cell
      go_wp2
      have K9 := blk_put (i := 2) (u := .int .i64 T.m.piece) (blk_put (i := 1) (u := .int .i64 T.m.dst) (blk_put (i := 0) (u := .int .i64 T.m.src) KO5.out rfl) rfl) (cs' := #[.int .i64 T.m.src, .int .i64 T.m.dst, .int .i64 T.m.piece]) rfl
      have X9 := (ext_set (ext_set (ext_set X5.out (p := ⟨BO, 0, none⟩) HLT.out (.int .i64 T.m.src)) (p := ⟨BO, 1, none⟩) HLT.out (.int .i64 T.m.dst)) (p := ⟨BO, 2, none⟩) HLT.out (.int .i64 T.m.piece))
      generalize (((wr.setCell ⟨BO, 0, none⟩ (.int .i64 T.m.src)).setCell ⟨BO, 1, none⟩ (.int .i64 T.m.dst)).setCell ⟨BO, 2, none⟩ (.int .i64 T.m.piece)) = Wf at *
      clear gz gc
      have rr0 : Wf.cell? ⟨BO, 0, none⟩ = some (.int .i64 T.m.src) := K9.cell 0
      have rr1 : Wf.cell? ⟨BO, 1, none⟩ = some (.int .i64 T.m.dst) := K9.cell 1
      have rr2 : Wf.cell? ⟨BO, 2, none⟩ = some (.int .i64 T.m.piece) := K9.cell 2
      refine bodyPost_ret (v := .tuple #[.agg #[.int .i64 T.m.src, .int .i64 T.m.dst, .int .i64 T.m.piece], .int .i64 0]) ?_ rfl ?_
      · simp [results, Try.results10, go_sem, rr0, rr1, rr2]
      · exact ⟨rfl, X9⟩

end Go.Proofs.Ytdoibgmmijhlfaa
namespace Go.Proofs.Ytdoibgmmijhlfaa
set_option linter.unusedVariables false
theorem walkM_get {R : RulesM} {s : Int} {P : PosM} {n i : Nat} {x : WMov} (h : (walkM R s P n)[i]? = some x) : i < (listM R P).length ∧ x = ⟨(listM R P).getD i ⟨0, 0, 0⟩, ((runW R s P n).1.kids.getD i NT.nil).a, ((runW R s P n).1.kids.getD i NT.nil).b⟩ := by
  unfold walkM at h
  rw [List.getElem?_map] at h
  by_cases hi : i < (listM R P).length
  · rw [List.getElem?_range hi] at h
    exact ⟨hi, (Option.some.inj h).symm⟩
  · rw [List.getElem?_eq_none (by simp; omega)] at h
    cases h
theorem runE_any {R : RulesM} {P : PosM} {s K : Int} (h0 : 0 ≤ K) (h1 : K ≤ 2000) : runE R P s K = runE R P s 0 := by
  unfold runE
  rw [if_neg (show ¬ (K < 0 ∨ 2000 < K) by omega), if_neg (show ¬ ((0 : Int) < 0 ∨ (2000 : Int) < 0) by omega)]
/-- More steps only add. -/
theorem walk_more {R : RulesM} {s : Int} {P : PosM} (hV : Valid R) (hS : Sound R P) (hr : resultM R P = 0) (n d : Nat) : ∀ (i : Nat) (x y : WMov), (walkM R s P n)[i]? = some x → (walkM R s P (n + d))[i]? = some y → x.m = y.m ∧ x.v ≤ y.v ∧ x.p ≤ y.p := fun i x y hx hy => by
  obtain ⟨-, rfl⟩ := walkM_get hx
  obtain ⟨-, rfl⟩ := walkM_get hy
  obtain ⟨h1, h2⟩ := run_more (s := s) hV hS hr n i d
  exact ⟨rfl, h1, h2⟩
def sumV (L : List WMov) : Int := (L.map WMov.v).sum
def noneW (L : List WMov) : Bool := L.any fun x => x.v == 0
theorem sumV_take {L : List WMov} {k : Nat} {x : WMov} (h : L[k]? = some x) : sumV (L.take (k + 1)) = sumV (L.take k) + x.v := by
  unfold sumV
  rw [List.take_add_one, h, List.map_append, List.sum_append]
  simp
theorem noneW_take {L : List WMov} {k : Nat} {x : WMov} (h : L[k]? = some x) : noneW (L.take (k + 1)) = (noneW (L.take k) || (x.v == 0)) := by
  unfold noneW
  rw [List.take_add_one, h, List.any_append]
  simp
theorem map_vs {R : RulesM} {s : Int} {P : PosM} {n : Nat} (h : (runW R s P n).1.kids.length = (listM R P).length) : (walkM R s P n).map WMov.v = (runW R s P n).1.kids.map NT.a := by
  refine List.ext_getElem? fun i => ?_
  rw [List.getElem?_map, List.getElem?_map]
  by_cases hi : i < (listM R P).length
  · have hx : (walkM R s P n)[i]? = some ((walkM R s P n)[i]'(by rw [walkM_len]; exact hi)) := List.getElem?_eq_getElem _
    obtain ⟨-, e⟩ := walkM_get hx
    rw [hx, e, getD_get' (by omega : i < (runW R s P n).1.kids.length)]
    rfl
  · rw [List.getElem?_eq_none (by rw [walkM_len]; omega), List.getElem?_eq_none (by omega)]
    rfl
/-- What a row of sampled games has. -/
theorem walk_facts {R : RulesM} {s : Int} {P : PosM} (hV : Valid R) (hS : Sound R P) (hr : resultM R P = 0) (n : Nat) (hn : n ≤ 2000) :
    (∀ (i : Nat) (x : WMov), (walkM R s P n)[i]? = some x → (listM R P)[i]? = some x.m ∧ 0 ≤ x.v ∧ x.v ≤ 2001 ∧ 0 ≤ x.p ∧ x.p ≤ 2 * x.v) ∧ sumV (walkM R s P n) = n ∧
    (∀ (i : Nat) (x : WMov), (walkM R s P n)[i]? = some x → noneW ((walkM R s P n).take i) = true → 0 < x.v → ¬ n ≤ (walkM R s P n).length) := by
  obtain ⟨h1, h2, h3⟩ := run_inv (s := s) hV hS hr n
  refine ⟨fun i x hx => ?_, ?_, fun i x hx hno hv hle => ?_⟩
  · obtain ⟨hi, rfl⟩ := walkM_get hx
    obtain ⟨a0, a1, b0, b1⟩ := (h1.kid i _ (getD_get' (by omega))).bd
    refine ⟨?_, a0, by show NT.a _ ≤ 2001; omega, b0, b1⟩
    show _ = some ((listM R P).getD i ⟨0, 0, 0⟩)
    rw [List.getD_eq_getElem?_getD, List.getElem?_eq_getElem hi]; rfl
  · have := run_sum (s := s) hV hS hr n
    unfold sumV
    rw [map_vs h3]
    exact this
  · rw [walkM_len] at hle
    obtain ⟨hi, e⟩ := walkM_get hx
    have hf := run_first (s := s) hV hS hr n hle
    have hvi : x.v = if i < n then 1 else 0 := by rw [e]; exact hf i hi
    have hin : i < n := by
      by_cases h : i < n
      · exact h
      · rw [if_neg h] at hvi; omega
    obtain ⟨y, hy, hy0⟩ := List.any_eq_true.1 hno
    obtain ⟨j, hj⟩ := List.getElem?_of_mem hy
    rw [List.getElem?_take] at hj
    by_cases hji : j < i
    · rw [if_pos hji] at hj
      obtain ⟨hjl, e2⟩ := walkM_get hj
      have hvj : y.v = if j < n then 1 else 0 := by rw [e2]; exact hf j hjl
      rw [if_pos (by omega)] at hvj
      simp only [beq_iff_eq] at hy0
      omega
    · rw [if_neg hji] at hj; cases hj
end Go.Proofs.Ytdoibgmmijhlfaa
namespace Go.Proofs.Ytdoibgmmijhlfaa
open Go.ChangeShapes Go.WideShapes Go.ChangeAt Go.RowKit Go.Shelf
set_option linter.unusedVariables false
set_option linter.unusedSimpArgs false
theorem near_walk : runE threeR nearP 5 1 = 0 ∧ (walkM threeR 5 nearP 1).length = 5 ∧ (((walkM threeR 5 nearP 1).getD 0 ⟨⟨0, 0, 0⟩, 0, 0⟩).m.src = -1 ∧ ((walkM threeR 5 nearP 1).getD 0 ⟨⟨0, 0, 0⟩, 0, 0⟩).m.dst = 2 ∧ ((walkM threeR 5 nearP 1).getD 0 ⟨⟨0, 0, 0⟩, 0, 0⟩).m.piece = 0) ∧
    (((walkM threeR 5 nearP 1).getD 0 ⟨⟨0, 0, 0⟩, 0, 0⟩).v = 1 ∧ ((walkM threeR 5 nearP 1).getD 0 ⟨⟨0, 0, 0⟩, 0, 0⟩).p = 2) ∧ ((bestWL (walkM threeR 5 nearP 1)).m.src = -1 ∧ (bestWL (walkM threeR 5 nearP 1)).m.dst = 2 ∧ (bestWL (walkM threeR 5 nearP 1)).m.piece = 0) := by decide +kernel
end Go.Proofs.Ytdoibgmmijhlfaa
