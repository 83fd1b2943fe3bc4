/- Walk: the value of a state, over lists of heaps. -/
import Derived.Test.YthgbdonjheengaaNimS
import Derived.Test.YthgbdonjheengaaNimC
import Derived.Deep.QuietTactic
import Derived.BigQuiet
import Derived.StringKeys
namespace Go.Proofs.Ythgbdonjheengaa
open Go.RowKit Go.Maps
set_option linter.unusedVariables false
/-- A list of heaps as a string. -/
def strV (l : List Nat) : ByteArray := ⟨(l.map UInt8.ofNat).toArray⟩
theorem strV_size (l : List Nat) : (strV l).size = l.length := by simp [strV, ByteArray.size]
theorem strV_inj : ∀ {a b : List Nat}, (∀ x ∈ a, x < 256) → (∀ x ∈ b, x < 256) → strV a = strV b → a = b := by
  intro a b ha hb h
  have h1 : a.map UInt8.ofNat = b.map UInt8.ofNat := by
    have := congrArg ByteArray.data h
    simpa [strV] using this
  clear h
  induction a generalizing b with
  | nil => cases b with
    | nil => rfl
    | cons y b => simp at h1
  | cons x a ih => cases b with
    | nil => simp at h1
    | cons y b =>
      rw [List.map_cons, List.map_cons, List.cons.injEq] at h1
      have e := congrArg UInt8.toNat h1.1
      rw [UInt8.toNat_ofNat', UInt8.toNat_ofNat'] at e
      have hx := ha x (List.mem_cons_self ..)
      have hy := hb y (List.mem_cons_self ..)
      have : x = y := by omega
      rw [this, ih (fun z hz => ha z (List.mem_cons_of_mem _ hz)) (fun z hz => hb z (List.mem_cons_of_mem _ hz)) h1.2]
theorem small_of {l : List Nat} (h : wtS l ≤ 64) : ∀ x ∈ l, x < 256 := fun x hx => by
  have := le_sum hx
  have := sum_wt l
  omega
/-- Lists of heaps as keys. -/
def keyS : KeyAs (List Nat) := ⟨9, fun s => .string (strV s), fun s => wtS s ≤ 64⟩
theorem keyS_good : keyS.Good := ⟨string_keyed Try.underlying9, fun a b ha hb h => strV_inj (small_of ha) (small_of hb) (by injection h), fun a h => ⟨_, WideMaps.keyOf_string_mk Try.underlying9 (by
  rw [strV_size]
  have h1 : wtS a ≤ 64 := h
  have := len_wt a
  unfold maxLen
  omega)⟩⟩
abbrev grL : List Nat → Nat := gr nxS rkS
theorem rk_wt : ∀ l, rkS l ≤ wtS l
  | [] => Nat.le_refl _
  | a :: l => by have := rk_wt l; unfold rkS wtS at *; simp; omega
theorem grL_le {s : List Nat} (h : wtS s ≤ 64) : grL s ≤ 64 := Nat.le_trans (gr_le falls_split _ s (Nat.le_refl _)) (Nat.le_trans (rk_wt s) h)
theorem flat_len {α β : Type} {f : α → List β} {n : Nat} : ∀ l : List α, (∀ x ∈ l, (f x).length ≤ n) → (l.flatMap f).length ≤ l.length * n
  | [], _ => by simp
  | a :: l, h => by
    have h1 := flat_len l fun x hx => h x (List.mem_cons_of_mem _ hx)
    have h2 := h a (List.mem_cons_self ..)
    rw [List.flatMap_cons, List.length_append, List.length_cons, Nat.add_mul]
    omega
theorem nxS_len {s : List Nat} (h : wtS s ≤ 64) : (nxS s).length ≤ 4096 := by
  unfold nxS
  split
  · simp
  · have hl := len_wt s
    have h1 := flat_len (f := splitsAt s) (n := 64) (List.range s.length) fun i hi => by
      have hi := List.mem_range.1 hi
      unfold splitsAt
      rw [List.length_map, List.length_range]
      have h2 : s.getD i 0 ≤ s.sum := by
        rw [List.getD_eq_getElem?_getD, List.getElem?_eq_getElem hi]
        exact le_sum (List.getElem_mem hi)
      have := sum_wt s
      omega
    rw [List.length_range] at h1
    have : s.length * 64 ≤ 64 * 64 := Nat.mul_le_mul (by omega) (Nat.le_refl _)
    omega
def strsN (l : List (List Nat)) : List Value := l.map fun x => Value.string (strV x)
/-- Lists of heaps as a game. -/
abbrev splitG : Value := .iface 50 (.agg #[])
/-- The loop over the moves of s: k of them are done. -/
structure VLoopS (most : Nat) (P : List Nat → Prop) (w : World) (bv B S : Nat) (s : List Nat) (U F : List (List Nat)) (A : Option Addr) (k : Nat) (wr : World) : Prop where
  c0 : wr.cell? ⟨bv, 0, none⟩ = some (splitG)
  c1 : wr.cell? ⟨bv, 1, none⟩ = some (.int .i64 (most : Int))
  c2 : wr.cell? ⟨bv, 2, none⟩ = some (.map (some B))
  found : ∃ F', FoundN keyS grL (nxS) P wr B (s :: U) F F' most ∧ ∀ t ∈ (nxS s).take k, t ∈ F'
  seen : SeenN wr S (((nxS s).take k).map grL)
  grown : w.grownBy wr (some B)
  cells : CellsAt wr A (strsN (nxS s))
set_option maxHeartbeats 4000000 in
set_option maxRecDepth 100000 in
theorem valueS_any (most : Nat) (hmost : most ≤ 20000) (P : List Nat → Prop) (hP : ∀ x, P x → wtS x ≤ 64 ∧ ∀ t ∈ nxS x, P t)
    (hNX : ∀ x, P x → ∀ w, Calls Try.prog 70 #[.agg #[], .string (strV x)] w fun e w' => ∃ v, e = .returned v ∧ OwnR 9 1 w w' v (nxS x).length (strsN (nxS x)) ∧ Ext w w') : ∀ (n : Nat) (s : List Nat), rkS s < n → ∀ (w : World) (bv B : Nat) (U F : List (List Nat)),
    w.cell? ⟨bv, 0, none⟩ = some (splitG) → w.cell? ⟨bv, 1, none⟩ = some (.int .i64 (most : Int)) → w.cell? ⟨bv, 2, none⟩ = some (.map (some B)) → bv ≠ B →
    FoundN keyS grL (nxS) P w B U [] F most → (∀ u ∈ U, rkS s < rkS u) → P s →
    Calls Try.prog 35 #[.pointer (some ⟨bv, 0, none⟩), .string (strV s)] w (ValPost keyS grL (nxS) P w B U F most s) := by
  intro n
  induction n with
  | zero => exact fun s h => absurd h (Nat.not_lt_zero _)
  | succ n ih =>
    intro s hs w bv B U F c0 c1 c2 hne hF hU hPs
    obtain ⟨hM, -, hcl, hPF, hlen⟩ := id hF
    have hs2 := (hP s hPs).1
    have HPS := Lib.hid hPs
    have HNX := Lib.hid hNX
    have HS2 := Lib.hid hs2
    have HM := Lib.hid hM
    have HF := Lib.hid (show FoundN keyS grL (nxS) P w B U F F most from ⟨hM, fun x h => h, hcl, hPF, hlen⟩)
    by_cases hsF : s ∈ F
    · have r1 := hM.look_some keyS_good Try.underlying85 hsF
      have t1 : decide ((grL s : Int) < 0) = false := decide_eq_false (by omega)
      have HSF := Lib.hid hsF
      clear hM hcl hPF hlen hs hU hPs hs2 hsF hF ih hne hP hNX
      rw [show keyS.kv s = .string (strV s) from rfl] at r1
      generalize hg : grL s = gs at *
      have HG := Lib.hid hg
      clear hg
      go_enter Try.func35, Try.ntmps35
      go_wp2
      go_ret2
      exact ⟨World.grownBy.refl _ _, .inl ⟨F, by rw [HG.out]; rfl, HF.out, HSF.out⟩⟩
    · have hsU : s ∉ U ++ F := fun h => (List.mem_append.1 h).elim (fun h => absurd (hU s h) (Nat.lt_irrefl _)) hsF
      have r1 := hM.look_none keyS_good Try.underlying85 (show wtS s ≤ 64 from hs2) hsU
      rw [show keyS.kv s = .string (strV s) from rfl] at r1
      have r2 := fun k => MapN.len (w := w.drewN k) hM Try.underlying85 3
      by_cases hl : U.length + F.length = most
      · have HO := Lib.hid (show OverN P most from ⟨s :: (U ++ F), List.nodup_cons.2 ⟨hsU, hM.nodup⟩, by rw [List.length_cons, List.length_append, hl], fun x hx => by
          rcases List.mem_cons.1 hx with rfl | hx
          · exact hPs
          · exact hPF x hx⟩)
        simp only [hl] at r2
        have t1 : ((most : Int) == (most : Int)) = true := beq_self_eq_true _
        clear hM hcl hPF hlen hs hU hPs hs2 hsF hF ih hne hP hNX hl hsU
        go_enter Try.func35, Try.ntmps35
        go_wp2_with fail
        go_quiet (fail)
        go_wp2
        go_ret2
        exact ⟨⟨rfl, rfl, rfl, Nat.le_refl _, fun _ _ _ => rfl⟩, .inr ⟨rfl, HO.out⟩⟩
      · have t1 : (((U.length + F.length : Nat) : Int) == (most : Int)) = false := beq_eq_false_iff_ne.2 (by omega)
        have hlt := hM.lt
        have HL := Lib.hid (show U.length + F.length < most by omega)
        have HLT := Lib.hid hlt
        have HBV := Lib.hid (show bv < w.heap.size from lt_of_cell c0)
        have HNE := Lib.hid hne
        have HSU := Lib.hid hsU
        have HPF := Lib.hid hPF
        have HCL := Lib.hid hcl
        have HP := Lib.hid hP
        have HM0 := Lib.hid hmost
        have HU := Lib.hid hU
        have IH := Lib.hid ih
        have HS := Lib.hid hs
        clear hM hcl hPF hlen hs hU hPs hs2 hsF hF ih hne hP hNX hl hsU hmost hlt
        generalize hLn : U.length + F.length = ln at *
        have HLN := Lib.hid hLn
        clear hLn
        go_enter Try.func35, Try.ntmps35
        go_wp2_with fail
        go_quiet (fail)
        clear r1 r2
        obtain ⟨w1, r1, m1, g1⟩ := MapN.push (w := w.drewN nq) (t := 85) (s := s) keyS_good HM.out Try.underlying85 (by have := HLN.out; have := HL.out; have := HM0.out; unfold maxLen; omega) (show wtS s ≤ 64 from HS2.out) HSU.out
        have G1 := Lib.hid (show w.grownBy w1 (some B) from ⟨g1.os, g1.tape, g1.output, g1.size, g1.block⟩)
        have M1 := Lib.hid m1
        clear g1 m1
        rw [show keyS.kv s = .string (strV s) from rfl] at r1
        have d0 := G1.out.cell c0 (by simpa using HNE.out)
        have d1 := G1.out.cell c1 (by simpa using HNE.out)
        have d2 := G1.out.cell c2 (by simpa using HNE.out)
        have hmm := @run_makeMap Try.prog
        have m2 := M1.out.kept (World.grownBy_alloc w1 (.map #[] 0) none) (by simp)
        have s2 := seenN_made w1
        have a0 := (World.grownBy_alloc w1 (.map #[] 0) none).cell d0 (by simp)
        have a1 := (World.grownBy_alloc w1 (.map #[] 0) none).cell d1 (by simp)
        have a2 := (World.grownBy_alloc w1 (.map #[] 0) none).cell d2 (by simp)
        have G2 := Lib.hid (grown_trans G1.out (World.grownBy_alloc w1 (.map #[] 0) (some B)))
        have HSB := Lib.hid G1.out.size
        have HS2' := Lib.hid s2.lt
        have M2 := Lib.hid m2
        have S2 := Lib.hid s2
        clear m2 s2 d0 d1 d2 c0 c1 M1 G1 HM
        go_wp2_with fail
        clear r1 hmm c2
        generalize w1.alloc (.map #[] 0) = w2 at *
        generalize w1.heap.size = S at *
        refine (HNX.out s HPS.out _).mono ?_
        rintro e w3 ⟨v3, rfl, own3, x3⟩
        obtain ⟨A3, c3, rfl, k3, kc, kn, kb⟩ := own3.cells
        have L0 := Lib.hid (show VLoopS most P w bv B S s U F A3 0 w3 from ⟨x3.cell a0, x3.cell a1, x3.cell a2,
          ⟨F, ⟨M2.out.ext x3, fun x h => h, HCL.out, fun x hx => by
            rcases List.mem_cons.1 hx with rfl | hx
            · exact HPS.out
            · exact HPF.out x hx, by have := HLN.out; have := HL.out; simp; omega⟩, fun t ht => absurd ht (by simp)⟩,
          by obtain ⟨D, h1, h2⟩ := S2.out; obtain ⟨es, cl, hb, r⟩ := h1; exact ⟨D, ⟨es, cl, (x3.block S (Array.getElem?_eq_some_iff.1 hb).1).trans hb, r⟩, h2⟩,
          grown_ext G2.out x3, k3⟩)
        have KB := Lib.hid kb
        have hNs : (nxS s).length ≤ 4096 := nxS_len HS2.out
        have HNS := Lib.hid hNs
        obtain ⟨N, hN⟩ : ∃ N, N = (nxS s).length := ⟨_, rfl⟩
        rw [← hN] at HNS ⊢
        have HN := Lib.hid hN
        clear a0 a1 a2 own3 x3 k3 kc kn kb hN hNs M2 S2 G2 HPF HCL
        go_wp2_with fail
        go_loopw [50] (fun i wr => ∃ k : Nat, k ≤ N ∧ i = .int .i64 (k : Int) ∧ VLoopS most P w bv B S s U F A3 k wr) (fun i wr => N - (intOf i).toNat)
        case atStart => exact ⟨0, Nat.zero_le _, rfl, L0.out⟩
        case round =>
          obtain ⟨k, hk, rfl, hV⟩ := hrel
          by_cases hkN : k < N
          · have hx : ∃ x, (nxS s)[k]? = some x := ⟨_, List.getElem?_eq_getElem (by rw [← HN.out]; exact hkN)⟩
            obtain ⟨x, hx⟩ := hx
            have hxm : x ∈ nxS s := List.mem_of_getElem? hx
            have hxs : rkS x < rkS s := falls_split s x hxm
            obtain ⟨b, o, rfl, hc⟩ := hV.cells k (.string (strV x)) (by simp [strsN, hx])
            obtain ⟨F', hF', hT'⟩ := hV.found
            have hPx := (HP.out s HPS.out).2 x hxm
            have hcall := IH.out x (by have := HS.out; omega) wr bv B (s :: U) F' hV.c0 hV.c1 hV.c2 HNE.out ⟨hF'.1, fun x h => absurd h List.not_mem_nil, hF'.2.2⟩ (fun u hu => by
              rcases List.mem_cons.1 hu with rfl | hu
              · exact hxs
              · exact Nat.lt_trans hxs (HU.out u hu)) hPx
            have hxl := grL_le ((HP.out x hPx).1)
            have HXL := Lib.hid (show grL x ≤ 1000000 by omega)
            have HCALL := Lib.hid hcall
            have HV := Lib.hid hV
            have HF' := Lib.hid hF'
            have HT' := Lib.hid hT'
            have HX := Lib.hid hx
            have HK := Lib.hid hkN
            have t0 : decide ((k : Int) < (N : Int)) = true := decide_eq_true (by omega)
            have t0n : decide (k < N) = true := decide_eq_true hkN
            have j0 : (k : Int) < (N : Int) := by omega
            have b0 : (k : Int) ≤ 20000 := by have := HNS.out; omega
            have HKB := Lib.hid (KB.out _ rfl)
            have HSB3 : Hid (some S ≠ some b) := by
              have h1 := HKB.out
              have h2 := HS2'.out
              exact hide fun e => by injection e with e; simp only at h1; omega
            have HBB3 : Hid (some B ≠ some b) := by
              have h1 := HKB.out
              have h2 := HLT.out
              have h3 := HSB.out
              have h4 := HS2'.out
              exact hide fun e => by injection e with e; simp only at h1; omega
            have HSBn : Hid (S ≠ B) := by
              have h1 := HSB.out
              have h2 := HLT.out
              exact hide (by omega)
            clear hcall hV hF' hT' hx hxm hxs hk hkN hPx hxl KB HKB
            generalize hgx : grL x = gx at *
            have HGX := Lib.hid hgx
            clear hgx
            go_wp2_with fail
            refine HCALL.out.mono ?_
            rintro e w5 ⟨g5, hpost⟩
            have hcell5 := cells_grown HV.out.cells g5 (fun a ha => by injection ha with ha; subst ha; exact HBB3.out)
            rcases hpost with ⟨F2, rfl, hF2, hxF2⟩ | ⟨rfl, hover⟩
            · have hs5 := HV.out.seen.kept g5 (by have := HSBn.out; simpa using this)
              rw [HGX.out]
              obtain ⟨w6, r6, s6, g6⟩ := hs5.put (t := 102) Try.underlying102 (by have := HNS.out; have := HK.out; rw [List.length_map, List.length_take]; unfold maxLen; omega) HXL.out
              have q5 : some bv ≠ some B := by simpa using HNE.out
              have q6 : some bv ≠ some S := by
                have h1 := HSB.out
                have h2 := HBV.out
                exact fun e => by injection e with e; omega
              have htk : (nxS s).take (k + 1) = (nxS s).take k ++ [x] := by rw [List.take_add_one, HX.out]; rfl
              have H6 := Lib.hid (show VLoopS most P w bv B S s U F (some ⟨b, o, none⟩) (k + 1) w6 from ⟨
                g6.cell (g5.cell HV.out.c0 q5) q6, g6.cell (g5.cell HV.out.c1 q5) q6, g6.cell (g5.cell HV.out.c2 q5) q6,
                ⟨F2, ⟨hF2.1.kept g6 (fun e => HSBn.out (by injection e with e; exact e.symm)), fun y hy => hF2.2.1 y (HF'.out.2.1 y hy), hF2.2.2⟩, fun y hy => by
                  rw [htk] at hy
                  rcases List.mem_append.1 hy with hy | hy
                  · exact hF2.2.1 y (HT'.out y hy)
                  · obtain rfl := List.mem_singleton.1 hy
                    exact hxF2⟩,
                by rw [htk, List.map_append, List.map_cons, List.map_nil, HGX.out]; exact s6,
                grown_new (grown_trans HV.out.grown g5) g6 HSB.out,
                cells_grown hcell5 g6 (fun a ha => by injection ha with ha; subst ha; exact HSB3.out)⟩)
              clear hcell5 hs5 s6 g6 q5 q6 htk hF2 hxF2 g5 HV HF' HT' hc
              go_wp2
              go_roundw
              case rel => exact ⟨k + 1, HK.out, by simp, H6.out⟩
              case measure => have := HK.out; simp [intOf]; omega
            · have HO := Lib.hid hover
              have HG5 := Lib.hid (grown_trans HV.out.grown g5)
              clear hover g5 hcell5 HV HF' HT' hc
              go_wp2
              go_ret2
              exact ⟨HG5.out, .inr ⟨rfl, HO.out⟩⟩
          · obtain rfl : k = N := by omega
            obtain ⟨F', hF', hT'⟩ := hV.found
            have hs := hV.seen
            rw [HN.out, List.take_length] at hs hT'
            have hG := gr_is (falls_split) s
            have hgl : gr nxS rkS s ≤ 64 := grL_le HS2.out
            have HG := Lib.hid hG
            have HLK := Lib.hid (fun q (hq : q ≤ 64) => hs.look (t := 102) Try.underlying102 (k := q) (by omega))
            have HV := Lib.hid hV
            have HF' := Lib.hid hF'
            have HT' := Lib.hid hT'
            have HGL := Lib.hid hgl
            have t0 : decide ((k : Int) < (k : Int)) = false := decide_eq_false (by omega)
            have t0n : decide (k < k) = false := decide_eq_false (by omega)
            clear hG hgl hs hV hF' hT' hk hkN
            obtain ⟨G, hGe⟩ : ∃ G, G = grL s := ⟨_, rfl⟩
            have HGE := Lib.hid hGe
            rw [show gr nxS rkS s = G from hGe.symm] at HG HGL
            clear hGe
            go_wp2_with fail
            go_loop [13] (fun i => ∃ q : Nat, q ≤ G ∧ i = .int .i64 (q : Int)) (fun i => G - (intOf i).toNat)
            case atStart => exact ⟨0, Nat.zero_le _, rfl⟩
            case round =>
              obtain ⟨q, hq, rfl⟩ := hrel
              have hqs : q ≤ 64 := by have := HGL.out; omega
              have r1 := HLK.out q hqs
              have b0 : (q : Int) ≤ 20000 := by omega
              by_cases hqG : q < G
              · have hmem : decide (q ∈ (nxS s).map grL) = true := decide_eq_true (HG.out.2 q hqG)
                rw [hmem] at r1
                have HQ := Lib.hid hqG
                clear hmem hq hqs hqG
                go_wp2
                go_round
                case rel => exact ⟨q + 1, HQ.out, by simp⟩
                case measure => have := HQ.out; simp [intOf]; omega
              · obtain rfl : q = G := by omega
                have hmem : decide (q ∈ (nxS s).map grL) = false := decide_eq_false HG.out.1
                rw [hmem] at r1
                obtain ⟨w6, r6, M6, g6⟩ := HF'.out.1.done keyS_good Try.underlying85 (by have h1 := HF'.out.2.2.2.2; have h2 := HM0.out; simp only [List.length_cons] at h1; unfold maxLen; omega) (by rw [← HGE.out]; have := HGL.out; omega)
                rw [show keyS.kv s = .string (strV s) from rfl, ← HGE.out] at r6
                have hmx := HF'.out
                have hR : ValPost keyS grL (nxS) P w B U F most s (.returned (.tuple #[.int .i64 (q : Int), .int .i64 0])) w6 :=
                  ⟨grown_trans HV.out.grown g6, .inl ⟨s :: F', by rw [HGE.out], ⟨M6, fun y hy => List.mem_cons_of_mem _ (hmx.2.1 y hy), fun y hy t ht => by
                    rcases List.mem_cons.1 hy with rfl | hy
                    · exact List.mem_cons_of_mem _ (HT'.out t ht)
                    · exact List.mem_cons_of_mem _ (hmx.2.2.1 y hy t ht), fun y hy => by
                      refine hmx.2.2.2.1 y ?_
                      rcases List.mem_append.1 hy with hy | hy
                      · exact List.mem_append.2 (.inl (List.mem_cons_of_mem _ hy))
                      · rcases List.mem_cons.1 hy with rfl | hy
                        · exact List.mem_append.2 (.inl (List.mem_cons_self ..))
                        · exact List.mem_append.2 (.inr hy), by have := hmx.2.2.2.2; simp only [List.length_cons] at this ⊢; omega⟩, List.mem_cons_self ..⟩⟩
                have HR := Lib.hid hR
                have c2 := HV.out.c2
                clear hmem hq hqs hqG hR hmx M6 g6
                go_wp2
                go_ret2
                exact HR.out
end Go.Proofs.Ythgbdonjheengaa
