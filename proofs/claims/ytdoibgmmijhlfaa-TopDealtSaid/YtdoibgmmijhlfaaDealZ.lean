/- Walks: ranks.straight, ranks.classOf. -/
import Derived.Test.YtdoibgmmijhlfaaDealY
import Derived.Test.YtdoibgmmijhlfaaIdxInts
namespace Go.Proofs.Ytdoibgmmijhlfaa
open Go.ChangeShapes Go.WideShapes Go.ChangeAt Go.RowKit Go.Shelf
set_option linter.unusedVariables false
set_option linter.unusedSimpArgs false
set_option maxHeartbeats 2000000 in
set_option maxRecDepth 100000 in
theorem straight_any (A : Option Addr) (n c : Nat) (zs : List Int) (w : World) (hn : zs.length = n) (h13 : n ≤ 13) (hz : IntsAt w A zs) (hb : ∀ i, 0 ≤ zs.getD i 0 ∧ zs.getD i 0 ≤ 12) :
    Calls Try.prog 85 #[.slice A n c] w fun e w' => e = .returned (.int .i64 (straightR zs)) ∧ Ext w w' := by
  subst hn
  by_cases h5 : zs.length < 5
  · have e : straightR zs = -1 := by unfold straightR; rw [if_pos h5]
    have t0 : decide ((zs.length : Int) < 5) = true := by simp; omega
    rw [e]
    clear e hz hb h5
    go_enter Try.func85, Try.ntmps85
    go_wp2
    go_ret
    exact ⟨rfl, Below.refl _ _⟩
  · obtain ⟨b, o, rfl, c0⟩ := hz 0 (by omega)
    obtain ⟨b1, o1, e1, c1⟩ := hz 1 (by omega)
    obtain ⟨b4, o4, e4, c4⟩ := hz 4 (by omega)
    simp only [Option.some.injEq, Addr.mk.injEq, and_true] at e1 e4
    obtain ⟨rfl, rfl⟩ := e1
    obtain ⟨rfl, rfl⟩ := e4
    have l0 : (0 : Int) < (zs.length : Int) := by omega
    have l1 : (1 : Int) < (zs.length : Int) := by omega
    have l4 : (4 : Int) < (zs.length : Int) := by omega
    have ln0 : 0 < zs.length := by omega
    have ln1 : 1 < zs.length := by omega
    have ln4 : 4 < zs.length := by omega
    have t0 : decide ((zs.length : Int) < 5) = false := by simp; omega
    obtain ⟨b00, b01⟩ := hb 0
    obtain ⟨b40, b41⟩ := hb 4
    have HV : Hid (straightR zs = if zs.getD 0 0 - zs.getD 4 0 = 4 then zs.getD 0 0 else if zs.getD 0 0 = 12 ∧ zs.getD 1 0 = 3 then 3 else -1) := hide (by unfold straightR; rw [if_neg h5])
    clear hz hb h5
    generalize straightR zs = st at *
    generalize zs.getD 0 0 = r0 at *
    generalize zs.getD 1 0 = r1 at *
    generalize zs.getD 4 0 = r4 at *
    rw [Nat.add_zero] at c0
    have HC0 := hide c0
    have HC4 := hide c4
    have hw : IntKind.i64.wrap (r0 - r4) = r0 - r4 := by rw [IntKind.wrap_i64]; omega
    go_enter Try.func85, Try.ntmps85
    go_upto_region 3 with fail
    have keepK := hide (fun W (h : Ext w W) => (show (fun W => W.cell? ⟨b, o, none⟩ = some (.int .i64 r0) ∧ W.cell? ⟨b, o + 4, none⟩ = some (.int .i64 r4) ∧ Ext w W) W from ⟨h.cell HC0.out, h.cell HC4.out, h⟩))
    have yy : Ext w w.drew := Below.drew (Below.refl _ _)
    refine region_K (fun W => W.cell? ⟨b, o, none⟩ = some (.int .i64 r0) ∧ W.cell? ⟨b, o + 4, none⟩ = some (.int .i64 r4) ∧ Ext w W) (fun _ => True) [] (by kernel_rfl) ?_
    have hT0 := keepK.out _ yy
    refine anyK_take 0 (oi := ?oo1) ?ho1 (by kernel_rfl) (by kernel_rfl) (by kernel_rfl) (by kernel_rfl) ?hq1 ?hw1 hT0 (fun _ => trivial) (v := ?vv1) ?hy1 ?hk1
    case ho1 => (simp only [List.getElem?_toArray, List.getElem?_cons_succ, List.getElem?_cons_zero]; rfl)
    case hq1 => exact fun _ _ _ h => h
    case hw1 => rfl
    case hy1 =>
      intro W hW
      go_simp
      first | done | with_reducible rfl
    case hk1 =>
    try simp only [Act.put, List.setIfInBounds_toArray, List.set_cons_zero, List.set_cons_succ]
    refine anyK_take 1 (oi := ?oo2) ?ho2 (by kernel_rfl) (by kernel_rfl) (by kernel_rfl) (by kernel_rfl) ?hq2 ?hw2 hT0 (fun _ => trivial) (v := ?vv2) ?hy2 ?hk2
    case ho2 => (simp only [List.getElem?_toArray, List.getElem?_cons_succ, List.getElem?_cons_zero]; rfl)
    case hq2 => exact fun _ _ _ h => h
    case hw2 => rfl
    case hy2 =>
      intro W hW
      go_simp
      first | done | with_reducible rfl
    case hk2 =>
    try simp only [Act.put, List.setIfInBounds_toArray, List.set_cons_zero, List.set_cons_succ]
    refine anyK_take 2 (oi := ?oo3) ?ho3 (by kernel_rfl) (by kernel_rfl) (by kernel_rfl) (by kernel_rfl) ?hq3 ?hw3 hT0 (fun _ => trivial) (v := ?vv3) ?hy3 ?hk3
    case ho3 => (simp only [List.getElem?_toArray, List.getElem?_cons_succ, List.getElem?_cons_zero]; rfl)
    case hq3 => exact fun _ _ _ h => h
    case hw3 => rfl
    case hy3 =>
      intro W hW
      obtain ⟨z0, z1, z2⟩ := hW
      go_simp
      first | done | with_reducible rfl
    case hk3 =>
    try simp only [Act.put, List.setIfInBounds_toArray, List.set_cons_zero, List.set_cons_succ]
    refine anyK_take 3 (oi := ?oo4) ?ho4 (by kernel_rfl) (by kernel_rfl) (by kernel_rfl) (by kernel_rfl) ?hq4 ?hw4 hT0 (fun _ => trivial) (v := ?vv4) ?hy4 ?hk4
    case ho4 => (simp only [List.getElem?_toArray, List.getElem?_cons_succ, List.getElem?_cons_zero]; rfl)
    case hq4 => exact fun _ _ _ h => h
    case hw4 => rfl
    case hy4 =>
      intro W hW
      go_simp
      first | done | with_reducible rfl
    case hk4 =>
    try simp only [Act.put, List.setIfInBounds_toArray, List.set_cons_zero, List.set_cons_succ]
    refine anyK_take 4 (oi := ?oo5) ?ho5 (by kernel_rfl) (by kernel_rfl) (by kernel_rfl) (by kernel_rfl) ?hq5 ?hw5 hT0 (fun _ => trivial) (v := ?vv5) ?hy5 ?hk5
    case ho5 => (simp only [List.getElem?_toArray, List.getElem?_cons_succ, List.getElem?_cons_zero]; rfl)
    case hq5 => exact fun _ _ _ h => h
    case hw5 => rfl
    case hy5 =>
      intro W hW
      go_simp
      first | done | with_reducible rfl
    case hk5 =>
    try simp only [Act.put, List.setIfInBounds_toArray, List.set_cons_zero, List.set_cons_succ]
    refine anyK_take 5 (oi := ?oo6) ?ho6 (by kernel_rfl) (by kernel_rfl) (by kernel_rfl) (by kernel_rfl) ?hq6 ?hw6 hT0 (fun _ => trivial) (v := ?vv6) ?hy6 ?hk6
    case ho6 => (simp only [List.getElem?_toArray, List.getElem?_cons_succ, List.getElem?_cons_zero]; rfl)
    case hq6 => exact fun _ _ _ h => h
    case hw6 => rfl
    case hy6 =>
      intro W hW
      obtain ⟨z0, z1, z2⟩ := hW
      go_simp
      first | done | with_reducible rfl
    case hk6 =>
    try simp only [Act.put, List.setIfInBounds_toArray, List.set_cons_zero, List.set_cons_succ]
    refine anyK_take 6 (oi := ?oo7) ?ho7 (by kernel_rfl) (by kernel_rfl) (by kernel_rfl) (by kernel_rfl) ?hq7 ?hw7 hT0 (fun _ => trivial) (v := ?vv7) ?hy7 ?hk7
    case ho7 => (simp only [List.getElem?_toArray, List.getElem?_cons_succ, List.getElem?_cons_zero]; rfl)
    case hq7 => exact fun _ _ _ h => h
    case hw7 => rfl
    case hy7 =>
      intro W hW
      go_simp
      first | done | with_reducible rfl
    case hk7 =>
    try simp only [Act.put, List.setIfInBounds_toArray, List.set_cons_zero, List.set_cons_succ]
    refine anyK_take 7 (oi := ?oo8) ?ho8 (by kernel_rfl) (by kernel_rfl) (by kernel_rfl) (by kernel_rfl) ?hq8 ?hw8 hT0 (fun _ => trivial) (v := ?vv8) ?hy8 ?hk8
    case ho8 => (simp only [List.getElem?_toArray, List.getElem?_cons_succ, List.getElem?_cons_zero]; rfl)
    case hq8 => exact fun _ _ _ h => h
    case hw8 => rfl
    case hy8 =>
      intro W hW
      go_simp
      first | done | with_reducible rfl
    case hk8 =>
    try simp only [Act.put, List.setIfInBounds_toArray, List.set_cons_zero, List.set_cons_succ]
    refine anyK_take 8 (oi := ?oo9) ?ho9 (by kernel_rfl) (by kernel_rfl) (by kernel_rfl) (by kernel_rfl) ?hq9 ?hw9 hT0 (fun _ => trivial) (v := ?vv9) ?hy9 ?hk9
    case ho9 => (simp only [List.getElem?_toArray, List.getElem?_cons_succ, List.getElem?_cons_zero]; rfl)
    case hq9 => exact fun _ _ _ h => h
    case hw9 => rfl
    case hy9 =>
      intro W hW
      go_simp
      first | done | with_reducible rfl
    case hk9 =>
    try simp only [Act.put, List.setIfInBounds_toArray, List.set_cons_zero, List.set_cons_succ]
    refine anyK_done (by kernel_rfl) ?_ _
    clear keepK hT0
    have q0 := yy.cell c0
    have q1 := yy.cell c1
    have XX := hide yy
    clear c0 c1 c4 yy
    by_cases k1 : r0 - r4 = 4
    · have t1 : ((r0 - r4) == 4) = true := by simpa using k1
      rw [if_pos k1] at HV
      clear k1
      go_wp2
      go_ret
      exact ⟨by rw [HV.out]; rfl, XX.out⟩
    · have t1 : ((r0 - r4) == 4) = false := by simpa using k1
      rw [if_neg k1] at HV
      clear k1
      by_cases k2 : r0 = 12
      · subst k2
        by_cases k3 : r1 = 3
        · subst k3
          rw [if_pos ⟨rfl, rfl⟩] at HV
          go_wp2
          go_ret
          exact ⟨by rw [HV.out]; rfl, XX.out⟩
        · have t3 : (r1 == 3) = false := by simpa using k3
          rw [if_neg (fun e => k3 e.2)] at HV
          clear k3
          go_wp2
          go_ret
          exact ⟨by rw [HV.out]; rfl, XX.out⟩
      · have t2 : (r0 == 12) = false := by simpa using k2
        rw [if_neg (fun e => k2 e.1)] at HV
        clear k2
        go_wp2
        go_ret
        exact ⟨by rw [HV.out]; rfl, XX.out⟩
theorem class1_any (z x : Int) (BX : Nat) (b o m d : Nat) (W : World) (h1 : W.cell? ⟨BX, 0, none⟩ = some (.slice (some ⟨b, o, none⟩) m d)) (hm : 0 < m) (h2 : W.cell? ⟨b, o, none⟩ = some (.int .i64 x)) :
    Calls Try.prog 121 #[.int .i64 z, .pointer (some ⟨BX, 0, none⟩)] W fun e w' => e = .returned (.bool (wrap64 (z.tdiv 13) != wrap64 (x.tdiv 13))) ∧ Ext W w' := by
  have hm' : (0 : Int) < (m : Int) := by omega
  go_enter Try.func121, Try.ntmps121
  go_wp2
  go_ret
  exact ⟨rfl, Below.refl _ _⟩
/-- The class, by what is known of a hand. -/
def classV (b1 b2 : Bool) (o0 o1 : Int) : Int :=
  if b1 = true ∧ b2 = true then 8 else if o0 = 4 then 7 else if o0 = 3 ∧ o1 = 2 then 6 else if b1 = true then 5 else if b2 = true then 4 else if o0 = 3 then 3 else if o0 = 2 ∧ o1 = 2 then 2 else if o0 = 2 then 1 else 0
theorem classR_v (h : List Int) : classR h = classV (flushR h) (decide (0 ≤ straightR (ordR h))) ((oftR h).getD 0 0) ((oftR h).getD 1 0) := by
  unfold classR classV
  simp only [decide_eq_true_eq]
theorem flush_any (h : List Int) (h0 : ∀ z ∈ h, 0 ≤ z ∧ z < 52) (hl : h ≠ []) : (h.any fun z => wrap64 (z.tdiv 13) != wrap64 ((h.getD 0 0).tdiv 13)) = !flushR h := by
  unfold flushR
  rw [Bool.not_not]
  have hm : h.getD 0 0 ∈ h := getD_mem (List.length_pos_iff.2 hl)
  have key : ∀ z, 0 ≤ z ∧ z < 52 → wrap64 (z.tdiv 13) = z / 13 := fun z hz => by
    rw [Int.tdiv_eq_ediv_of_nonneg hz.1]
    unfold wrap64
    omega
  rw [key _ (h0 _ hm)]
  have : ∀ l : List Int, (∀ z ∈ l, 0 ≤ z ∧ z < 52) → (l.any fun z => wrap64 (z.tdiv 13) != h.getD 0 0 / 13) = l.any fun c => decide (c / 13 ≠ h.getD 0 0 / 13) := fun l hl => by
    induction l with
    | nil => rfl
    | cons a l ih =>
      rw [List.any_cons, List.any_cons, ih (fun z hz => hl z (by simp [hz])), key a (hl a (by simp))]
      congr 1
      rw [Bool.eq_iff_iff]
      simp [bne_iff_ne]
  exact this h h0
set_option maxHeartbeats 4000000 in
set_option maxRecDepth 100000 in
theorem classOf_any (A : Option Addr) (c : Nat) (h : List Int) (w : World) (h5 : h.length = 5) (hz : IntsAt w A h) (h0 : ∀ z ∈ h, 0 ≤ z ∧ z < 52) :
    Calls Try.prog 84 #[.slice A 5 c] w fun e w' => e = .returned (.int .i64 (classR h)) ∧ Ext w w' := by
  obtain ⟨xa, ka⟩ := blks1 w #[.slice A 5 c] 23
  have hne : h ≠ [] := by intro e; rw [e] at h5; simp at h5
  obtain ⟨b, o, rfl, hc0⟩ := hz 0 (by omega)
  rw [Nat.add_zero] at hc0
  have HOR := hide (fun W (x : Ext w W) => Order_any (some ⟨b, o, none⟩) 5 c h W h5 (by omega) (hz.ext x) h0)
  have HAN := hide (fun W (x : Ext w W) (k : Blk W w.heap.size 23 #[.slice (some ⟨b, o, none⟩) 5 c]) => hasInts_one 121 (.pointer (some ⟨w.heap.size, 0, none⟩)) (fun z => wrap64 (z.tdiv 13) != wrap64 ((h.getD 0 0).tdiv 13)) (some ⟨b, o, none⟩) 5 c h W h5 (by omega) (hz.ext x)
    (enters_of Try.func121 (by kernel_rfl) rfl) (fun z W' y => class1_any z (h.getD 0 0) w.heap.size b o 5 c W' ((k.ext y).cell 0) (by omega) ((ext_trans x y).cell hc0)))
  rw [flush_any h h0 hne] at HAN
  have KA := hide ka
  have XA := hide xa
  have HCV := hide (classR_v h)
  have HO1 := hide (And.intro (oftR_first h5) (fun (k : (oftR h).getD 0 0 ≤ 4) => oftR_second h5 k))
  have HOL := hide (oftR_len h)
  have HST := hide (fun W v n (hz : IntsAt W v (ordR h)) (hn : (ordR h).length = n) (c : Nat) => straight_any v n c (ordR h) W hn (by rw [← hn]; exact ordR_len h) hz (fun i => ordR_bd))
  clear ka xa hz h0 hne hc0
  go_enter Try.func84, Try.ntmps84
  go_upto_region 1 with fail
  generalize w.alloc _ = w1 at *
  generalize w.heap.size = BX at *
  have f := KA.out.cell
  go_wp2_with fail
  refine (HOR.out _ XA.out).mono ?_
  rintro e w2 ⟨v, u, rfl, o2, o3, x2⟩
  have X2 := hide (ext_trans XA.out x2)
  have KA2 := hide (KA.out.ext x2)
  obtain ⟨Av, cv, rfl, iv⟩ := o2.ints
  obtain ⟨Au, cu, rfl, iu⟩ := o3.ints
  have HIV := hide iv
  have HIU := hide iu
  have f := KA2.out.cell
  clear o2 o3 x2 iv iu KA XA HOR
  go_wp2_with fail
  refine (HAN.out _ X2.out KA2.out).mono ?_
  rintro e w3 ⟨rfl, x3⟩
  have HIV3 := HIV.out.ext x3
  have HS3 := hide (HST.out _ _ _ HIV3 rfl cv)
  have X3 := hide (ext_trans X2.out x3)
  have HIU3 := hide (HIU.out.ext x3)
  clear f x3 HAN HIV HIU HST X2 KA2 HIV3
  generalize flushR h = b1 at *
  generalize straightR (ordR h) = st at *
  go_wp2_with fail
  refine HS3.out.mono ?_
  rintro e w4 ⟨rfl, x4⟩
  have X4 := hide (ext_trans X3.out x4)
  have HIU4 := HIU3.out.ext x4
  obtain ⟨lo, hlo⟩ : ∃ lo, (oftR h).length = lo := ⟨_, rfl⟩
  rw [hlo] at HO1
  have hlo0 := HO1.out.1
  obtain ⟨b', o', rfl, k0⟩ := HIU4 0 (by rw [hlo]; exact hlo0)
  rw [Nat.add_zero] at k0
  have HK1 := hide (fun (hl : 1 < lo) => (by
    obtain ⟨b2, o2, e2, k1⟩ := HIU4 1 (by rw [hlo]; exact hl)
    simp only [Option.some.injEq, Addr.mk.injEq, and_true] at e2
    obtain ⟨rfl, rfl⟩ := e2
    exact k1 : w4.cell? ⟨b', o' + 1, none⟩ = some (.int .i64 ((oftR h).getD 1 0))))
  rw [hlo]
  clear hlo HIU4 x4 X3 HIU3 HS3 HOL
  generalize (oftR h).getD 0 0 = o0 at *
  generalize (oftR h).getD 1 0 = o1 at *
  have l0 : (0 : Int) < (lo : Int) := by omega
  by_cases hst : 0 ≤ st
  · have t0 : decide (0 ≤ st) = true := by simpa using hst
    rw [t0] at HCV
    clear hst
    cases b1
    · skip
      by_cases h4 : o0 = 4
      · subst h4
        go_wp2
        go_ret
        exact ⟨by rw [HCV.out]; rfl, X4.out⟩
      · by_cases h3 : o0 = 3
        · subst h3
          have k1 := HK1.out (HO1.out.2 (by omega))
          have l1 : (1 : Int) < (lo : Int) := by have := HO1.out.2 (by omega); omega
          have ln1 : 1 < lo := by omega
          by_cases h1 : o1 = 2
          · subst h1
            go_wp2
            go_ret
            exact ⟨by rw [HCV.out]; rfl, X4.out⟩
          · have t5 : (o1 == 2) = false := by simpa using h1
            go_wp2
            go_ret
            exact ⟨by rw [HCV.out]; simp [classV, h1], X4.out⟩
        · by_cases h2 : o0 = 2
          · subst h2
            have k1 := HK1.out (HO1.out.2 (by omega))
            have l1 : (1 : Int) < (lo : Int) := by have := HO1.out.2 (by omega); omega
            have ln1 : 1 < lo := by omega
            by_cases h1 : o1 = 2
            · subst h1
              go_wp2
              go_ret
              exact ⟨by rw [HCV.out]; rfl, X4.out⟩
            · have t5 : (o1 == 2) = false := by simpa using h1
              go_wp2
              go_ret
              exact ⟨by rw [HCV.out]; simp [classV, h1], X4.out⟩
          · have t4 : (o0 == 4) = false := by simpa using h4
            have t3 : (o0 == 3) = false := by simpa using h3
            have t2 : (o0 == 2) = false := by simpa using h2
            go_wp2
            go_ret
            exact ⟨by rw [HCV.out]; simp [classV, h4, h3, h2], X4.out⟩
    · skip
      go_wp2
      go_ret
      exact ⟨by rw [HCV.out]; rfl, X4.out⟩
  · have t0 : decide (0 ≤ st) = false := by simpa using hst
    rw [t0] at HCV
    clear hst
    cases b1
    · skip
      by_cases h4 : o0 = 4
      · subst h4
        go_wp2
        go_ret
        exact ⟨by rw [HCV.out]; rfl, X4.out⟩
      · by_cases h3 : o0 = 3
        · subst h3
          have k1 := HK1.out (HO1.out.2 (by omega))
          have l1 : (1 : Int) < (lo : Int) := by have := HO1.out.2 (by omega); omega
          have ln1 : 1 < lo := by omega
          by_cases h1 : o1 = 2
          · subst h1
            go_wp2
            go_ret
            exact ⟨by rw [HCV.out]; rfl, X4.out⟩
          · have t5 : (o1 == 2) = false := by simpa using h1
            go_wp2
            go_ret
            exact ⟨by rw [HCV.out]; simp [classV, h1], X4.out⟩
        · by_cases h2 : o0 = 2
          · subst h2
            have k1 := HK1.out (HO1.out.2 (by omega))
            have l1 : (1 : Int) < (lo : Int) := by have := HO1.out.2 (by omega); omega
            have ln1 : 1 < lo := by omega
            by_cases h1 : o1 = 2
            · subst h1
              go_wp2
              go_ret
              exact ⟨by rw [HCV.out]; rfl, X4.out⟩
            · have t5 : (o1 == 2) = false := by simpa using h1
              go_wp2
              go_ret
              exact ⟨by rw [HCV.out]; simp [classV, h1], X4.out⟩
          · have t4 : (o0 == 4) = false := by simpa using h4
            have t3 : (o0 == 3) = false := by simpa using h3
            have t2 : (o0 == 2) = false := by simpa using h2
            go_wp2
            go_ret
            exact ⟨by rw [HCV.out]; simp [classV, h4, h3, h2], X4.out⟩
    · skip
      by_cases h4 : o0 = 4
      · subst h4
        go_wp2
        go_ret
        exact ⟨by rw [HCV.out]; rfl, X4.out⟩
      · by_cases h3 : o0 = 3
        · subst h3
          have k1 := HK1.out (HO1.out.2 (by omega))
          have l1 : (1 : Int) < (lo : Int) := by have := HO1.out.2 (by omega); omega
          have ln1 : 1 < lo := by omega
          by_cases h1 : o1 = 2
          · subst h1
            go_wp2
            go_ret
            exact ⟨by rw [HCV.out]; rfl, X4.out⟩
          · have t5 : (o1 == 2) = false := by simpa using h1
            go_wp2
            go_ret
            exact ⟨by rw [HCV.out]; simp [classV, h1], X4.out⟩
        · by_cases h2 : o0 = 2
          · subst h2
            have k1 := HK1.out (HO1.out.2 (by omega))
            have l1 : (1 : Int) < (lo : Int) := by have := HO1.out.2 (by omega); omega
            have ln1 : 1 < lo := by omega
            by_cases h1 : o1 = 2
            · subst h1
              go_wp2
              go_ret
              exact ⟨by rw [HCV.out]; rfl, X4.out⟩
            · have t5 : (o1 == 2) = false := by simpa using h1
              go_wp2
              go_ret
              exact ⟨by rw [HCV.out]; simp [classV, h1], X4.out⟩
          · have t4 : (o0 == 4) = false := by simpa using h4
            have t3 : (o0 == 3) = false := by simpa using h3
            have t2 : (o0 == 2) = false := by simpa using h2
            go_wp2
            go_ret
            exact ⟨by rw [HCV.out]; simp [classV, h4, h3, h2], X4.out⟩
end Go.Proofs.Ytdoibgmmijhlfaa
