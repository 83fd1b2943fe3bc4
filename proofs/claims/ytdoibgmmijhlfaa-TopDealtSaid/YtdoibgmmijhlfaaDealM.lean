/- Walk: ranks.Winners. -/
import Derived.Test.YtdoibgmmijhlfaaDealN
import Derived.Test.YtdoibgmmijhlfaaDealP
namespace Go.Proofs.Ytdoibgmmijhlfaa
open Go.ChangeShapes Go.WideShapes Go.ChangeAt Go.RowKit Go.Shelf
set_option linter.unusedVariables false
set_option linter.unusedSimpArgs false
theorem winF_snoc : ∀ (l : List Int) (v : Int) (i : Nat) (s : List Int × Int), winF (l ++ [v]) i s = winS v (i + l.length) (winF l i s)
  | [], v, i, s => rfl
  | a :: l, v, i, s => by
    show winF (l ++ [v]) (i + 1) (winS a i s) = winS v (i + (l.length + 1)) (winF l (i + 1) (winS a i s))
    rw [winF_snoc l v (i + 1), show i + 1 + l.length = i + (l.length + 1) by omega]
/-- The winners of the first k hands, and their value. -/
def winP (l : List Int) (k : Nat) : List Int × Int := winF (l.take k) 0 ([], -1)
theorem winP_succ {l : List Int} {k : Nat} (h : k < l.length) : winP l (k + 1) = winS (l.getD k 0) k (winP l k) := by
  unfold winP
  rw [List.take_succ_eq_append_getElem h, winF_snoc]
  simp [List.getD_eq_getElem?_getD, h, Nat.min_eq_left (Nat.le_of_lt h)]
theorem winP_all (l : List Int) : (winP l l.length).1 = winM l := by unfold winP winM; rw [List.take_length]
theorem winS_len (v : Int) (i : Nat) (s : List Int × Int) : (winS v i s).1.length ≤ s.1.length + 1 := by
  unfold winS
  repeat' split
  all_goals simp
theorem winP_len (l : List Int) : ∀ k, k ≤ l.length → (winP l k).1.length ≤ k
  | 0, _ => by simp [winP, winF]
  | k + 1, h => by
    rw [winP_succ (by omega)]
    have := winP_len l k (by omega)
    have := winS_len (l.getD k 0) k (winP l k)
    omega
/-- A slice of hands, with the room of each. -/
def RowsC (w : World) (v : Value) (L : List (List Int)) : Prop :=
  ∃ A c, v = .slice A L.length c ∧ ∀ k, k < L.length → ∃ b o B d, A = some ⟨b, o, none⟩ ∧ w.cell? ⟨b, o + k, none⟩ = some (.slice B (L.getD k []).length d) ∧ IntsAt w B (L.getD k []) ∧ (L.getD k []).length ≤ d ∧ d ≤ maxLen
theorem RowsC.at_ {w : World} {v : Value} {L : List (List Int)} (h : RowsC w v L) : RowsAt w v L := by
  obtain ⟨A, c, e, h⟩ := h
  refine ⟨A, c, e, fun k hk => ?_⟩
  obtain ⟨b, o, B, d, e1, e2, e3, -⟩ := h k hk
  exact ⟨b, o, B, d, e1, e2, e3⟩
theorem OwnZ.mono9 {w0 w1 w : World} {v : Value} {xs : List Int} (h : OwnZ w1 w v xs) (hb : w0.heap.size ≤ w1.heap.size) : OwnZ w0 w v xs := by
  obtain ⟨A, c, e, o⟩ := h
  exact ⟨A, c, e, own_mono o hb⟩
theorem ownZ_one (w0 w : World) (z : Int) (hx : Ext w0 w) : OwnZ w0 (w.alloc (.cells #[.int .i64 z] 3)) (.slice (some ⟨w.heap.size, 0, none⟩) 1 1) [z] :=
  OwnZ.of_blk (xs := [z]) hx.size (by simp) (by simp [maxLen]) (Blk.new w 3 #[.int .i64 z]) rfl rfl
set_option maxHeartbeats 4000000 in
set_option maxRecDepth 100000 in
theorem Winners_any (v : Value) (L : List (List Int)) (w : World) (h : RowsC w v L) (h0 : L ≠ []) (h10 : L.length ≤ 10) (h5 : ∀ l ∈ L, l.length = 5) (hok : OkD L.flatten) :
    Calls Try.prog 19 #[v] w fun e w' => ∃ u, e = .returned (.tuple #[u, .int .i64 0]) ∧ OwnZ w w' u (winM (L.map valR)) ∧ Ext w w' := by
  have hat := h.at_
  obtain ⟨A, c, rfl, h⟩ := h
  have hlf : L.flatten.length = L.length * 5 := by
    have : ∀ l : List (List Int), (∀ x ∈ l, x.length = 5) → l.flatten.length = l.length * 5 := fun l hl => by
      induction l with
      | nil => rfl
      | cons a l ih => rw [List.flatten_cons, List.length_append, hl a (by simp), ih (fun x hx => hl x (by simp [hx])), List.length_cons]; omega
    exact this L h5
  have hLp : 0 < L.length := List.length_pos_iff.2 h0
  have HR := hide h
  have HM := hide (fun k (hk : k < L.length) => (by
    have hm : L.getD k [] ∈ L := by rw [List.getD_eq_getElem?_getD, List.getElem?_eq_getElem hk]; exact List.getElem_mem hk
    exact ⟨h5 _ hm, hok.sub (List.sublist_flatten_of_mem hm)⟩ : (L.getD k []).length = 5 ∧ OkD (L.getD k [])))
  have HCC := hide (Concat_any _ L w hat (by omega) (by omega))
  have HOK := hide hok
  have HN := hide (And.intro h10 (And.intro hlf hLp))
  have hl10 : (L.length : Int) ≤ 10 := by omega
  have t0 : decide ((10 : Int) < (L.length : Int)) = false := by simp; omega
  clear h hat h0 h5 hok hlf hLp
  go_enter Try.func19, Try.ntmps19
  go_wp2
  go_loopw [5, 6, 18] (fun _ _ i wr => ∃ k : Nat, k ≤ L.length ∧ i = .int .i64 k ∧ w = wr) (fun _ _ i _ => L.length - (intOf i).toNat)
  case atStart => exact ⟨0, by omega, rfl, rfl⟩
  case round =>
    obtain ⟨k, hk, rfl, rfl⟩ := hrel
    by_cases hlt : k < L.length
    · obtain ⟨b, o, B, d, rfl, hc, hz, hd1, hd2⟩ := HR.out k hlt
      obtain ⟨m5, mok⟩ := HM.out k hlt
      rw [m5] at hc hd1
      have HCK := hide (rcheck_ok B d (L.getD k []) w m5 hd1 hd2 hz mok)
      have HK := hide hlt
      have i1 : (k : Int) < (L.length : Int) := by omega
      have i0 : (0 : Int) ≤ (k : Int) := by omega
      clear hz hlt hk hd1 hd2 m5 mok
      go_wp2_with fail
      refine HCK.out.mono ?_
      rintro e w1 ⟨rfl, rfl⟩
      go_wp2
      go_roundw
      case rel => exact ⟨k + 1, HK.out, by go_num, by first | rfl | trivial⟩
      case measure => have := HK.out; simp only [intOf, wrap64]; omega
    · obtain rfl : k = L.length := by omega
      clear hk hlt
      go_wp2_with fail
      refine HCC.out.mono ?_
      rintro e w2 ⟨v2, rfl, o2, x2⟩
      obtain ⟨g2, c2, cur2, rfl, -, -, -, hc2, -, -, hcm2⟩ := o2.holds (by intro e; have := congrArg List.length e; have := HN.out; simp at *; omega)
      obtain ⟨A7, c7, e7, hz7⟩ := o2.ints
      simp only [Value.slice.injEq, true_and] at e7
      obtain ⟨rfl, rfl⟩ := e7
      have HCK := hide (Check_ok _ L.flatten.length c2 L.flatten w2 rfl hc2 hcm2 hz7 HOK.out)
      have X2 := hide x2
      clear o2 hc2 hcm2 hz7 x2 HCC
      generalize L.flatten.length = fl at *
      go_wp2_with fail
      refine HCK.out.mono ?_
      rintro e w3 ⟨rfl, rfl⟩
      have HVL : Hid ((L.map valR).length = L.length) := hide (by simp)
      obtain ⟨vs, hvs⟩ : ∃ vs, vs = L.map valR := ⟨_, rfl⟩
      rw [← hvs] at HVL
      have HVS := hide hvs
      have HVK := hide (fun k (hk : k < L.length) => (by rw [hvs]; simp [List.getD_eq_getElem?_getD, hk] : vs.getD k 0 = valR (L.getD k [])))
      clear hvs HCK
      go_wp2
      go_loopw [8, 9, 10, 11, 12, 36] (fun u m _ _ _ i ws => ∃ k : Nat, k ≤ L.length ∧ i = .int .i64 k ∧ OwnZ w3 ws u (winP vs k).1 ∧ m = .int .i64 (winP vs k).2 ∧ Ext w3 ws) (fun _ _ _ _ _ i _ => L.length - (intOf i).toNat)
      case atStart => exact ⟨0, by omega, rfl, OwnZ.nil w3 w3, rfl, Below.refl _ _⟩
      case round =>
        obtain ⟨k, hk, rfl, hO, rfl, hX⟩ := hrel
        by_cases hlt : k < L.length
        · obtain ⟨b, o, B, d, rfl, hc, hz, hd1, hd2⟩ := HR.out k hlt
          obtain ⟨m5, mok⟩ := HM.out k hlt
          have XW := hide (ext_trans X2.out hX)
          have hc1 := XW.out.cell hc
          rw [m5] at hc1
          have HVO := hide (valueOf_any B d (L.getD k []) wr m5 (hz.ext XW.out) mok.2.1)
          have HS := hide (winP_succ (l := vs) (k := k) (by rw [HVL.out]; exact hlt))
          rw [HVK.out k hlt] at HS
          have HLN := hide (winP_len vs k (by rw [HVL.out]; exact hk))
          have HK := hide hlt
          have HO := hide hO
          have HXX := hide hX
          have i1 : (k : Int) < (L.length : Int) := by omega
          have i0 : (0 : Int) ≤ (k : Int) := by omega
          clear hc hz hd1 hd2 m5 mok hlt hk hO hX
          generalize valR (L.getD k []) = vv at *
          generalize hp : winP vs k = p at *
          clear hp
          obtain ⟨ul, um⟩ := p
          have HUL2 : Hid (ul.length ≤ 1000000) := hide (by have h1 : ul.length ≤ k := HLN.out; have := HK.out; have := HN.out.1; omega)
          go_wp2_with fail
          refine HVO.out.mono ?_
          rintro e w5 ⟨rfl, x5⟩
          have HO5 := hide (HO.out.ext x5)
          have X5 := hide (ext_trans HXX.out x5)
          clear hc1 x5 HVO HO HXX XW
          by_cases h1 : um < vv
          · have t1 : decide (um < vv) = true := by simpa using h1
            have e1 : winS vv k (ul, um) = ([(k : Int)], vv) := by unfold winS; rw [if_pos h1]
            rw [e1] at HS
            have HON := hide (ownZ_one w3 w5 (k : Int) X5.out)
            have XN := hide (ext_alloc X5.out (.cells #[.int .i64 (k : Int)] 3))
            clear h1 e1
            go_wp2
            go_roundw
            case rel => exact ⟨k + 1, HK.out, by go_num, by rw [HS.out]; exact HON.out, by rw [HS.out], XN.out⟩
            case measure => have := HK.out; simp only [intOf, wrap64]; omega
          · have t1 : decide (um < vv) = false := by simpa using h1
            by_cases h2 : vv = um
            · subst h2
              have e1 : winS vv k (ul, vv) = (ul ++ [(k : Int)], vv) := by unfold winS; rw [if_neg (by omega), if_pos rfl]
              rw [e1] at HS
              clear h1 e1
              go_wp2_with (at_builtin; refine wp_append_z (.tmp 54) (.tmp 56) rfl rfl w3 w5 _ ul (k : Int) rfl HO5.out rfl X5.out HUL2.out ?_)
              intro v9 w9 hO9 hx9 hg9
              have HO9 := hide hO9
              have HX9 := hide hx9
              clear hO9 hx9 hg9
              go_wp2
              go_roundw
              case rel => exact ⟨k + 1, HK.out, by go_num, by rw [HS.out]; exact HO9.out, by rw [HS.out], HX9.out⟩
              case measure => have := HK.out; simp only [intOf, wrap64]; omega
            · have t2 : (vv == um) = false := by simpa using h2
              have e1 : winS vv k (ul, um) = (ul, um) := by unfold winS; rw [if_neg h1, if_neg h2]
              rw [e1] at HS
              clear h1 h2 e1
              go_wp2
              go_roundw
              case rel => exact ⟨k + 1, HK.out, by go_num, by rw [HS.out]; exact HO5.out, by rw [HS.out], X5.out⟩
              case measure => have := HK.out; simp only [intOf, wrap64]; omega
        · obtain rfl : k = L.length := by omega
          have e9 : (winP vs L.length).1 = winM vs := by rw [← HVL.out]; exact winP_all vs
          rw [e9] at hO
          have HO := hide hO
          have HXX := hide hX
          have hs3 := X2.out.size
          clear hO hX hk hlt e9
          go_wp2
          go_ret2
          rw [← HVS.out]
          exact ⟨_, rfl, OwnZ.mono9 HO.out hs3, ext_trans X2.out HXX.out⟩
end Go.Proofs.Ytdoibgmmijhlfaa
