/- Walk: slices.Concat of any number of slices of integers. -/
import Derived.Test.YtdoibgmmijhlfaaConcat
import Derived.Test.YtdoibgmmijhlfaaOwnZ
namespace Go.Proofs.Ytdoibgmmijhlfaa
open Go.ChangeShapes Go.WideShapes Go.ChangeAt Go.RowKit Go.Shelf
set_option linter.unusedVariables false
set_option linter.unusedSimpArgs false
/-- A slice of slices of integers. -/
def RowsAt (w : World) (v : Value) (L : List (List Int)) : Prop :=
  ∃ A c, v = .slice A L.length c ∧ ∀ k, k < L.length → ∃ b o B d, A = some ⟨b, o, none⟩ ∧ w.cell? ⟨b, o + k, none⟩ = some (.slice B (L.getD k []).length d) ∧ IntsAt w B (L.getD k [])
theorem RowsAt.ext {w W : World} {v : Value} {L : List (List Int)} (h : RowsAt w v L) (x : Ext w W) : RowsAt W v L := by
  obtain ⟨A, c, e, h⟩ := h
  refine ⟨A, c, e, fun k hk => ?_⟩
  obtain ⟨b, o, B, d, e1, e2, e3⟩ := h k hk
  exact ⟨b, o, B, d, e1, x.cell e2, e3.ext x⟩
/-- The integers of the first k rows. -/
def upTo (L : List (List Int)) (k : Nat) : List Int := (L.take k).flatten
theorem upTo_zero (L : List (List Int)) : upTo L 0 = [] := rfl
theorem upTo_succ {L : List (List Int)} {k : Nat} (h : k < L.length) : upTo L (k + 1) = upTo L k ++ L.getD k [] := by
  unfold upTo
  rw [List.take_succ_eq_append_getElem h, List.flatten_append]
  simp [List.getD_eq_getElem?_getD, h]
theorem upTo_all (L : List (List Int)) : upTo L L.length = L.flatten := by simp [upTo]
theorem upTo_le (L : List (List Int)) (k : Nat) : (upTo L k).length ≤ L.flatten.length := by
  unfold upTo
  have : L.flatten = (L.take k).flatten ++ (L.drop k).flatten := by rw [← List.flatten_append, List.take_append_drop]
  rw [this, List.length_append]
  omega
set_option maxHeartbeats 2000000 in
set_option maxRecDepth 100000 in
theorem Concat_any (v : Value) (L : List (List Int)) (w : World) (h : RowsAt w v L) (hl : L.length ≤ 1000) (hs : L.flatten.length ≤ 100000) :
    Calls Try.prog 30 #[v] w fun e w' => ∃ v', e = .returned v' ∧ OwnZ w w' v' L.flatten ∧ Ext w w' := by
  obtain ⟨i0, hi, hz0, hz1, hz2⟩ := info_parts intInfoC
  obtain ⟨A, c, rfl, h⟩ := h
  obtain ⟨F, hF⟩ : ∃ F, F = L.flatten := ⟨_, rfl⟩
  rw [← hF] at hs ⊢
  have HR := hide h
  have HN := hide (And.intro hl hs)
  have HUL := hide (fun k => by have := upTo_le L k; rwa [← hF] at this : ∀ k, (upTo L k).length ≤ F.length)
  have HUA : Hid (upTo L L.length = F) := hide (by rw [upTo_all, hF])
  clear h hl hs hF
  go_enter Try.func30, Try.ntmps30
  go_wp2
  go_loop [3, 5, 11] (fun s _ i => ∃ k : Nat, k ≤ L.length ∧ i = .int .i64 k ∧ s = .int .i64 ((upTo L k).length : Int)) (fun _ _ i => L.length - (intOf i).toNat)
  case atStart => exact ⟨0, by omega, rfl, rfl⟩
  case round =>
    obtain ⟨k, hk, rfl, rfl⟩ := hrel
    by_cases hlt : k < L.length
    · obtain ⟨b, o, B, d, rfl, hc, hz⟩ := HR.out k hlt
      have hsum : (upTo L (k + 1)).length = (upTo L k).length + (L.getD k []).length := by rw [upTo_succ hlt, List.length_append]
      have hle := HUL.out (k + 1)
      have hb := HN.out.2
      have hw : IntKind.i64.wrap (((upTo L k).length : Int) + ((L.getD k []).length : Int)) = ((upTo L (k + 1)).length : Int) := by rw [IntKind.wrap_i64]; omega
      have hn : decide (((upTo L (k + 1)).length : Int) < 0) = false := by simp
      have HM := hide (show k + 1 ≤ L.length from hlt)
      have hlb : L.length ≤ 1000 := HN.out.1
      have hi1 : (k : Int) < (L.length : Int) := by omega
      have hi0 : (0 : Int) ≤ (k : Int) := by omega
      generalize hu : upTo L (k + 1) = u1 at *
      have HU := hide hu
      clear hu
      generalize (upTo L k).length = n0 at *
      generalize (L.getD k []).length = n1 at *
      clear hsum hle hb hz hlt hk
      go_wp2
      go_round
      case rel => exact ⟨k + 1, HM.out, by go_num, by rw [HU.out]⟩
      case measure => have := HM.out; simp [intOf]; omega
    · obtain rfl : k = L.length := by omega
      rw [HUA.out]
      have hlb : L.length ≤ 1000 := HN.out.1
      have HG := hide (Grow_nil F.length w HN.out.2)
      clear hk hlt
      go_wp2_with fail
      refine HG.out.mono ?_
      rintro e w2 ⟨A2, c2, rfl, hown, x2⟩
      clear HG
      go_wp2_with fail
      go_loopw [6, 8, 27] (fun v _ i wr => ∃ (k : Nat) (Av : Option Addr) (cv : Nat), k ≤ L.length ∧ i = .int .i64 k ∧ v = .slice Av (upTo L k).length cv ∧ wr.ownsRow w.heap.size 3 1 (.slice Av (upTo L k).length cv) (upTo L k).length ((upTo L k).map (Value.int .i64)) ∧ Ext w wr) (fun _ _ i _ => L.length - (intOf i).toNat)
      case atStart => exact ⟨0, A2, c2, by omega, rfl, rfl, hown, x2⟩
      case round =>
        obtain ⟨k, Av, cv, hk, rfl, rfl, hown, hext⟩ := hrel
        clear x2
        have hsz := hext.size
        by_cases hlt : k < L.length
        · obtain ⟨b, o, B, d, rfl, hc, hz⟩ := HR.out k hlt
          have HO := hide hown
          have q0 := hext.cell hc
          have HZ := hide (hz.ext hext)
          have HM := hide (show k + 1 ≤ L.length from hlt)
          have HU := hide (upTo_succ hlt)
          have HLE := hide (HUL.out (k + 1))
          have hi1 : (k : Int) < (L.length : Int) := by omega
          have hi0 : (0 : Int) ≤ (k : Int) := by omega
          have HS := hide hsz
          have hlb : L.length ≤ 1000 := HN.out.1
          clear hown hc hz hsz hk
          generalize hx : L.getD k [] = xs at *
          clear hx
          go_wp2_with (at_builtin; go_must (refine wpList_append_cells _ rfl (.tmp 31) (.tmp 32) 23 rfl w.heap.size 3 i0 (.int .i64 0) 1 8 Try.underlying23 hi hz0 hz1 hz2 rfl (by decide) (.slice Av (upTo L k).length cv) (upTo L k).length ((upTo L k).map (Value.int .i64)) rfl HO.out B xs.length d (xs.map (Value.int .i64)) rfl ?len (ints_cells HZ.out) (one_ints xs) ?big ?bytes HS.out ?nil ?_))
          case len => simp
          case big => have := HLE.out; have := HN.out.2; rw [HU.out, List.length_append] at HLE; have := HLE.out; simp only [maxLen]; omega
          case bytes => have := HN.out.2; rw [HU.out, List.length_append] at HLE; have := HLE.out; omega
          case nil => intro h; exact ints_none HZ.out h
          intro v4 w4 hown4 hgrow
          have hx4 : Ext w w4 := ext_grown hext hgrow (own_row HO.out)
          obtain ⟨A4, c4, rfl, _, _⟩ := own_shape hown4
          have HO4 := hide hown4
          clear hown4 hgrow HO q0
          go_wp2
          go_roundw
          case rel =>
            refine ⟨k + 1, A4, c4, HM.out, by go_num, ?_, ?_, hx4⟩
            · rw [HU.out, List.length_append]
            · rw [HU.out, List.length_append, List.map_append]; exact HO4.out
          case measure => have := HM.out; simp [intOf]; omega
        · obtain rfl : k = L.length := by omega
          rw [HUA.out] at hown ⊢
          have HO := hide hown
          clear hown
          go_wp2
          go_ret
          exact ⟨_, rfl, ⟨Av, cv, rfl, HO.out⟩, hext⟩
end Go.Proofs.Ytdoibgmmijhlfaa
