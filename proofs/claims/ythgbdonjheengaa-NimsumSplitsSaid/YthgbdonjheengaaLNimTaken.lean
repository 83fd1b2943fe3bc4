/- Walk: the law NimsumTaken. -/
import Derived.Test.YthgbdonjheengaaNimX
import Derived.Test.YthgbdonjheengaaCloneInts
import Derived.Test.YthgbdonjheengaaRowIn
namespace Go.Proofs.Ythgbdonjheengaa
open Go.RowKit Go.Maps
set_option linter.unusedVariables false
theorem nats_of {L : List Int} (h : L.any outT = false) : ∃ l : List Nat, L = zs l ∧ ∀ x ∈ l, x ≤ 100000000 := by
  have hb : ∀ z ∈ L, 0 ≤ z ∧ z ≤ 100000000 := fun z hz => by
    rw [List.any_eq_false] at h
    have := h z hz
    unfold outT at this
    simp at this
    omega
  refine ⟨L.map Int.toNat, ?_, fun x hx => ?_⟩
  · unfold zs
    rw [List.map_map]
    symm
    conv => rhs; rw [← List.map_id L]
    refine List.map_congr_left fun z hz => ?_
    have := hb z hz
    show ((z.toNat : Nat) : Int) = z
    omega
  · obtain ⟨z, hz, rfl⟩ := List.mem_map.1 hx
    have := hb z hz
    omega
theorem own_blk {w0 w : World} {A : Option Addr} {c : Nat} {l : List Int} (h : w.ownsRow w0.heap.size 3 1 (.slice A l.length c) l.length (l.map (Value.int .i64))) (h0 : 0 < l.length) :
    ∃ (g : Nat) (cur : Array Value), A = some ⟨g, 0, none⟩ ∧ Blk w g 3 cur ∧ w0.heap.size ≤ g ∧ l.length ≤ cur.size ∧ ∀ (j : Nat) (v : Value), (l.map (Value.int .i64))[j]? = some v → cur[j]? = some v := by
  obtain ⟨hl, h⟩ := h
  rcases h with ⟨_, e⟩ | ⟨g, cap, cur, e, hb, hg, hnc, hcm, hcs, ht⟩
  · omega
  · injection e with a b d
    refine ⟨g, cur, a, hg, hb, by omega, fun j v hj => ?_⟩
    rw [← ht, List.getElem?_take] at hj
    split at hj
    · simpa using hj
    · cases hj
theorem zs_set (l : List Nat) (i y : Nat) : zs (l.set i y) = (zs l).set i (y : Int) := by unfold zs; rw [List.map_set]
theorem set_ints {w : World} {g i y : Nat} {cur : Array Value} {l : List Nat} (hb : Blk w g 3 cur) (hi : i < l.length) (hl : l.length ≤ cur.size) (h : ∀ (j : Nat) (v : Value), ((zs l).map (Value.int .i64))[j]? = some v → cur[j]? = some v) :
    IntsAt (w.setCell ⟨g, i, none⟩ (.int .i64 (y : Int))) (some ⟨g, 0, none⟩) (zs (l.set i y)) := by
  have hb2 := hb.set_ i (.int .i64 (y : Int))
  intro j hj
  refine ⟨g, 0, rfl, ?_⟩
  rw [zs_len, List.length_set] at hj
  rw [Nat.zero_add, hb2.cell]
  by_cases hij : i = j
  · subst hij
    rw [Array.getElem?_setIfInBounds, if_pos rfl, if_pos (by omega), zs_set, List.getD_eq_getElem?_getD, List.getElem?_set, if_pos rfl, if_pos (by rw [zs_len]; exact hj)]
    rfl
  · rw [Array.getElem?_setIfInBounds, if_neg hij, zs_set, List.getD_eq_getElem?_getD, List.getElem?_set, if_neg hij]
    have hz : (zs l)[j]? = some (l[j] : Int) := by simp [zs, hj]
    rw [hz]
    exact h j _ (by rw [List.getElem?_map, hz]; rfl)
theorem xor_done {l : List Nat} {i h : Nat} (hi : l[i]? = some h) : xorN (l.set i (h ^^^ xorN l)) = 0 := by
  rw [xorN_set _ hi, ← Nat.xor_assoc h, Nat.xor_self, Nat.zero_xor, Nat.xor_self]
set_option maxHeartbeats 2000000 in
set_option maxRecDepth 100000 in
theorem taken_bad (L : List Int) (E : Int) (hE : E ≠ 0) (hE8 : E ≠ 8) (A : Option Addr) (c : Nat) (w : World) (hT : ∀ W, Ext w W → Calls Try.prog 13 #[.slice A L.length c] W fun e w' => e = .returned (.tuple #[.int .i64 0, .int .i64 0, .int .i64 E]) ∧ Ext W w') :
    Calls Try.prog 4 #[.slice A L.length c] w fun e w' => e = .returned (.bool true) ∧ Ext w w' := by
  have HT := Lib.hid hT
  have t0 : (E != 0) = true := by simpa using hE
  have t1 : (E != 8) = true := by simpa using hE8
  generalize L.length = n at *
  clear hT hE hE8
  go_enter Try.func4, Try.ntmps4
  go_wp2_with fail
  refine (summed_any _).mono ?_
  rintro e w1 ⟨rfl, x1⟩
  have X1 := Lib.hid x1
  clear x1
  go_wp2_with fail
  refine (HT.out _ X1.out).mono ?_
  rintro e w2 ⟨rfl, x2⟩
  have X2 := Lib.hid (ext_trans X1.out x2)
  clear x2
  go_wp2
  go_ret
  exact ⟨by first | rfl | simp, X2.out⟩
set_option maxHeartbeats 4000000 in
set_option maxRecDepth 100000 in
theorem taken_ok (l : List Nat) (hl : l.length ≤ 256) (hx : ∀ x ∈ l, x ≤ 100000000) (A : Option Addr) (c : Nat) (w : World) (hA : IntsAt w A (zs l)) (hn : A = none → l.length = 0) :
    Calls Try.prog 4 #[.slice A l.length c] w fun e w' => e = .returned (.bool true) ∧ Ext w w' := by
  have HT := Lib.hid (fun W (hW : Ext w W) => take_any l hl hx A c W (hA.ext hW))
  have HSU := Lib.hid (fun W (hW : Ext w W) => sum_any l (by omega) (fun x h => by have := hx x h; omega) A c W (hA.ext hW))
  have HCL := Lib.hid (fun W (hW : Ext w W) => cloneInts_any A l.length c (zs l) W (zs_len l) (by omega) hn (hA.ext hW))
  have HA := Lib.hid hA
  have HX := Lib.hid hx
  have HL := Lib.hid hl
  obtain ⟨n, hN⟩ : ∃ n, n = l.length := ⟨_, rfl⟩
  have HN := Lib.hid hN
  rw [← hN] at HT HSU HCL hl ⊢
  clear hA hx hn hN
  go_enter Try.func4, Try.ntmps4
  go_wp2_with fail
  refine (summed_any _).mono ?_
  rintro e w1 ⟨rfl, x1⟩
  have X1 := Lib.hid x1
  clear x1
  go_wp2_with fail
  refine (HT.out _ X1.out).mono ?_
  rintro e w2 ⟨x2, ⟨i, h, hi, hlt, rfl⟩ | ⟨h0, rfl⟩⟩
  · have hil := (List.getElem?_eq_some_iff.1 hi).1
    have h8 := HX.out h (List.mem_of_getElem? hi)
    have X2 := Lib.hid (ext_trans X1.out x2)
    obtain ⟨b, o, rfl, hc⟩ := HA.out.ext X2.out i (by rw [zs_len]; exact hil)
    rw [show (zs l).getD i 0 = (h : Int) by rw [List.getD_eq_getElem?_getD]; simp [zs, hi]] at hc
    have HI := Lib.hid hi
    have HIL := Lib.hid hil
    have i0 : (0 : Int) ≤ (i : Int) := by omega
    have i1 : (i : Int) < (n : Int) := by rw [HN.out]; omega
    have i2 : decide ((i : Int) < 0) = false := decide_eq_false (by omega)
    have i3 : decide ((n : Int) ≤ (i : Int)) = false := decide_eq_false (by omega)
    have i3n : decide (n ≤ i) = false := decide_eq_false (by omega)
    have HXD := Lib.hid (xor_done hi)
    obtain ⟨z, hz⟩ : ∃ z, z = h ^^^ xorN l := ⟨_, rfl⟩
    rw [← hz] at hlt HXD ⊢
    have i4 : decide ((z : Int) < 0) = false := decide_eq_false (by omega)
    have i5 : decide ((h : Int) ≤ (z : Int)) = false := decide_eq_false (by omega)
    have i5n : decide (h ≤ z) = false := decide_eq_false (by omega)
    have HZ := Lib.hid (show z < 4294967296 by omega)
    have HCELL := Lib.hid hc
    clear hi hil h8 x2 hz hlt HT HSU
    go_wp2_with fail
    refine (HCL.out _ X2.out).mono ?_
    rintro e w3 ⟨A3, c3, rfl, hown, x3⟩
    obtain ⟨g, cur, rfl, hb, hg, hlc, hcur⟩ := own_blk hown (by rw [zs_len]; have := HIL.out; omega)
    rw [zs_len] at hlc
    have HSI := Lib.hid (set_ints (i := i) (y := z) hb HIL.out hlc hcur)
    have hcc : w3.cell? ⟨g, i, none⟩ = some (.int .i64 (h : Int)) := by
      rw [hb.cell]
      exact hcur i _ (by rw [List.getElem?_map]; simp [zs, HI.out])
    have hf := hb.frozen i
    have X3 := Lib.hid (ext_set (ext_trans X2.out x3) (p := ⟨g, i, none⟩) (Nat.le_trans X2.out.size hg) (.int .i64 (z : Int)))
    rw [show (zs l).length = n by rw [zs_len, HN.out]]
    have HSM := Lib.hid (fun W hW => sum_any (l.set i z) (by rw [List.length_set]; have := HL.out; omega) (fun x hx => by
      rcases List.mem_or_eq_of_mem_set hx with h | rfl
      · have := HX.out x h; omega
      · exact HZ.out) (some ⟨g, 0, none⟩) c3 W hW)
    rw [List.length_set, ← HN.out, HXD.out] at HSM
    clear hown x3 hb hg hlc hcur hc HCL
    go_wp2_with fail
    generalize w3.setCell ⟨g, i, none⟩ (.int .i64 (z : Int)) = w4 at *
    refine (HSM.out _ HSI.out).mono ?_
    rintro e w5 ⟨rfl, rfl⟩
    go_wp2
    go_ret
    exact ⟨by first | rfl | simp, X3.out⟩
  · have X2 := Lib.hid (ext_trans X1.out x2)
    rw [h0] at HSU
    clear x2 h0 HT
    go_wp2_with fail
    refine (HSU.out _ X2.out).mono ?_
    rintro e w3 ⟨rfl, rfl⟩
    go_wp2
    go_ret
    exact ⟨by first | rfl | simp, X2.out⟩
theorem nimsumTaken_law (A : Option Addr) (n c : Nat) (ys : List Int) (w : World) (h : IsRow w A n c ys) : Calls Try.prog 4 #[.slice A n c] w fun e w' => e = .returned (.bool true) ∧ Ext w w' := by
  obtain ⟨h1, h2, h3, h4⟩ := h.ints
  generalize ys.take n = L at *
  subst h2
  by_cases hl : 256 < L.length
  · exact taken_bad L 2 (by decide) (by decide) A c w fun W hW => take_large L hl A c W
  · cases ho : L.any outT with
    | true => exact taken_bad L 4 (by decide) (by decide) A c w fun W hW => take_out L (by omega) ho A c W (h1.ext hW)
    | false =>
      obtain ⟨l, rfl, hx⟩ := nats_of ho
      rw [zs_len] at hl h3 ⊢
      exact taken_ok l (by omega) hx A c w h1 h3
end Go.Proofs.Ythgbdonjheengaa
