/- Walks over the package symm: cycles. -/
import Derived.Test.YtmkckpiehffccaaSymmW5
import Derived.Test.YtmkckpiehffccaaTurnP
import Derived.Test.YtmkckpiehffccaaMem2
import Derived.Deep.LoopGhost
namespace Go.Proofs.Ytmkckpiehffccaa
open Go.ChangeShapes Go.WideShapes Go.ChangeAt Go.RowKit
set_option linter.unusedVariables false
theorem boolInfo : (Try.prog.info? 4).map (fun i => (i.zero, i.size, i.bytes)) = some (some (.bool false), 1, 1) := by kernel_rfl
theorem make_bools (n : Nat) (hn : n ≤ 1000) (w : World) : (Instr.makeSlice 55 (.int .i64 (n : Int)) (.int .i64 (n : Int))).run Try.prog w = .ok (.slice (some ⟨w.heap.size, 0, none⟩) n n) (w.alloc (.cells ((List.replicate n false).map Value.bool).toArray 4)) := by
  obtain ⟨i, hi, hz, hs, hby⟩ := info_parts boolInfo
  have hr := run_make (P := Try.prog) w 55 4 i (.bool false) Try.underlying55 hi hz .i64 .i64 n n (by omega) (by omega) (by rw [hby]; omega) (by omega)
  rw [hr, hs]
  have : (madeCells (Value.bool false).cells (n * 1)) = ((List.replicate n false).map Value.bool).toArray := by
    apply Array.toList_inj.1
    rw [Nat.mul_one]
    show (madeCells #[Value.bool false] n).toList = _
    rw [toList_madeCells_one]
    simp
  simp only [Int.toNat_natCast, this]
/-- Block g holds just the truth values l. -/
def RowB (w : World) (g : Nat) (l : List Bool) : Prop := Blk w g 4 (l.map Value.bool).toArray
theorem RowB.cell {w : World} {g : Nat} {l : List Bool} (h : RowB w g l) {i : Nat} {b : Bool} (hi : l[i]? = some b) : w.cell? ⟨g, i, none⟩ = some (.bool b) := by
  have := Blk.cell h i
  rw [this]
  simp [hi]
theorem RowB.set_ {w : World} {g : Nat} {l : List Bool} (h : RowB w g l) (i : Nat) (b : Bool) : RowB (w.setCell ⟨g, i, none⟩ (.bool b)) g (l.set i b) := by
  have := Blk.set_ h i (.bool b)
  unfold RowB
  rw [List.map_set]
  simpa using this
theorem get_of {l : List Bool} {n k : Nat} (h : l.length = n) (hk : k < n) : ∃ b, l[k]? = some b := ⟨l[k]'(by omega), List.getElem?_eq_getElem _⟩
theorem cycles_any (a b s : Int) (w : World) (h : okSide a b) (hs : okSym a b s) :
    Calls Try.prog 22 #[.int .i64 a, .int .i64 b, .int .i64 s] w fun e w' => e = .returned (.int .i64 (cyc a b s)) ∧ Ext w w' := by
  have har := area_bd a b h
  obtain ⟨N, hN⟩ : ∃ N : Nat, a * b = N := ⟨(a * b).toNat, by omega⟩
  have hcy : cyc a b s = (cycAt (toF a b s) N N).2 := by unfold cyc; rw [hN]; simp
  rw [hcy]
  have hto := fun (k : Nat) W (hk : k < N) => to_any a b s k W h hs.1 hs.2 (by omega) (by omega)
  have hF : ∀ k : Nat, k < N → toL a b s k = (toF a b s k : Int) ∧ toF a b s k < N := fun k hk => by
    have := toL_bd (q := (k : Int)) h hs (by omega) (by omega)
    unfold toF
    omega
  have hto' := fun (k : Nat) W (hk : k < N) => (hF k hk).1 ▸ hto k W hk
  have hmk := make_bools N (by omega)
  rw [← hN] at hmk
  have HTO := hide hto'
  have HF := hide hF
  have HN := hide hN
  have hN64 : N ≤ 64 := by omega
  have hlen := hide (cycAt_length (toF a b s) N)
  clear hcy hto hto' hF hN hs
  generalize toF a b s = F at *
  go_enter Try.func22, Try.ntmps22
  go_wp2
  have hrow0 : RowB (w.alloc (.cells ((List.replicate N false).map Value.bool).toArray 4)) w.heap.size (cycAt F N 0).1 := Blk.new w 4 _
  go_loopw [8, 9, 10, 17] (fun n _ _ i wr => ∃ k : Nat, k ≤ N ∧ i = .int .i64 k ∧ n = .int .i64 ((cycAt F N k).2 : Nat) ∧ RowB wr w.heap.size (cycAt F N k).1 ∧ Ext w wr) (fun _ _ _ i _ => N - (intOf i).toNat)
  case atStart => exact ⟨0, Nat.zero_le _, rfl, rfl, by simpa using hrow0, ext_alloc (Below.refl _ _) _⟩
  case round =>
    obtain ⟨k, hk, rfl, rfl, hrow, hext⟩ := hrel
    clear hrow0
    obtain ⟨wo, rfl⟩ : ∃ wo : World, wo = wr := ⟨_, rfl⟩
    by_cases hlt : k < N
    · obtain ⟨bk, hbk⟩ := get_of (hlen.out k).1 hlt
      have hcell := hrow.cell hbk
      have hc2 := (hlen.out k).2
      have HS := hide (cycAt_succ F N k)
      have HBK := hide hbk
      clear hbk
      cases bk
      · have HSF : Hid ((cycAt F N (k + 1)).1 = mark F ((cycAt F N k).1.count false) k (cycAt F N k).1 ∧ (cycAt F N (k + 1)).2 = (cycAt F N k).2 + 1) := hide (by
          rw [HS.out]; unfold cycStep; rw [if_neg (by rw [List.getD_eq_getElem?_getD, HBK.out]; simp)]; exact ⟨rfl, rfl⟩)
        have hl0 := hide (hlen.out k).1
        clear HS HBK
        generalize (cycAt F N k).1 = l0 at *
        generalize (cycAt F N k).2 = n0 at *
        go_wp2
        go_loopg [10] (l0.count false) (fun g q wr => ∃ (x : Nat) (l : List Bool), q = .int .i64 x ∧ x < N ∧ Hid (l.length = N) ∧ Hid (g = l.count false) ∧ Hid (mark F (l.count false) x l = (cycAt F N (k + 1)).1) ∧ RowB wr w.heap.size l ∧ Ext w wr)
        case atStart => exact ⟨k, l0, rfl, hlt, hl0, rfl, hide HSF.out.1.symm, hrow, hext⟩
        case round =>
          obtain ⟨x, l, rfl, hx, hll, hg, hmk, hrw, hxt⟩ := hrel
          clear hrow hext hcell
          obtain ⟨bx, hbx⟩ := get_of hll.out hx
          have hcx := hrw.cell hbx
          have HBX := hide hbx
          clear hbx
          cases bx
          · have hfr := hrw.frozen x
            have HM := hide ((mark_false (f := F) HBX.out).symm.trans hmk.out)
            have HC := hide (count_set HBX.out)
            have HT := hide (fun W => HTO.out x W hx)
            have HFX := hide (HF.out x hx).2
            have hrw2 := hide (hrw.set_ x true)
            have hxt2 := hide (ext_set hxt (p := ⟨w.heap.size, x, none⟩) (Nat.le_refl _) (.bool true))
            have HLL : Hid ((l.set x true).length = N) := hide (by rw [List.length_set]; exact hll.out)
            clear hmk hrw hxt HBX hll
            go_wp2_with (go_at_call 27; refine (HT.out _).mono ?_; rintro e w' ⟨rfl, q, rfl⟩)
            go_roundg ((l.set x true).count false)
            case rel => exact ⟨_, l.set x true, rfl, HFX.out, HLL, rfl, HM, hrw2.out, below_drewN hxt2.out q⟩
            case measure => rw [hg.out, HC.out]; omega
          · have HM := hide ((mark_true (f := F) HBX.out).symm.trans hmk.out)
            have hrw2 := hide hrw
            clear hmk
            go_wp2
            go_roundw
            case rel => exact ⟨k + 1, by omega, by go_num, by rw [HSF.out.2]; go_num, by rw [← HM.out]; exact hrw, hxt⟩
            case measure => simp [intOf]; omega
      · have HST : Hid (cycAt F N (k + 1) = cycAt F N k) := hide (by
          rw [HS.out]; unfold cycStep; rw [if_pos (by rw [List.getD_eq_getElem?_getD, HBK.out]; rfl)])
        clear HS HBK
        go_wp2
        go_roundw
        case rel => exact ⟨k + 1, by omega, by go_num, by rw [HST.out], by rw [HST.out]; exact hrow, hext⟩
        case measure => simp [intOf]; omega
    · obtain rfl : k = N := by omega
      go_wp2
      go_ret
      exact ⟨rfl, hext⟩
end Go.Proofs.Ytmkckpiehffccaa
