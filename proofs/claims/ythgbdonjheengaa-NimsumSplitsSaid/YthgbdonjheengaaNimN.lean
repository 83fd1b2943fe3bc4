/- Walk: the moves of a list of heaps that are divided. -/
import Derived.Test.YthgbdonjheengaaNimJ
import Derived.Test.YthgbdonjheengaaNimVS
import Derived.Lib.ConvBytes
import Derived.Laws.IdiomStrings
import Derived.Laws.BytesArg
namespace Go.Proofs.Ythgbdonjheengaa
open Go.RowKit Go.Maps
set_option linter.unusedVariables false
set_option linter.unusedSimpArgs false
theorem strInfoN : (Try.prog.info? 9).map (fun i => (i.zero, i.size, i.bytes)) = some (some (.string ⟨#[]⟩), 1, 16) := by kernel_rfl
theorem strV_get {l : List Nat} (h : ∀ x ∈ l, x < 256) {k x : Nat} (hk : l[k]? = some x) (hs : k < (strV l).size) : (((strV l)[k]'hs).toNat : Int) = (x : Int) := by
  obtain ⟨hl, rfl⟩ := List.getElem?_eq_some_iff.1 hk
  have e : (strV l)[k]'hs = UInt8.ofNat l[k] := by
    have e1 : (strV l).data[k]? = some (UInt8.ofNat l[k]) := by simp [strV, hl]
    have e2 : (strV l).data[k]? = some ((strV l)[k]'hs) := Array.getElem?_eq_getElem _
    exact Option.some.inj (e2.symm.trans e1)
  rw [e, UInt8.toNat_ofNat']
  have := h _ (List.getElem_mem hl)
  omega
theorem strV_data (l : List Nat) : (strV l).data.toList = l.map UInt8.ofNat := by simp [strV]
theorem strV_ext {a : ByteArray} {l : List Nat} (h : a.data.toList = l.map UInt8.ofNat) : a = strV l := by
  apply ByteArray.ext
  apply Array.toList_inj.1
  rw [h, strV_data]
theorem strV_app (a b : List Nat) : strV a ++ strV b = strV (a ++ b) := by
  apply strV_ext
  simp [strV_data]
theorem strV_take (l : List Nat) (k : Nat) : (strV l).extract 0 k = strV (l.take k) := by
  apply strV_ext
  rw [ByteArray.data_extract, Array.toList_extract, strV_data, List.extract_eq_take_drop]
  simp [List.map_take]
theorem strV_drop (l : List Nat) (k : Nat) : (strV l).extract k (strV l).size = strV (l.drop k) := by
  apply strV_ext
  rw [ByteArray.data_extract, Array.toList_extract, strV_data, List.extract_eq_take_drop, strV_size]
  rw [List.map_drop, List.take_of_length_le (by simp)]
/-- Block g holds the bytes of l. -/
def RestAt (w : World) (g : Nat) (l : List Nat) : Prop := (∃ cs f, w.heap[g]? = some (.cells cs 5 f)) ∧ CellsAt w (some ⟨g, 0, none⟩) (bytesN l)
theorem RestAt.ext {w w' : World} {g : Nat} {l : List Nat} (h : RestAt w g l) (x : Ext w w') : RestAt w' g l := by
  obtain ⟨⟨cs, f, hb⟩, hc⟩ := h
  exact ⟨⟨cs, f, (x.block g (Array.getElem?_eq_some_iff.1 hb).1).trans hb⟩, hc.ext x⟩
theorem RestAt.grown {w0 w w' : World} {g n : Nat} {l : List Nat} {v : Value} {cs : List Value} (h : RestAt w g l) (ho : OwnR 9 1 w0 w v n cs) (hg : w.grownBy w' v.ownBlock) : RestAt w' g l := by
  have hne : v.ownBlock ≠ some g := fun e => by
    obtain ⟨A, c, rfl, hl, ho⟩ := ho
    rcases ho with ⟨ev, _⟩ | ⟨g', cap, cur, ev, _, hh, _⟩
    · rw [ev] at e; cases e
    · rw [ev] at e
      have e1 : g' = g := by simpa [Value.ownBlock] using e
      subst e1
      obtain ⟨⟨cs', f, hb⟩, _⟩ := h
      rw [hh] at hb
      injection hb with hb
      injection hb with _ hb _
      exact absurd hb (by decide)
  obtain ⟨⟨cs', f, hb⟩, hc⟩ := h
  exact ⟨⟨cs', f, (hg.block g (Array.getElem?_eq_some_iff.1 hb).1 (fun e => hne e.symm)).trans hb⟩, cells_grown hc hg (fun a ha => by injection ha with ha; subst ha; exact hne)⟩
/-- []byte(s). -/
theorem to_bytes (l : List Nat) (h : ∀ x ∈ l, x < 256) (W : World) : ∃ c w', (convert 9 46 (.string (strV l))).run Try.prog W = .ok (.slice (some ⟨W.heap.size, 0, none⟩) l.length c) w' ∧ RestAt w' W.heap.size l ∧ Ext W w' := by
  have hr := Lib.run_convert_string_bytes (P := Try.prog) W 9 46 5 (strV l) Try.underlying9 Try.underlying46 Try.underlying5
  rw [strV_size] at hr
  refine ⟨_, _, hr, ⟨⟨_, _, Lib.bytesWorld_at_new W _ _⟩, fun i v hi => ⟨W.heap.size, 0, rfl, ?_⟩⟩, ⟨rfl, rfl, rfl, by rw [Lib.bytesWorld_size]; omega, fun b hb => Lib.bytesWorld_at_old W _ _ b hb⟩⟩
  have hil : i < l.length := by
    have := (List.getElem?_eq_some_iff.1 hi).1
    simpa [bytesN] using this
  rw [Nat.zero_add, Lib.bytesWorld_cell W _ _ i (by rw [strV_size]; exact hil), strV_data]
  simp only [bytesN, List.getElem?_map, List.getElem?_eq_getElem hil, Option.map_some, Option.some.injEq] at hi
  rw [← hi]
  have := h _ (List.getElem_mem hil)
  simp [List.getD, hil]
  omega
/-- string(b). -/
theorem to_str (l : List Nat) (h : ∀ x ∈ l, x < 256) (A : Option Addr) (c : Nat) (W : World) (hA : CellsAt W A (bytesN l)) (hn : A = none → l.length = 0) : (convert 46 9 (.slice A l.length c)).run Try.prog W = .ok (.string (strV l)) W := by
  cases A with
  | none =>
    have h0 : l = [] := List.eq_nil_of_length_eq_zero (hn rfl)
    subst h0
    exact run_convert_bytes_nil W _ _ Try.underlying46 Try.underlying5 _ _ _ Try.underlying9
  | some ad =>
    have hc : ∀ j (hj : j < (l.map UInt8.ofNat).length), W.cell? (ad.add j) = some (.int .u8 ((l.map UInt8.ofNat)[j].toNat : Int)) := fun j hj => by
      have hj' : j < l.length := by simpa using hj
      obtain ⟨b, o, e, hc⟩ := hA j (.int .u8 (l[j] : Int)) (by simp [bytesN, hj'])
      injection e with e
      subst e
      rw [add_lit, hc, List.getElem_map, UInt8.toNat_ofNat']
      have := h _ (List.getElem_mem hj')
      congr 2
      omega
    have hr := run_convert_bytes_back (P := Try.prog) W 46 9 5 ad c (l.map UInt8.ofNat) Try.underlying46 Try.underlying5 Try.underlying9 hc
    rw [List.length_map] at hr
    exact hr
/-- The moves of the first k heaps, and the first ones of heap k. -/
def preN (l : List Nat) (k a : Nat) : List (List Nat) := (List.range k).flatMap (splitsAt l) ++ (splitsAt l k).take a
theorem preN_len {l : List Nat} (h : wtS l ≤ 64) {k a : Nat} (hk : k < l.length) : (preN l k a).length ≤ 10000 := by
  have hl := len_wt l
  have hs := sum_wt l
  have hs1 : ∀ i, (splitsAt l i).length ≤ 64 := fun i => by
    unfold splitsAt
    rw [List.length_map, List.length_range]
    by_cases hi : i < l.length
    · have h2 : l.getD i 0 ≤ l.sum := by
        rw [List.getD_eq_getElem?_getD, List.getElem?_eq_getElem hi]
        exact le_sum (List.getElem_mem hi)
      omega
    · rw [List.getD_eq_getElem?_getD, List.getElem?_eq_none (by omega)]
      simp
  have h1 := flat_len (f := splitsAt l) (n := 64) (List.range k) fun i _ => hs1 i
  rw [List.length_range] at h1
  have h2 : k * 64 ≤ 64 * 64 := Nat.mul_le_mul (by omega) (Nat.le_refl _)
  have h3 := hs1 k
  unfold preN
  rw [List.length_append, List.length_take]
  omega
theorem preN_more {l : List Nat} {k a h : Nat} (hk : l[k]? = some h) (ha : 1 ≤ a) (h2 : 2 * a < h) : preN l k a = preN l k (a - 1) ++ [ins (h - a) (ins a (l.eraseIdx k))] := by
  have e : l.getD k 0 = h := by rw [List.getD_eq_getElem?_getD, hk]; rfl
  have hj : (splitsAt l k)[a - 1]? = some (ins (h - a) (ins a (l.eraseIdx k))) := by
    unfold splitsAt
    rw [e, List.getElem?_map, List.getElem?_range (by omega), Option.map_some, show a - 1 + 1 = a by omega]
  unfold preN
  rw [List.append_assoc, show a = (a - 1) + 1 by omega, List.take_add_one, show a - 1 + 1 = a by omega, hj]
  rfl
theorem preN_done {l : List Nat} {k a h : Nat} (hk : l[k]? = some h) (ha : 1 ≤ a) (h2 : ¬ 2 * a < h) : preN l k (a - 1) = preN l (k + 1) 0 := by
  have e : l.getD k 0 = h := by rw [List.getD_eq_getElem?_getD, hk]; rfl
  unfold preN
  rw [List.range_succ, List.flatMap_append, List.take_of_length_le (by unfold splitsAt; rw [List.length_map, List.length_range, e]; omega)]
  simp
theorem preN_all {l : List Nat} (h : wtS l ≤ 64) : preN l l.length 0 = nxS l := by
  have hl := len_wt l
  have hs := sum_wt l
  unfold preN nxS
  rw [if_neg (by omega)]
  simp
theorem strsN_add (L : List (List Nat)) (x : List Nat) : strsN (L ++ [x]) = strsN L ++ [.string (strV x)] := by simp [strsN]
theorem erase_len {l : List Nat} {k : Nat} (hk : k < l.length) : (l.eraseIdx k).length + 1 = l.length := by
  rw [List.length_eraseIdx, if_pos hk]
  omega
theorem ins_small {x : Nat} {l : List Nat} (hx : x < 256) (h : ∀ y ∈ l, y < 256) : ∀ y ∈ ins x l, y < 256 := fun y hy => by
  rcases List.mem_cons.1 ((ins_perm x l).mem_iff.1 hy) with rfl | hy
  · exact hx
  · exact h y hy
theorem ins_len (x : Nat) (l : List Nat) : (ins x l).length = l.length + 1 := (ins_perm x l).length_eq
theorem erase_small {l : List Nat} (h : ∀ y ∈ l, y < 256) (k : Nat) : ∀ y ∈ l.eraseIdx k, y < 256 := fun y hy => h y ((List.eraseIdx_sublist l k).subset hy)
theorem erase_str (l : List Nat) (k : Nat) : strV (l.take k) ++ strV (l.drop (k + 1)) = strV (l.eraseIdx k) := by
  rw [strV_app, List.eraseIdx_eq_take_drop_succ]
set_option maxHeartbeats 1600000 in
set_option maxRecDepth 100000 in
theorem split_next (l : List Nat) (hw : wtS l ≤ 64) (w : World) : Calls Try.prog 70 #[.agg #[], .string (strV l)] w fun e w' => ∃ v, e = .returned v ∧ OwnR 9 1 w w' v (nxS l).length (strsN (nxS l)) ∧ Ext w w' := by
  have hlen := len_wt l
  have hsum := sum_wt l
  have hsm := small_of hw
  have HW := Lib.hid hw
  have HSM := Lib.hid hsm
  have HALL := Lib.hid (preN_all hw)
  have hss := strV_size l
  obtain ⟨n, hN⟩ : ∃ n, n = l.length := ⟨_, rfl⟩
  have HN := Lib.hid hN
  obtain ⟨S, hS⟩ : ∃ S, S = strV l := ⟨_, rfl⟩
  have HS := Lib.hid hS
  rw [← hS] at hss ⊢
  rw [← hN] at hss hlen
  have n64 : n ≤ 64 := by omega
  have HBY := Lib.hid (fun (k x : Nat) (hk : l[k]? = some x) (hs : k < S.size) => (by subst hS; exact strV_get hsm hk hs : ((S[k]'hs).toNat : Int) = (x : Int)))
  have HSZ := Lib.hid hss
  have HTS := Lib.hid (fun (k : Nat) => (show (l.take k).sum ≤ 64 by
    have h1 : (l.take k).sum + (l.drop k).sum = l.sum := by rw [← List.sum_append, List.take_append_drop]
    omega))
  have hx0 : Ext w (w.alloc (.cells #[] 50)) := ext_alloc (Below.refl _ _) _
  clear hlen hsum hsm hw hN hS
  have hsl : S.size ≤ 64 := by omega
  go_enter Try.func70, Try.ntmps70
  go_wp2_with fail
  go_loop [5, 13] (fun sm i => ∃ k : Nat, k ≤ n ∧ i = .int .i64 (k : Int) ∧ sm = .int .i64 ((l.take k).sum : Int)) (fun _ i => n - (intOf i).toNat)
  case atStart => exact ⟨0, Nat.zero_le _, rfl, rfl⟩
  case round =>
    obtain ⟨k, hk, rfl, rfl⟩ := hrel
    by_cases hkn : k < n
    · obtain ⟨y, hy⟩ : ∃ y, l[k]? = some y := ⟨_, List.getElem?_eq_getElem (by rw [← HN.out]; exact hkn)⟩
      have hks : k < S.size := by omega
      have hb := HBY.out k y hy hks
      have HSUM := Lib.hid (show (l.take (k + 1)).sum = (l.take k).sum + y by rw [List.take_add_one, hy, List.sum_append]; simp)
      have h1 := HTS.out (k + 1)
      rw [HSUM.out] at h1
      have HKN := Lib.hid hkn
      have t0 : decide ((k : Int) < (n : Int)) = true := decide_eq_true (by omega)
      have t0n : decide (k < n) = true := decide_eq_true hkn
      clear hy hk
      generalize (l.take k).sum = sm at *
      go_wp2
      go_round
      case rel => exact ⟨k + 1, HKN.out, by go_num, by rw [HSUM.out]; simp⟩
      case measure => have := HKN.out; simp [intOf]; omega
    · obtain rfl : k = n := by omega
      have h1 := HTS.out k
      have t0 : decide ((k : Int) < (k : Int)) = false := decide_eq_false (by omega)
      have t0n : decide (k < k) = false := decide_eq_false (by omega)
      have X0 := Lib.hid hx0
      clear hk hkn hx0
      generalize (l.take k).sum = sm at *
      go_wp2_with fail
      generalize w.alloc (.cells #[] 50) = wA at *
      generalize w.heap.size = BA at *
      go_loopw [7, 32] (fun v i wr => ∃ q : Nat, q ≤ k ∧ i = .int .i64 (q : Int) ∧ OwnR 9 1 wA wr v (preN l q 0).length (strsN (preN l q 0)) ∧ Ext wA wr) (fun _ i _ => k - (intOf i).toNat)
      case atStart => exact ⟨0, Nat.zero_le _, rfl, OwnR.nil _ _ _ _, Below.refl _ _⟩
      case round =>
        obtain ⟨q, hq, rfl, hO, hE⟩ := hrel
        obtain ⟨vA, vc, rfl, -⟩ := id hO
        have HO := Lib.hid hO
        have HE := Lib.hid hE
        by_cases hqk : q < k
        · have hql : q < l.length := by rw [← HN.out]; exact hqk
          obtain ⟨y, hy⟩ : ∃ y, l[q]? = some y := ⟨_, List.getElem?_eq_getElem hql⟩
          have hqs : q < S.size := by omega
          have hb := HBY.out q y hy hqs
          have y64 : y ≤ 64 := by
            have h2 := le_sum (List.mem_of_getElem? hy)
            have h3 := sum_wt l
            have h4 := HW.out
            omega
          have HEL := Lib.hid (erase_len hql)
          have HES := Lib.hid (erase_small HSM.out q)
          have hx1 : S.extract 0 q = strV (l.take q) := by rw [HS.out]; exact strV_take l q
          have hx2 : S.extract (q + 1) k = strV (l.drop (q + 1)) := by rw [← HSZ.out, HS.out]; exact strV_drop l (q + 1)
          have hx3 : strV (l.take q) ++ strV (l.drop (q + 1)) = strV (l.eraseIdx q) := erase_str l q
          have HPL := Lib.hid (fun a => preN_len HW.out (a := a) hql)
          have HPM := Lib.hid (fun a h1 h2 => preN_more (a := a) hy h1 h2)
          have HPD := Lib.hid (fun a h1 h2 => preN_done (a := a) hy h1 h2)
          have HQK := Lib.hid hqk
          have HY64 := Lib.hid y64
          have t1 : decide ((q : Int) < (k : Int)) = true := decide_eq_true (by omega)
          have t1n : decide (q < k) = true := decide_eq_true hqk
          have q64 : (q : Int) ≤ 64 := by omega
          have q1 : q ≤ k := by omega
          have q2 : IntKind.i64.wrap ((q : Int) + 1) = (q : Int) + 1 := by rw [IntKind.wrap_i64]; omega
          have q3 : (0 : Int) ≤ (q : Int) + 1 := by omega
          have q4 : (q : Int) + 1 ≤ (k : Int) := by omega
          have q5 : ((q : Int) + 1).toNat = q + 1 := by omega
          have q6 : ¬ (9223372036854775807 < (strV (l.take q)).size + (strV (l.drop (q + 1))).size) := by
            rw [strV_size, strV_size, List.length_take, List.length_drop, ← HN.out]
            omega
          clear hy hq hql hO hE hqk y64
          generalize l.eraseIdx q = re at *
          go_upto_region 13 with fail
          have keepK := hide (fun W (h : Ext wr W) => (show (fun W => Ext wr W) W from h))
          have yy : Ext wr wr.drew := Below.drew (Below.refl _ _)
          refine region_K (fun W => Ext wr W) (fun _ => True) [] (by kernel_rfl) ?_
          have hT0 := keepK.out _ yy
          refine anyK_take 0 (oi := ?oo17) ?ho17 (by kernel_rfl) (by kernel_rfl) (by kernel_rfl) (by kernel_rfl) ?hq17 ?hw17 hT0 (fun _ => trivial) (v := ?vv17) ?hy17 ?hk17
          case ho17 => (simp only [List.getElem?_toArray, List.getElem?_cons_succ, List.getElem?_cons_zero]; rfl)
          case hq17 => exact fun _ _ _ h => h
          case hw17 => rfl
          case hy17 =>
            intro W hW
            go_simp
            first | done | with_reducible rfl
          case hk17 =>
          try simp only [Act.put, List.setIfInBounds_toArray, List.set_cons_zero, List.set_cons_succ]
          refine anyK_take 1 (oi := ?oo18) ?ho18 (by kernel_rfl) (by kernel_rfl) (by kernel_rfl) (by kernel_rfl) ?hq18 ?hw18 hT0 (fun _ => trivial) (v := ?vv18) ?hy18 ?hk18
          case ho18 => (simp only [List.getElem?_toArray, List.getElem?_cons_succ, List.getElem?_cons_zero]; rfl)
          case hq18 => exact fun _ _ _ h => h
          case hw18 => rfl
          case hy18 =>
            intro W hW
            go_simp
            first | done | with_reducible rfl
          case hk18 =>
          try simp only [Act.put, List.setIfInBounds_toArray, List.set_cons_zero, List.set_cons_succ]
          refine anyK_take 2 (oi := ?oo19) ?ho19 (by kernel_rfl) (by kernel_rfl) (by kernel_rfl) (by kernel_rfl) ?hq19 ?hw19 hT0 (fun _ => trivial) (v := ?vv19) ?hy19 ?hk19
          case ho19 => (simp only [List.getElem?_toArray, List.getElem?_cons_succ, List.getElem?_cons_zero]; rfl)
          case hq19 => exact fun _ _ _ h => h
          case hw19 => rfl
          case hy19 =>
            intro W hW
            go_simp
            first | done | with_reducible rfl
          case hk19 =>
          try simp only [Act.put, List.setIfInBounds_toArray, List.set_cons_zero, List.set_cons_succ]
          refine anyK_take 3 (oi := ?oo20) ?ho20 (by kernel_rfl) (by kernel_rfl) (by kernel_rfl) (by kernel_rfl) ?hq20 ?hw20 hT0 (fun _ => trivial) (v := ?vv20) ?hy20 ?hk20
          case ho20 => (simp only [List.getElem?_toArray, List.getElem?_cons_succ, List.getElem?_cons_zero]; rfl)
          case hq20 => exact fun _ _ _ h => h
          case hw20 => rfl
          case hy20 =>
            intro W hW
            go_simp
            first | done | with_reducible rfl
          case hk20 =>
          try simp only [Act.put, List.setIfInBounds_toArray, List.set_cons_zero, List.set_cons_succ]
          refine anyK_take 4 (oi := ?oo21) ?ho21 (by kernel_rfl) (by kernel_rfl) (by kernel_rfl) (by kernel_rfl) ?hq21 ?hw21 hT0 (fun _ => trivial) (v := ?vv21) ?hy21 ?hk21
          case ho21 => (simp only [List.getElem?_toArray, List.getElem?_cons_succ, List.getElem?_cons_zero]; rfl)
          case hq21 => exact fun _ _ _ h => h
          case hw21 => rfl
          case hy21 =>
            intro W hW
            go_simp
            first | done | with_reducible rfl
          case hk21 =>
          try simp only [Act.put, List.setIfInBounds_toArray, List.set_cons_zero, List.set_cons_succ]
          refine anyK_take 5 (oi := ?oo22) ?ho22 (by kernel_rfl) (by kernel_rfl) (by kernel_rfl) (by kernel_rfl) ?hq22 ?hw22 hT0 (fun _ => trivial) (v := ?vv22) ?hy22 ?hk22
          case ho22 => (simp only [List.getElem?_toArray, List.getElem?_cons_succ, List.getElem?_cons_zero]; rfl)
          case hq22 => exact fun _ _ _ h => h
          case hw22 => rfl
          case hy22 =>
            intro W hW
            go_simp
            first | done | with_reducible rfl
          case hk22 =>
          try simp only [Act.put, List.setIfInBounds_toArray, List.set_cons_zero, List.set_cons_succ]
          refine anyK_take 6 (oi := ?oo23) ?ho23 (by kernel_rfl) (by kernel_rfl) (by kernel_rfl) (by kernel_rfl) ?hq23 ?hw23 hT0 (fun _ => trivial) (v := ?vv23) ?hy23 ?hk23
          case ho23 => (simp only [List.getElem?_toArray, List.getElem?_cons_succ, List.getElem?_cons_zero]; rfl)
          case hq23 => exact fun _ _ _ h => h
          case hw23 => rfl
          case hy23 =>
            intro W hW
            go_simp
            first | done | with_reducible rfl
          case hk23 =>
          try simp only [Act.put, List.setIfInBounds_toArray, List.set_cons_zero, List.set_cons_succ]
          refine anyK_take 7 (oi := ?oo24) ?ho24 (by kernel_rfl) (by kernel_rfl) (by kernel_rfl) (by kernel_rfl) ?hq24 ?hw24 hT0 (fun _ => trivial) (v := ?vv24) ?hy24 ?hk24
          case ho24 => (simp only [List.getElem?_toArray, List.getElem?_cons_succ, List.getElem?_cons_zero]; rfl)
          case hq24 => exact fun _ _ _ h => h
          case hw24 => rfl
          case hy24 =>
            intro W hW
            go_simp
            first | done | with_reducible rfl
          case hk24 =>
          try simp only [Act.put, List.setIfInBounds_toArray, List.set_cons_zero, List.set_cons_succ]
          refine anyK_on1 8 (by kernel_rfl) ?_
          refine anyK_one 8 (o := ?oo25) ?ho25 ?hk25
          case ho25 => (simp only [List.getElem?_toArray, List.getElem?_cons_succ, List.getElem?_cons_zero]; rfl)
          case hk25 =>
          intro K hK
          go_simp
          obtain ⟨rc, wb, hcv, hcl, xcv⟩ := to_bytes re HES.out wr.drew
          obtain ⟨rg, hrg⟩ : ∃ g, g = wr.drew.heap.size := ⟨_, rfl⟩
          rw [← hrg] at hcv hcl
          have HCL := Lib.hid hcl
          have xx := xcv
          clear hcl xcv hrg
          try simp only [hcv, Result.andThen_ok]
          replace yy := ext_trans yy xx
          have hT1 := keepK.out _ yy
          refine hK.out _ _ hT1 (fun _ => trivial) ?_
          clear hK K
          try simp only [Act.put, List.setIfInBounds_toArray, List.set_cons_zero, List.set_cons_succ]
          refine anyK_take 9 (oi := ?oo26) ?ho26 (by kernel_rfl) (by kernel_rfl) (by kernel_rfl) (by kernel_rfl) ?hq26 ?hw26 hT1 (fun _ => trivial) (v := ?vv26) ?hy26 ?hk26
          case ho26 => (simp only [List.getElem?_toArray, List.getElem?_cons_succ, List.getElem?_cons_zero]; rfl)
          case hq26 => exact fun _ _ _ h => h
          case hw26 => rfl
          case hy26 =>
            intro W hW
            go_simp
            first | done | with_reducible rfl
          case hk26 =>
          try simp only [Act.put, List.setIfInBounds_toArray, List.set_cons_zero, List.set_cons_succ]
          refine anyK_done (by kernel_rfl) ?_ _
          clear keepK hT0 hT1
          have HEB := Lib.hid (ext_trans HE.out yy)
          have HOB := Lib.hid (HO.out.ext yy)
          have HCB := Lib.hid HCL.out
          clear hx1 hx2 hx3 q1 q2 q3 q4 q5 q6 hcv xx yy HE HO HCL
          go_wp2_with fail
          go_loopw [7, 10] (fun v i wr => ∃ a : Nat, 1 ≤ a ∧ (a = 1 ∨ 2 * (a - 1) < y) ∧ i = .int .i64 (a : Int) ∧ OwnR 9 1 wA wr v (preN l q (a - 1)).length (strsN (preN l q (a - 1))) ∧ Ext wA wr ∧ RestAt wr rg re) (fun _ i _ => y - (intOf i).toNat)
          case atStart => exact ⟨1, Nat.le_refl _, .inl rfl, rfl, HOB.out, HEB.out, HCB.out⟩
          case round =>
            obtain ⟨a, ha1, ha2, rfl, hO, hE, hRe⟩ := hrel
            obtain ⟨vA2, vc2, rfl, -⟩ := id hO
            have HO := Lib.hid hO
            have HE := Lib.hid hE
            have HRE := Lib.hid hRe
            have y64 := HY64.out
            have a64 : a ≤ 64 := by omega
            have a0 : (0 : Int) ≤ (a : Int) := by omega
            have a1 : (a : Int) ≤ 64 := by omega
            have y1 : (y : Int) ≤ 64 := by omega
            have y2 : wrap64 (y : Int) = (y : Int) := by unfold wrap64; omega
            by_cases hay : 2 * a < y
            · have t2 : decide (2 * (a : Int) < (y : Int)) = true := decide_eq_true (by omega)
              have u1 : IntKind.u8.wrap (a : Int) = (a : Int) := by rw [IntKind.wrap_u8]; omega
              have u2 : IntKind.u8.wrap ((y : Int) - (a : Int)) = ((y - a : Nat) : Int) := by rw [IntKind.wrap_u8]; omega
              have HPM2 := Lib.hid (HPM.out a ha1 hay)
              have HLN := Lib.hid (HPL.out (a - 1))
              have HAY := Lib.hid hay
              have HSM1 := Lib.hid (ins_small (x := a) (by omega) HES.out)
              have HSM2 := Lib.hid (ins_small (x := y - a) (by omega) HSM1.out)
              have hrl : re.length ≤ 64 := by have := HEL.out; have := HN.out; omega
              have HI1 := Lib.hid (fun W (h : RestAt W rg re) => insert_any re a (some ⟨rg, 0, none⟩) rc W (by omega) h.2 (by simp))
              have HI2 := Lib.hid (fun W A c (h : CellsAt W A (bytesN (ins a re))) (hn : A = none → (ins a re).length = 0) => insert_any (ins a re) (y - a) A c W (by rw [ins_len]; omega) h hn)
              have HTS := Lib.hid (fun W A c (h : CellsAt W A (bytesN (ins (y - a) (ins a re)))) (hn : A = none → (ins (y - a) (ins a re)).length = 0) => to_str (ins (y - a) (ins a re)) HSM2.out A c W h hn)
              rw [ins_len, ins_len] at HTS
              rw [ins_len] at HI2
              clear hay ha1 ha2 hO hE hRe a64 y64 hrl
              generalize ins (y - a) (ins a re) = L2 at *
              generalize ins a re = L1 at *
              generalize preN l q (a - 1) = PP at *
              have qk : q < k := HQK.out
              go_upto_region 17 with fail
              have z0 : Ext wr wr.drew := Below.drew (Below.refl _ _)
              have keepK := hide (fun W (h : Ext wA W) => (show (fun W => Ext wA W) W from h))
              have yy := ext_trans HE.out z0
              refine region_K (fun W => Ext wA W) (fun _ => True) [] (by kernel_rfl) ?_
              have hT0 := keepK.out _ yy
              refine anyK_take 0 (oi := ?oo1) ?ho1 (by kernel_rfl) (by kernel_rfl) (by kernel_rfl) (by kernel_rfl) ?hq1 ?hw1 hT0 (fun _ => trivial) (v := ?vv1) ?hy1 ?hk1
              case ho1 => (simp only [List.getElem?_toArray, List.getElem?_cons_succ, List.getElem?_cons_zero]; rfl)
              case hq1 => exact fun _ _ _ h => h
              case hw1 => rfl
              case hy1 =>
                intro W hW
                go_simp
                first | done | with_reducible rfl
              case hk1 =>
              try simp only [Act.put, List.setIfInBounds_toArray, List.set_cons_zero, List.set_cons_succ]
              refine anyK_take 1 (oi := ?oo2) ?ho2 (by kernel_rfl) (by kernel_rfl) (by kernel_rfl) (by kernel_rfl) ?hq2 ?hw2 hT0 (fun _ => trivial) (v := ?vv2) ?hy2 ?hk2
              case ho2 => (simp only [List.getElem?_toArray, List.getElem?_cons_succ, List.getElem?_cons_zero]; rfl)
              case hq2 => exact fun _ _ _ h => h
              case hw2 => rfl
              case hy2 =>
                intro W hW
                go_simp
                first | done | with_reducible rfl
              case hk2 =>
              try simp only [Act.put, List.setIfInBounds_toArray, List.set_cons_zero, List.set_cons_succ]
              refine anyK_take 2 (oi := ?oo3) ?ho3 (by kernel_rfl) (by kernel_rfl) (by kernel_rfl) (by kernel_rfl) ?hq3 ?hw3 hT0 (fun _ => trivial) (v := ?vv3) ?hy3 ?hk3
              case ho3 => (simp only [List.getElem?_toArray, List.getElem?_cons_succ, List.getElem?_cons_zero]; rfl)
              case hq3 => exact fun _ _ _ h => h
              case hw3 => rfl
              case hy3 =>
                intro W hW
                go_simp
                first | done | with_reducible rfl
              case hk3 =>
              try simp only [Act.put, List.setIfInBounds_toArray, List.set_cons_zero, List.set_cons_succ]
              refine anyK_take 3 (oi := ?oo4) ?ho4 (by kernel_rfl) (by kernel_rfl) (by kernel_rfl) (by kernel_rfl) ?hq4 ?hw4 hT0 (fun _ => trivial) (v := ?vv4) ?hy4 ?hk4
              case ho4 => (simp only [List.getElem?_toArray, List.getElem?_cons_succ, List.getElem?_cons_zero]; rfl)
              case hq4 => exact fun _ _ _ h => h
              case hw4 => rfl
              case hy4 =>
                intro W hW
                go_simp
                first | done | with_reducible rfl
              case hk4 =>
              try simp only [Act.put, List.setIfInBounds_toArray, List.set_cons_zero, List.set_cons_succ]
              refine anyK_take 5 (oi := ?oo5) ?ho5 (by kernel_rfl) (by kernel_rfl) (by kernel_rfl) (by kernel_rfl) ?hq5 ?hw5 hT0 (fun _ => trivial) (v := ?vv5) ?hy5 ?hk5
              case ho5 => (simp only [List.getElem?_toArray, List.getElem?_cons_succ, List.getElem?_cons_zero]; rfl)
              case hq5 => exact fun _ _ _ h => h
              case hw5 => rfl
              case hy5 =>
                intro W hW
                go_simp
                first | done | with_reducible rfl
              case hk5 =>
              try simp only [Act.put, List.setIfInBounds_toArray, List.set_cons_zero, List.set_cons_succ]
              refine anyK_take 6 (oi := ?oo6) ?ho6 (by kernel_rfl) (by kernel_rfl) (by kernel_rfl) (by kernel_rfl) ?hq6 ?hw6 hT0 (fun _ => trivial) (v := ?vv6) ?hy6 ?hk6
              case ho6 => (simp only [List.getElem?_toArray, List.getElem?_cons_succ, List.getElem?_cons_zero]; rfl)
              case hq6 => exact fun _ _ _ h => h
              case hw6 => rfl
              case hy6 =>
                intro W hW
                go_simp
                first | done | with_reducible rfl
              case hk6 =>
              try simp only [Act.put, List.setIfInBounds_toArray, List.set_cons_zero, List.set_cons_succ]
              refine anyK_take 7 (oi := ?oo7) ?ho7 (by kernel_rfl) (by kernel_rfl) (by kernel_rfl) (by kernel_rfl) ?hq7 ?hw7 hT0 (fun _ => trivial) (v := ?vv7) ?hy7 ?hk7
              case ho7 => (simp only [List.getElem?_toArray, List.getElem?_cons_succ, List.getElem?_cons_zero]; rfl)
              case hq7 => exact fun _ _ _ h => h
              case hw7 => rfl
              case hy7 =>
                intro W hW
                go_simp
                first | done | with_reducible rfl
              case hk7 =>
              try simp only [Act.put, List.setIfInBounds_toArray, List.set_cons_zero, List.set_cons_succ]
              refine anyK_take 8 (oi := ?oo8) ?ho8 (by kernel_rfl) (by kernel_rfl) (by kernel_rfl) (by kernel_rfl) ?hq8 ?hw8 hT0 (fun _ => trivial) (v := ?vv8) ?hy8 ?hk8
              case ho8 => (simp only [List.getElem?_toArray, List.getElem?_cons_succ, List.getElem?_cons_zero]; rfl)
              case hq8 => exact fun _ _ _ h => h
              case hw8 => rfl
              case hy8 =>
                intro W hW
                go_simp
                first | done | with_reducible rfl
              case hk8 =>
              try simp only [Act.put, List.setIfInBounds_toArray, List.set_cons_zero, List.set_cons_succ]
              refine anyK_take 9 (oi := ?oo9) ?ho9 (by kernel_rfl) (by kernel_rfl) (by kernel_rfl) (by kernel_rfl) ?hq9 ?hw9 hT0 (fun _ => trivial) (v := ?vv9) ?hy9 ?hk9
              case ho9 => (simp only [List.getElem?_toArray, List.getElem?_cons_succ, List.getElem?_cons_zero]; rfl)
              case hq9 => exact fun _ _ _ h => h
              case hw9 => rfl
              case hy9 =>
                intro W hW
                go_simp
                first | done | with_reducible rfl
              case hk9 =>
              try simp only [Act.put, List.setIfInBounds_toArray, List.set_cons_zero, List.set_cons_succ]
              refine anyK_take 10 (oi := ?oo10) ?ho10 (by kernel_rfl) (by kernel_rfl) (by kernel_rfl) (by kernel_rfl) ?hq10 ?hw10 hT0 (fun _ => trivial) (v := ?vv10) ?hy10 ?hk10
              case ho10 => (simp only [List.getElem?_toArray, List.getElem?_cons_succ, List.getElem?_cons_zero]; rfl)
              case hq10 => exact fun _ _ _ h => h
              case hw10 => rfl
              case hy10 =>
                intro W hW
                go_simp
                first | done | with_reducible rfl
              case hk10 =>
              try simp only [Act.put, List.setIfInBounds_toArray, List.set_cons_zero, List.set_cons_succ]
              refine anyK_on1 4 (by kernel_rfl) ?_
              refine anyK_one 4 (o := ?oo11) ?ho11 ?hk11
              case ho11 => (simp only [List.getElem?_toArray, List.getElem?_cons_succ, List.getElem?_cons_zero]; rfl)
              case hk11 =>
              intro K hK
              go_simp
              refine (HI1.out _ (HRE.out.ext z0)).mono ?_
              rintro e wi ⟨v1, rfl, o1, xx⟩
              try go_wp2_with fail
              replace yy := ext_trans yy xx
              have z1 := ext_trans z0 xx
              obtain ⟨A1, c1, rfl, k1, -, k2, -⟩ := o1.cells
              have HC1 := Lib.hid k1
              have HN1 := Lib.hid k2
              clear k1 k2 o1
              have hT1 := keepK.out _ yy
              refine hK.out _ _ hT1 (fun _ => trivial) ?_
              clear hK K
              try simp only [Act.put, List.setIfInBounds_toArray, List.set_cons_zero, List.set_cons_succ]
              refine anyK_on1 11 (by kernel_rfl) ?_
              refine anyK_one 11 (o := ?oo12) ?ho12 ?hk12
              case ho12 => (simp only [List.getElem?_toArray, List.getElem?_cons_succ, List.getElem?_cons_zero]; rfl)
              case hk12 =>
              intro K hK
              go_simp
              refine (HI2.out _ _ _ HC1.out HN1.out).mono ?_
              rintro e wj ⟨v2, rfl, o2, xx⟩
              try go_wp2_with fail
              replace yy := ext_trans yy xx
              replace z1 := ext_trans z1 xx
              obtain ⟨A2, c2, rfl, k1, -, k2, -⟩ := o2.cells
              have HC2 := Lib.hid k1
              have HN2 := Lib.hid k2
              clear k1 k2 o2
              have hT2 := keepK.out _ yy
              refine hK.out _ _ hT2 (fun _ => trivial) ?_
              clear hK K
              try simp only [Act.put, List.setIfInBounds_toArray, List.set_cons_zero, List.set_cons_succ]
              refine anyK_on1 12 (by kernel_rfl) ?_
              refine anyK_one 12 (o := ?oo13) ?ho13 ?hk13
              case ho13 => (simp only [List.getElem?_toArray, List.getElem?_cons_succ, List.getElem?_cons_zero]; rfl)
              case hk13 =>
              intro K hK
              go_simp
              have hts := HTS.out wj A2 c2 HC2.out HN2.out
              try simp only [hts, Result.andThen_ok]
              have HTS9 := Lib.hid hts
              clear hts
              have hT3 := keepK.out _ yy
              refine hK.out _ _ hT3 (fun _ => trivial) ?_
              clear hK K
              try simp only [Act.put, List.setIfInBounds_toArray, List.set_cons_zero, List.set_cons_succ]
              refine anyK_on1 13 (by kernel_rfl) ?_
              refine anyK_one 13 (o := ?oo14) ?ho14 ?hk14
              case ho14 => (simp only [List.getElem?_toArray, List.getElem?_cons_succ, List.getElem?_cons_zero]; rfl)
              case hk14 =>
              intro K hK
              go_simp
              replace yy := ext_alloc yy (.cells #[.string (strV L2)] 9)
              have hT4 := keepK.out _ yy
              refine hK.out _ _ hT4 (fun _ => trivial) ?_
              clear hK K
              try simp only [Act.put, List.setIfInBounds_toArray, List.set_cons_zero, List.set_cons_succ]
              refine anyK_on1 14 (by kernel_rfl) ?_
              refine anyK_one 14 (o := ?oo15) ?ho15 ?hk15
              case ho15 => (simp only [List.getElem?_toArray, List.getElem?_cons_succ, List.getElem?_cons_zero]; rfl)
              case hk15 =>
              intro K hK
              refine oper_append_r (.tmp 53) (.tmp 66) 105 rfl 9 1 16 (.string ⟨#[]⟩) Try.underlying105 strInfoN rfl (by decide) (by decide) wA wj (.slice vA2 PP.length vc2) PP.length (strsN PP) [.string (strV L2)] rfl (HO.out.ext z1) rfl rfl (by simp [Value.oneCell']) (ext_trans HE.out z1) (by have := HLN.out; omega) ?_
              intro v9 w9 own9 x9 g9
              have HO9 := Lib.hid own9
              have HR9 := Lib.hid ((HRE.out.ext z1).grown (HO.out.ext z1) g9)
              have yy := x9
              clear own9 x9 g9
              have hT5 := keepK.out _ yy
              refine hK.out _ _ hT5 (fun _ => trivial) ?_
              clear hK K
              try simp only [Act.put, List.setIfInBounds_toArray, List.set_cons_zero, List.set_cons_succ]
              refine anyK_take 15 (oi := ?oo16) ?ho16 (by kernel_rfl) (by kernel_rfl) (by kernel_rfl) (by kernel_rfl) ?hq16 ?hw16 hT5 (fun _ => trivial) (v := ?vv16) ?hy16 ?hk16
              case ho16 => (simp only [List.getElem?_toArray, List.getElem?_cons_succ, List.getElem?_cons_zero]; rfl)
              case hq16 => exact fun _ _ _ h => h
              case hw16 => rfl
              case hy16 =>
                intro W hW
                go_simp
                first | done | with_reducible rfl
              case hk16 =>
              try simp only [Act.put, List.setIfInBounds_toArray, List.set_cons_zero, List.set_cons_succ]
              refine anyK_done (by kernel_rfl) ?_ _
              clear keepK hT0 hT1 hT2 hT3 hT4 hT5
              clear z0 z1
              rw [← strsN_add] at HO9
              have e9 : (PP ++ [L2]).length = PP.length + 1 := by simp
              rw [← e9, ← HPM2.out] at HO9
              have YY := Lib.hid yy
              clear yy e9 qk u1 u2
              go_wp2
              go_roundw
              case rel => exact ⟨a + 1, by omega, .inr HAY.out, by go_num, HO9.out, YY.out, HR9.out⟩
              case measure => have := HAY.out; simp [intOf]; omega
            · have t2 : decide (2 * (a : Int) < (y : Int)) = false := decide_eq_false (by omega)
              have hd := HPD.out a ha1 hay
              have hO2 : OwnR 9 1 wA wr (.slice vA2 (preN l q (a - 1)).length vc2) (preN l (q + 1) 0).length (strsN (preN l (q + 1) 0)) := by rw [← hd]; exact HO.out
              have HO2 := Lib.hid hO2
              have qk : q < k := HQK.out
              clear hO2 hd hay ha1 ha2 hO hE hRe a64 y64
              go_wp2
              go_roundw
              case rel => exact ⟨q + 1, HQK.out, by go_num, HO2.out, HE.out⟩
              case measure => have := HQK.out; simp [intOf]; omega
        · obtain rfl : q = k := by omega
          have t1 : decide ((q : Int) < (q : Int)) = false := decide_eq_false (by omega)
          have t1n : decide (q < q) = false := decide_eq_false (by omega)
          have hall := HALL.out
          rw [← HN.out] at hall
          have hf : OwnR 9 1 wA wr (.slice vA (preN l q 0).length vc) (nxS l).length (strsN (nxS l)) := by
            have h9 := HO.out
            rw [hall] at h9 ⊢
            exact h9
          have HF := Lib.hid (hf.base (w0 := w) X0.out.size)
          have HX := Lib.hid (ext_trans X0.out HE.out)
          clear hq hqk hO hE hf hall
          go_wp2
          go_ret
          exact ⟨_, rfl, HF.out, HX.out⟩

end Go.Proofs.Ythgbdonjheengaa
